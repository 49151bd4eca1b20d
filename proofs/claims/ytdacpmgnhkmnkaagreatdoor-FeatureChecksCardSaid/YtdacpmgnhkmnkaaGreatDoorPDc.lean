/-
  A part of the proof: the small machine, its simulation and its walks.
-/
import Derived.Test.YtdacpmgnhkmnkaaGreatDoorPDb
set_option linter.unusedVariables false
set_option linter.unusedSimpArgs false
set_option linter.unusedSectionVars false
set_option linter.defProp false
set_option maxRecDepth 1000000
set_option maxHeartbeats 3200000
open Nat renaming reduceLT → Xa, reduceAdd → Xb, reduceMul → Xc, reduceLeDiff → Xd, reduceEqDiff → Xe
open Go.Proofs.YtdacpmgnhkmnkaaGreatDoor.IV renaming int → aG
open Go.Proofs.YtdacpmgnhkmnkaaGreatDoor.aO renaming cells → aI
open Go.IntKind renaming i64 → aH
noncomputable section
namespace Go.Proofs.YtdacpmgnhkmnkaaGreatDoor
section
open Go Go.RowKit
def Bk(dZ:aU)(b:Nat)(c:List IV):aU:=dZ.set b (aI c)
def pM(dZ:aU)(b:Nat)(aK:aU):Prop:=∀ j,j<dZ.length->j≠b->aK[j]?=dZ[j]?
section
variable {dZ R J:aU} {b:Nat} {c c':List IV}
theorem zfa:(Bk dZ b c).length=dZ.length:=by simp[Bk]
theorem BA(h:b<dZ.length):(Bk dZ b c++R)[b]?=some (aI c):=by rw[gT (by rw[zfa];exact h)];simp[Bk,h]
theorem G2(h:b<dZ.length):(Bk dZ b c++R).set b (aI c')=Bk dZ b c'++R:=by rw[List.set_append_left _ _ (by rw[zfa];exact h)];simp[Bk]
theorem U7{vis:List Nat}{k:Nat}(h:b<dZ.length):(b7 vis (dZ.length+k) (Bk dZ b c++R))[b]?=some (aI c):=by rw[zp,BA h];simp;omega
theorem Av:pM dZ b (Bk dZ b c++R):=by intro j h1 h2;rw[gT (by rw[zfa];exact h1)];simp only[Bk];rw[nr (uE h2)]
theorem vT{vis:List Nat}{k:Nat}:pM dZ b (b7 vis (dZ.length+k) (Bk dZ b c++R)):=by intro j h1 h2;rw[zp,Av j h1 h2];rw[cK h1];simp;omega
theorem JU{l:aU}(h:l[b]?=some (aI c)):Bk l b c=l:=by obtain⟨h1,h2⟩:=cU.1 h;unfold Bk;rw[←h2,List.set_getElem_self]
end
structure Nw{α:Type}(g:α->List IV)(e:α->IV)(sz:Nat)(agg:Bool):Prop where
 len:∀ x,(g x).length=sz
 cells:∀ x,(e x).cells=g x
 tJ:∀ x,(g x).all IV.scalar=true
 val:∀ x,mg agg (g x)=some (e x)
section
variable {α:Type} {g:α->List IV} {e:α->IV} {sz:Nat} {agg:Bool} {xs:List α} {i j:Nat} {x y:α}
theorem CU:∀(p l:List IV),bM (p++l) p.length l.length=some l
 |p,[]=>rfl
 |p,x::l=>by have h:=CU (p++[x]) l;simp only[kR,gQ,gM,eR,cu,dw,fO]at h;unfold bM;simp only[cu,jd (dz _),rM,qU,h,gH]
theorem Ll{l:List IV}:bM l 0 l.length=some l:=CU [] l
theorem Nw.ld(h:Nw g e sz agg)(hx:xs[i]?=some x):(bM (xs.flatMap g) (i*sz) sz).bind (mg agg)=some (e x):=by have h1:=zd h.len 0 sz hx Ω;rw[sY]at h1;rw[h1,←h.len x,Ll,jG,h.val]
theorem VY{l1 a l2:List IV}{k:Nat}(h:l1.length+a.length<=k):(l1++(a++l2))[k]?=l2[k-l1.length-a.length]?:=by rw[jd Ω,jd Ω]
theorem NH(hg:∀ x,(g x).length=sz):∀{xs:List α}{i:Nat},i<xs.length->gV (xs.flatMap g) (i*sz) (g x)=(xs.set i x).flatMap g:=by
 intro xs i hi;refine E8 fun k=>?_;have hl:i*sz+(g x).length<=(xs.flatMap g).length:=by rw[hg,zl hg];have:=HL sz (Nat.succ_le_of_lt hi);rw[NB]at this;exact this
 rw[ZQ _ _ _ _ hl,hg];have key:∀(l1 l2:List α)(z:α),(l1++z::l2).flatMap g=l1.flatMap g++(g z++l2.flatMap g):=fun l1 l2 z=>by simp
 have hsplit:xs=xs.take i++xs[i]::xs.drop (i+1):=by simp
 have sU:xs.set i x=xs.take i++x::xs.drop (i+1):=by rw[List.set_eq_take_append_cons_drop,bt hi]
 rw[sU,key];conv=>lhs;rw[hsplit,key]
 have ht:((xs.take i).flatMap g).length=i*sz:=by rw[zl hg,k8,qu (Nat.le_of_lt hi)]
 split
 ·rename_i h1;rw[jd Ω,ht,gT (by rw[hg];omega)]
 ·rename_i h1;by_cases h2:k<i*sz
  ·rw[gT Ω,gT Ω]
  ·rw[VY (by rw[ht,hg];omega),VY (by rw[ht,hg];omega),hg,hg]
theorem Nw.st(h:Nw g e sz agg)(hi:i<xs.length):gV (xs.flatMap g) (i*sz) (g x)=(xs.set i x).flatMap g:=NH h.len hi
theorem Nw.fits(h:Nw g e sz agg)(hi:i<xs.length):i*sz+sz<=(xs.flatMap g).length:=by rw[zl h.len];have:=HL sz (Nat.succ_le_of_lt hi);rw[NB]at this;exact this
end
theorem Wlk:(type_of% @Wc):=@Wc
section
variable {t:List IV} {i j n:Nat} {v z:IV} {l:List (Nat×IV)}
theorem C3:(put t (some i) v).length=t.length:=by rw[yd,s6]
theorem WS(h:i<t.length):bH z (put t (some i) v) i=v:=by rw[yd,z6,mN,oa h];rfl
theorem WR(h:i≠j):bH z (put t (some i) v) j=bH z t j:=by rw[yd,z6,z6,mN,mN,nr h]
theorem WQ(h:i<t.length):(put t (some i) v)[i]?=some v:=by rw[yd,oa h]
theorem WO(h:i≠j):(put t (some i) v)[j]?=t[j]?:=by rw[yd,nr h]
def IC.sub:IC->List Nat->IC
 |c,[]=>c
 |.seq a _,0::p=>a.sub p
 |.seq _ b,_::p=>b.sub p
 |.cond _ a _,0::p=>a.sub p
 |.cond _ _ b,_::p=>b.sub p
 |.block _ a,_::p=>a.sub p
 |.loop a,_::p=>a.sub p
 |c,_=>c
def aN(n:Nat)(t:List IV)(l:List (Nat×IV)):Prop:=t.length=n/\∀ p∈l,bH (.tuple []) t p.1=p.2
theorem zc:aN n t []=(t.length=n):=propext ⟨fun h=>h.1,fun h=>⟨h,Ψ⟩⟩
theorem zb:aN n t ((i,v)::l)=(bH (.tuple []) t i=v/\aN n t l):=by
 unfold aN;refine propext ⟨fun⟨h1,h2⟩=>⟨h2 (i,v) Ψ,h1,fun p hp=>h2 p (by simp[hp])⟩,fun⟨h1,h2,h3⟩=>⟨h2,fun p hp=>?_⟩⟩;rcases fF.1 hp with rfl|hp
 ·exact h1
 ·exact h3 p hp
end
theorem Ij{cs:List IV}{o:Nat}:(IV.ptrC cs o).scalar=true:=dO rfl rfl
theorem Ez{cs:List IV}{o:Nat}:(IV.ptrC cs o).cells=[.ptrC cs o]:=dO rfl rfl
section
variable {K:fP} {es:List eV} {st:St} {e:eV} {fr:List (Nat×Nat)} {i j:Nat}
theorem Qn:MW [] K es st=K .normal st:=by simp[MW]
theorem Jy(h:comm (es.getD j .x) (es.getD i .x)=true):MW ((j,i)::fr) K es st=MW fr K es st:=by unfold MW;rw[qt,h,pX]
theorem afx{l:List eV}{z:eV}:(e::l).getD 0 z=e:=dO rfl rfl
theorem afw{l:List eV}{z:eV}:(e::l).getD (i+1) z=l.getD i z:=dO rfl rfl
theorem af0:comm .p e=true:=by cases e<;>rfl
theorem afz:comm e .p=true:=by cases e<;>rfl
theorem W4:comm .r .r=true:=dO rfl rfl
theorem W6:comm .r .a=true:=dO rfl rfl
theorem Xf:comm .a .r=true:=dO rfl rfl
theorem Xh:comm .a .a=true:=dO rfl rfl
variable {a b c d a' b' c' d':Nat}
theorem W5:comm .r (.rl a b c d)=true:=dO rfl rfl
theorem W7:comm (.rl a b c d) .r=true:=dO rfl rfl
theorem Xg:comm .a (.rl a b c d)=true:=dO rfl rfl
theorem W9:comm (.rl a b c d) .a=true:=dO rfl rfl
theorem W8:comm (.rl a b c d) (.rl a' b' c' d')=true:=dO rfl rfl
end
def V0:=aj @Wlk<|aj @C3<|aj @WS<|aj @WR<|aj @WQ<|aj @WO<|aj @zc<|aj @zb<|aj @ne_eq.{1}<|aj @zna<|aj @zn6<|aj @gQ.{0}<|aj @gM.{0}<|aj @iL.{0}<|aj @qt.{0}<|aj @VK.{0}<|aj @HH<|aj @Kn<|aj @pX<|aj @if_true.{1}<|aj @dw.{0}<|aj @cu.{0}<|aj @fO<|aj @sY<|aj @dz<|aj @Nx<|aj @Nz<|aj @Ny<|aj @qU.{0}<|aj @jP.{0}<|aj @gH.{0,0}<|aj @NC.{0,0}<|aj @jG.{0,0}<|aj @l7<|aj @if_false.{1}<|aj @nK.{0,0}<|aj @BY.{0,0}<|aj @zog<|aj @decide_true<|aj @decide_false<|aj @n9.{0}<|aj @kR.{0}<|aj @eR.{0}<|aj @vA<|aj @BW<|aj @dU.eq_1<|aj @Go.Proofs.YtdacpmgnhkmnkaaGreatDoor.look.eq_1<|aj @AR<|aj @AQ<|aj @iq.eq_1<|aj @iq.eq_2<|aj @bq.eq_1<|aj @bq.eq_2<|aj @bq.eq_3<|aj @bq.eq_4<|aj @bq.eq_5<|aj @bq.eq_6<|aj @bq.eq_7<|aj @bq.eq_8<|aj @bq.eq_9<|aj @bq.eq_10<|aj @bq.eq_11<|aj @bq.eq_12<|aj @bq.eq_13<|aj @bq.eq_14<|aj @x7<|aj @xZ<|aj @Aj<|aj @xY<|aj @Ab<|aj @x9<|aj @x8<|aj @Ai<|aj @Ih<|aj @xX<|aj @Ah<|aj @Aa<|aj @Ad<|aj @Ae<|aj @Af<|aj @Ag<|aj @pZ.eq_1<|aj @pZ.eq_2<|aj @dh.eq_1<|aj @dh.eq_2<|aj @gY.eq_1<|aj @b8.eq_1<|aj @dK.eq_1<|aj @ff.eq_1<|aj @cA.eq_1<|aj @dL.eq_1<|aj @cL.eq_1<|aj @eP.eq_1<|aj @fI.eq_1<|aj @fH.eq_1<|aj @cO.eq_1<|aj @dM.eq_1<|aj @cN.eq_1<|aj @cM.eq_1<|aj @bg.eq_1<|aj @dY.eq_1<|aj @iW.eq_1<|aj @AE<|aj @AD<|aj @AB<|aj @AA<|aj @Az<|aj @Ay<|aj @Aw<|aj @Ij<|aj @eq_self.{1}<|aj @Ez<|aj @Qn<|aj @Jy<|aj @afx<|aj @afw<|aj @af0<|aj @afz<|aj @W4<|aj @W6<|aj @Xf<|aj @Xh<|aj @W5<|aj @W7<|aj @Xg<|aj @W9<|@W8
def L1:=aj @zfa<|aj @Av<|aj @vT<|aj @zm<|aj @s6.{0}<|aj @eZ.{0}<|aj @mM.{0}<|@Int.ofNat_le
theorem L2{dZ:aU}{b:Nat}{α:Type}{g:α->List IV}{e:α->IV}{sz:Nat}{agg:Bool}(hb:b<dZ.length)(hE:Nw g e sz agg):(∀{c:List IV}{R:aU},(Bk dZ b c++R)[b]?=some (aI c))/\(∀{c c':List IV}{R:aU},(Bk dZ b c++R).set b (aI c')=Bk dZ b c'++R)/\(∀{c:List IV}{R:aU}{vis:List Nat}{k:Nat},(b7 vis (dZ.length+k) (Bk dZ b c++R))[b]?=some (aI c))/\(∀ x,(e x).cells=g x)/\(∀ x,(g x).length=sz)/\(∀ x,(g x).all IV.scalar=true)/\(∀{xs:List α}{i:Nat}{x:α},i<xs.length->gV (xs.flatMap g) (i*sz) (g x)=(xs.set i x).flatMap g)/\(∀{xs:List α}{i:Nat},i<xs.length->i*sz+sz<=(xs.flatMap g).length) :=
 ⟨BA hb,G2 hb,U7 hb,hE.cells,hE.len,hE.tJ,hE.st,hE.fits⟩
def slotsOf:Nat->List IV->List (Nat×IV)
 |_,[]=>[]
 |k,x::xs=>(k,x)::slotsOf (k+1) xs
def V2:=aj @slotsOf.eq_1<|aj @slotsOf.eq_2<|aj @zb<|aj @zc<|@fO
def V3:=aj @zb<|aj @zc<|@zg
theorem gx{α:Type}{l:List α}{i:Nat}(h:i<l.length):∃ x,l[i]?=some x:=⟨_,cK h⟩
theorem yw:∀{xs:List IV}{k:Nat}{p:Nat×IV},p∈slotsOf k xs->∃ j,p.1=k+j/\xs[j]?=some p.2
 |[],_,_,h=>by simp[slotsOf]at h
 |x::xs,k,p,h=>by
  simp only[slotsOf,fF]at h;rcases h with rfl|h
  ·exact⟨0,rfl,rfl⟩
  ·obtain⟨j,h1,h2⟩:=yw h;exact⟨j+1,Ω,h2⟩
def VI(d:Nat)(ah:bR)(rs:List nZ)(Q:IV->List aO->Prop)(o:Out)(st:St):Prop:=(o=.normal∨o=.ret)/\∃ v,bP d ah st rs=some v/\Q v st.aa
section
variable {F:FuncId->Option jy} {S:cZ} {d:Nat} {ah:bR} {rs:List nZ} {Q:IV->List aO->Prop} {st:St}
theorem yJ:VI d ah rs Q .ret st=∃ v,bP d ah st rs=some v/\Q v st.aa:=propext ⟨fun h=>h.2,fun h=>⟨.inr rfl,h⟩⟩
theorem ZV:VI d ah rs Q .normal st=∃ v,bP d ah st rs=some v/\Q v st.aa:=propext ⟨fun h=>h.2,fun h=>⟨.inl rfl,h⟩⟩
theorem Uz{f:FuncId}{i:jy}{args:List IV}{m:Nat}{aK aa:aU}(hS:S f args=none)(hi:F f=some i)(hm:i.mode=2)
  (h:Ex (aM F S m) d ah m i.body (VI d ah i.res Q) ⟨args++List.replicate (i.ntmps-args.length) (.tuple []),aa⟩):∃ v aX,(∀ id,aM F S (m+1) d ah aK aa id f args=some (.x,v,aX))/\Q v aX:=by
 obtain⟨o,st,h1,h2,v,h3,h4⟩:=h
 refine⟨v,st.aa,fun id=>?_,h4⟩
 simp only[aM,hS,hi,hm,if_true,zi,h1]
 rcases h2 with rfl|rfl<;>simp only[ended,h3,gH]
end
theorem yU{F:FuncId->Option jy}{S:cZ}{d:Nat}{ah:bR}{Q:IV->List aO->Prop}{f:FuncId}{i:jy}{args:List IV}{m:Nat}{aK aa:aU}(hS:S f args=none)(hi:F f=some i)(hm:i.mode=2)(hl:args.length<=i.ntmps)
  (h:∀ t,aN i.ntmps t (slotsOf 0 args)->Ex (aM F S m) d ah m i.body (VI d ah i.res Q) ⟨t,aa⟩):∃ v aX,(∀ id,aM F S (m+1) d ah aK aa id f args=some (.x,v,aX))/\Q v aX:=by
 refine Uz hS hi hm (h _ ⟨by simp;omega,fun p hp=>?_⟩)
 obtain⟨j,h1,h2⟩:=yw hp
 rw[z6,mN,h1,fO,gT (cU.1 h2).1,h2]
 rfl
theorem zbo{k:Int}{n:Nat}(h:k=n)(hn:n<9223372036854775808):aT .i64 k=(n:Int):=by subst h;exact(zT _ _).trans (IntWalk.i64_in _ (by constructor<;>omega))
theorem we{k:Int}{n:Nat}(h:k=n:=by omega)(hn:n<9223372036854775808:=by omega):aT .i64 k=(n:Int):=zbo h hn
theorem zD{k n:Int}(h:k=n)(h1:-9223372036854775808<=n)(h2:n<9223372036854775808):aT .i64 k=n:=by subst h;exact(zT _ _).trans (IntWalk.i64_in _ (by constructor<;>omega))
def xH{α:Type}(S:cZ)(N d:Nat)(ah:bR)(dZ:aU)(b:Nat)(e:α->IV)(gf:FuncId)(caps:List IV)(r:α->α->Int):Prop :=
 ∀ m,N<=m->∀ aK aa id x y,pM dZ b aK->aM aR S m d ah aK aa id gf (e x::e y::caps)=some (.r,aG aH (r x y),aa)
theorem cD{p:Prop}(h:p:=by simp only[V0,seval, *]):p:=h
theorem zq(i:Nat)(h:i+1<9223372036854775808:=by omega):aT .i64 ((i:Int)+1)=((i+1:Nat):Int):=zbo Ω Ω
theorem me(m k:Nat)(h:k<=m:=by omega):∃ q,m=q+k:=⟨m-k,Ω⟩
theorem ZF{S:cZ}{f:FuncId}{i:jy}{args:List IV}{v:IV}(hS:S f args=none)(hi:aR f=some i)(hm:i.mode=0)(hl:args.length<=i.ntmps)(N:Nat)(hN:1<=N)(hv:Fz 1 v)
  (h:∀ m,N<=m->∀ d ah t,aN i.ntmps t (slotsOf 0 args)->Ex (aM aR S m) d ah m i.body (Fin d ah i.res v) ⟨t,[]⟩):∀ m,N+1<=m->∀ d ah aK aa id,aM aR S m d ah aK aa id f args=some (.r,v,aa):=by
 intro m hm1 d ah aK aa id
 obtain⟨m,rfl⟩:=me m 1
 obtain ⟨o,st,h1,h2,h3⟩:=h m Ω (d+1) (fun l=>if l=d then aK else ah l) (args++List.replicate (i.ntmps - args.length) (.tuple [])) ⟨by simp; omega,fun p hp=>by
  obtain⟨j,h1,h2⟩:=yw hp;rw[z6,mN,h1,fO,gT (cU.1 h2).1,h2];rfl⟩
 have hm0:¬ (0=2):=by decide
 have P4:¬ (0=3):=by decide
 have P3:¬ (4<=0):=by decide
 have hf:freeze m (d+1) st.aa v=some v:=hv m Ω _ _
 simp only[aM,hS,hi,hm,hm0,P4,P3,if_false,zi,h1]
 rcases h2 with rfl|rfl<;>simp[ended,h3,leave,hf]
theorem gv{S:cZ}{f:FuncId}(i:jy){args:List IV}{v:IV}(hS:bN S)(N:Nat)(hv:Fz 1 v)(h:∀ m,N<=m->∀ d ah t,aN i.ntmps t (slotsOf 0 args)->Ex (aM aR S m) d ah m i.body (Fin d ah i.res v) ⟨t,[]⟩)(h0:sf f=true:=by rfl)(hi:aR f=some i:=by rfl)(hm:i.mode=0:=by rfl)(hl:args.length<=i.ntmps:=by exact lb rfl)(hN:1<=N:=by omega):∀ m,N+1<=m->∀ d ah aK aa id,aM aR S m d ah aK aa id f args=some (.r,v,aa):=ZF (ns hS h0) hi hm hl N hN hv h
theorem TV{S:cZ}{f:FuncId}{i:jy}{args az:List IV}{m d:Nat}{ah:bR}{aK aa:aU}{id:Nat}(h1:S f args=none)(h2:S f az=none)(hi:aR f=some i)(hm:i.mode=3)(ha:args.mapM (bA 12 d aK)=az.mapM (bA 12 d aK)):aM aR S m d ah aK aa id f args=aM aR S m d ah aK aa id f az:=by
 have h32:¬ (3=2):=by decide
 cases m with
 |zero=>rfl
 |succ m=>simp only[aM,h1,h2,hi,hm,bC h32,if_true,ha]
theorem wJ{S:cZ}{f:FuncId}{i:jy}{args:List IV}{v:IV}(hS:S f args=none)(hi:aR f=some i)(hm:i.mode=0∨i.mode=3)(hl:args.length<=i.ntmps)(N:Nat)(hN:1<=N)(hv:Fz 1 v)(hsc:∀ o,pR o v=some (.r,v,o))(hc:∀ d aa,args.mapM (bA 12 d aa)=some args)
  (h:∀ m,N<=m->∀ d ah t,aN i.ntmps t (slotsOf 0 args)->Ex (aM aR S m) d ah m i.body (Fin d ah i.res v) ⟨t,[]⟩):∀ m,N+1<=m->∀ d ah aK aa id,aM aR S m d ah aK aa id f args=some (.r,v,aa):=by
 rcases hm with hm|hm
 ·exact ZF hS hi hm hl N hN hv h
 intro m hm1 d ah aK aa id
 obtain⟨m,rfl⟩:=me m 1
 obtain ⟨o,st,h1,h2,h3⟩:=h m Ω 0 (fun _=>[]) (args++List.replicate (i.ntmps - args.length) (.tuple [])) ⟨by simp; omega,fun p hp=>by
  obtain⟨j,h1,h2⟩:=yw hp;rw[z6,mN,h1,fO,gT (cU.1 h2).1,h2];rfl⟩
 have h32:¬ (3=2):=by decide
 simp only[aM,hS,hi,hm,bC h32,if_true,hc,jG,zi,h1]
 rcases h2 with rfl|rfl<;>simp[ended,h3,hsc]
theorem LV{S:cZ}(hS:bN S)(x:Int):∀ m,2<=m->∀ d ah aK aa id,aM aR S m d ah aK aa id 147 [aG aH x]=some (.r,.bool false,aa):=by
 refine gv i147 hS 1 zj fun m hm d ah t af=>?_;simp only[slotsOf,zb,zc,i147]at af;have hx:(x != x)=false:=by simp
 simp only[i147,V0,seval,af,hx]
def aP(S:cZ)(N:Nat)(f:FuncId)(args:List IV)(v:IV):Prop:=∀ m,N<=m->∀ d ah aK aa id,aM aR S m d ah aK aa id f args=some (.r,v,aa)
theorem Zl(a b:IV):rep [a,b] 3=[a,b,a,b,a,b]:=dO rfl rfl
theorem YO(a b:IV):rep [a,b] 4=[a,b,a,b,a,b,a,b]:=dO rfl rfl
def bl(p:Pt):Bool:=!(decide (p.x < -2097152)||decide (2097152<p.x)||decide (p.y < -2097152)||decide (2097152<p.y))
def KH(a b c:Pt):Int:=aT .i64 (aT .i64 (aT .i64 (b.x-a.x)*aT .i64 (c.y-a.y))-aT .i64 (aT .i64 (b.y-a.y)*aT .i64 (c.x-a.x)))
section
variable {S:cZ}
theorem zfb(hS:bN S)(a b c:Pt):aP S 2 150 [.agg a.c,.agg b.c,.agg c.c] (aG aH (KH a b c)):=by refine gv i150 hS 1 zn fun m hm d ah t af=>?_;simp only[V2,Xb,i150,Pt.c]at af;simp only[i150,V0,seval,af,KH]
theorem MC(hS:bN S)(a b:Pt):aP S 2 220 [.agg a.c,.agg b.c] (.bool (decide (a.x<b.x)||(a.x==b.x&&decide (a.y<b.y)))):=by
 refine gv i220 hS 1 zj fun m hm d ah t af=>?_;simp only[V2,i220,Pt.c]at af;cases h1:decide (a.x<b.x)
 ·cases h2:a.x==b.x
  ·simp only[i220,V0,seval,af,h1,h2,iS,ew]
  ·simp only[i220,V0,seval,af,h1,h2,iS]
 ·simp only[i220,V0,seval,af,h1,iY]
theorem Rw(hS:bN S)(a b:Pt):aP S 2 189 [.agg a.c,.agg b.c] (.bool (decide (b.y<a.y)||(b.y==a.y&&decide (b.x<a.x)))):=by
 refine gv i189 hS 1 zj fun m hm d ah t af=>?_;simp only[V2,i189,Pt.c]at af;cases h1:decide (b.y<a.y)
 ·cases h2:b.y==a.y
  ·simp only[i189,V0,seval,af,h1,h2,iS,ew]
  ·simp only[i189,V0,seval,af,h1,h2,iS]
 ·simp only[i189,V0,seval,af,h1,iY]
theorem zdv(hS:bN S)(l:List Pt)(hl:l.length<=1000):aP S (l.length+4) 149 [.slC (l.flatMap Pt.c) l.length 2 true] (.bool (l.all bl)):=by
 refine gv i149 hS (l.length+3) zj fun m hm d ah t af=>?_;simp only[slotsOf,zb,zc,i149]at af;have hE:∀ x:Pt,x.c=[aG aH x.x,aG aH x.y]:=fun x=>rfl;simp only[i149,V0,seval,af];refine ze (fun jj st=>∃(i:Nat)(O:aU),l.length-i<=jj/\i<=l.length/\(l.take i).all bl=true/\st.aa=O/\aN 30 st.t [(5,.slC (l.flatMap Pt.c) l.length 2 true),(6,iv (l.length:Nat)),(7,iv i)]) l.length Ω ⟨0,[],Ω,Ω,Ψ,rfl,by simp only[V0,seval,af,eU]⟩ ?_;rintro jj ⟨t,aa⟩ K ⟨i,O,hjj,hi,ha,ho,af⟩ hn he hr;dsimp only at ho af;subst ho;simp only[V3]at af;by_cases h:i<l.length
 ·have hx:l[i]?=some l[i]:=cK h;have hmem:l[i]∈l:=gU h;generalize l[i]=x at hx hmem;have hrd:bM (l.flatMap Pt.c) (i*2) 2=some [aG aH x.x,aG aH x.y]:=(zd (sz:=2) (fun _=>rfl) 0 2 hx Ω).trans rfl;have hw:=zq i;have fin:bl x=false->l.all bl=false:=fun hf=>by rw[zlz];exact⟨x,hmem,by rw[hf];decide⟩
  cases h1:decide (x.x < -2097152)
  ·cases h2:decide (2097152<x.x)
   ·cases h3:decide (x.y < -2097152)
    ·cases h4:decide (2097152<x.y)
     ·simp only[V0,seval,zA,eZ, *];refine hn _ (l.length-(i+1)) Ω ⟨i+1,_,Ω,Ω,?_,rfl,cD⟩;rw[lH,hx,rP,Xy,ha];simp[bl,h1,h2,h3,h4]
     ·simp only[V0,seval,zA,eZ, *];refine hr _ ?_;simp only[V0,seval,af,fin (by simp[bl,h1,h2,h3,h4])]
    ·simp only[V0,seval,zA,eZ, *];refine hr _ ?_;simp only[V0,seval,af,fin (by simp[bl,h1,h2,h3])]
   ·simp only[V0,seval,zA,eZ, *];refine hr _ ?_;simp only[V0,seval,af,fin (by simp[bl,h1,h2])]
  ·simp only[V0,seval,af,h,zA,hrd,h1];refine hr _ ?_;simp only[V0,seval,af,fin (by simp[bl,h1])]
 ·simp only[V0,seval,af,h];refine he _ _ ?_;have hall:l.all bl=true:=by rw[←gj (l:=l) (i:=i) Ω];exact ha
  simp only[V0,seval,af,hall]
def X1(a b c:Pt):Int:=bif [a,b,c].all bl then KH a b c else 0
theorem My(hS:bN S)(a b c:Pt):aP S 8 219 [.agg a.c,.agg b.c,.agg c.c] (aG aH (X1 a b c)):=by
 refine gv i219 hS (7) zn fun m hm d ah t af=>?_;simp only[V2,Xb,i219,Pt.c]at af;have c0:=fun d ah aK aa i=>zdv hS [a,b,c] Ψ m (by simp;omega) d ah aK aa i;simp only[fJ,lz,Pt.c,gQ,gM,zg,cu,dw,fO,Xb]at c0;have c1:=zfb hS a b c m Ω;simp only[Pt.c,zg]at c1;unfold X1;cases hb:[a,b,c].all bl
 ·simp only[hb]at c0;simp only[i219,V0,seval,af,Zl,c0,bL]
 ·simp only[hb]at c0;simp only[i219,V0,seval,af,Zl,c0,c1,bT]
def fB(a b c:Pt):Int:=bif decide (0<X1 a b c)then 1 else bif decide (X1 a b c<0)then -1 else 0
theorem BC(hS:bN S)(a b c:Pt):aP S 10 186 [.agg a.c,.agg b.c,.agg c.c] (aG aH (fB a b c)):=by
 refine gv i186 hS (9) zn fun m hm d ah t af=>?_;simp only[V2,Xb,i186,Pt.c]at af;have c1:=My hS a b c m Ω;simp only[Pt.c,zg]at c1;unfold fB;generalize X1 a b c=w at c1;cases h1:decide (0<w)
 ·cases h2:decide (w<0)
  ·simp only[i186,V0,seval,af,c1,eZ,h1,h2,bL]
  ·simp only[i186,V0,seval,af,c1,eZ,h1,h2,bL,bT]
 ·simp only[i186,V0,seval,af,c1,eZ,h1,bT]
def sC(a b:Int):Int:=if b<a then b else a
def s9(a b:Int):Int:=if a<b then b else a
def mZ(a b p:Pt):Bool:=([a,b,p].all bl&&KH a b p==0)&&(decide (sC a.x b.x<=p.x)&&(decide (p.x<=s9 a.x b.x)&&(decide (sC a.y b.y<=p.y)&&decide (p.y<=s9 a.y b.y))))
theorem JY(hS:bN S)(a b p:Pt):aP S 8 111 [.agg a.c,.agg b.c,.agg p.c] (.bool (mZ a b p)):=by
 refine gv i111 hS (7) zj fun m hm d ah t af=>?_;simp only[V2,Xb,i111,Pt.c]at af;have c0:=fun d ah aK aa i=>zdv hS [a,b,p] Ψ m (by simp;omega) d ah aK aa i;simp only[fJ,lz,Pt.c,gQ,gM,zg,cu,dw,fO,Xb]at c0;have c1:=zfb hS a b p m Ω;simp only[Pt.c,zg]at c1;unfold mZ;have hmn:∀ a b:Int,(if b<a then b else a)=sC a b:=fun _ _=>rfl
 have Uj:∀ a b:Int,(if a<b then b else a)=s9 a b:=fun _ _=>rfl
 cases hb:[a,b,p].all bl
 ·simp only[hb]at c0;simp only[i111,V0,seval,af,Zl,c0,ew]
 ·simp only[hb]at c0;have jw:∀ z:Int,(z != 0)=!(z==0):=fun z=>rfl;cases h0:KH a b p==0
  ·simp only[i111,V0,seval,Zl,l8,ew, *]
  ·cases h1:decide (sC a.x b.x<=p.x)
   ·simp only[i111,V0,seval,Zl,l8,ew, *]
   ·cases h2:decide (p.x<=s9 a.x b.x)
    ·simp only[i111,V0,seval,Zl,eZ,l8,ew, *]
    ·cases h3:decide (sC a.y b.y<=p.y)
     ·simp only[i111,V0,seval,Zl,eZ,l8,ew, *]
     ·simp only[i111,V0,seval,Zl,eZ, *]
end
theorem zP(a b c d:Int):fM [1,1] [aG aH a,aG aH b] [aG aH c,aG aH d]=some ((a==c)&&(b==d)):=by simp only[fM,eqv];cases h1:a==c<;>cases h2:b==d<;>simp[h1,h2]
def eO(a b:Pt):Bool:=(a.x==b.x)&&(a.y==b.y)
def jN(a b:Pt):Bool:=decide (a.x<b.x)||(a.x==b.x&&decide (a.y<b.y))
def Wk(a b:Pt):Bool:=decide (b.y<a.y)||(b.y==a.y&&decide (b.x<a.x))
def je(a b:Pt):Pt×Pt:=bif jN b a then(b,a)else(a,b)
def dQ(a b c d:Pt):Int :=
 let f:=bif jN (je a b).1 (je c d).1 then(je c d).1 else(je a b).1
 let l:=bif jN (je c d).2 (je a b).2 then(je c d).2 else(je a b).2
 bif eO f l then 1 else bif jN f l then 2 else 0
section
variable {S:cZ}
theorem Mz(hS:bN S)(a b c d:Pt):aP S 4 187 [.agg a.c,.agg b.c,.agg c.c,.agg d.c] (aG aH (dQ a b c d)):=by
 refine gv i187 hS (3) zn fun m hm dd ah t af=>?_;simp only[V2,Xb,i187,Pt.c]at af;have cb:∀(u v:Pt) dd ah aK aa i,aM aR S m dd ah aK aa i 220 [.agg [aG aH u.x,aG aH u.y],.agg [aG aH v.x,aG aH v.y]]=some (.r,.bool (jN u v),aa):=fun u v dd ah aK aa i=>MC hS u v m Ω dd ah aK aa i;unfold dQ;obtain⟨p1,p2,hp,hs1⟩:∃ p1 p2:Pt,je a b=(p1,p2)/\True:=⟨_,_,rfl,trivial⟩;obtain⟨q1,q2,hq,hs2⟩:∃ q1 q2:Pt,je c d=(q1,q2)/\True:=⟨_,_,rfl,trivial⟩;simp only[hp,hq];have fin:∀(K:fP)(t:List IV),aN 39 t [(4,.ptrM dd 0 0),(5,.ptrM dd 1 0),(6,.ptrM dd 2 0),(7,.ptrM dd 3 0)] ->
   (∀ t' O',aN 39 t' [(8,aG aH (let f:=bif jN p1 q1 then q1 else p1;let l:=bif jN q2 p2 then q2 else p2;bif eO f l then 1 else bif jN f l then 2 else 0))]->K .ret ⟨t',O'⟩) ->
   Ex (aM aR S m) dd ah m (i187.body.sub [1,1,1]) K ⟨t,aI [aG aH p1.x,aG aH p1.y]::aI [aG aH p2.x,aG aH p2.y]::aI [aG aH q1.x,aG aH q1.y]::aI [aG aH q2.x,aG aH q2.y]::[.free,.free]⟩:=by
  intro K t af hK
  simp only[zb,zc]at af
  simp only[i187,IC.sub,V0,seval,af]
  refine⟨by simp[comm],?_⟩
  cases h1:jN p1 q1<;>cases h2:jN q2 p2
  ·cases h3:eO p1 p2
   ·cases h4:jN p1 p2
    ·have h3':=h3
     unfold eO at h3'
     simp only[V0,seval,zP,j3, *]
     exact hK _ _ (by simp only[V0,seval,bL, *])
    ·have h3':=h3
     unfold eO at h3'
     simp only[V0,seval,zP,j3, *]
     exact hK _ _ (by simp only[V0,seval,bT,bL, *])
   ·have h3':=h3
    unfold eO at h3'
    simp only[V0,seval,zP,j3, *]
    exact hK _ _ (by simp only[V0,seval,af,h1,h2,h3,bT,bL])
  ·cases h3:eO p1 q2
   ·cases h4:jN p1 q2
    ·have h3':=h3
     unfold eO at h3'
     simp only[V0,seval,zP,j3, *]
     exact hK _ _ (by simp only[V0,seval,bT,bL, *])
    ·have h3':=h3
     unfold eO at h3'
     simp only[V0,seval,zP,j3, *]
     exact hK _ _ (by simp only[V0,seval,bT,bL, *])
   ·have h3':=h3
    unfold eO at h3'
    simp only[V0,seval,zP,j3, *]
    exact hK _ _ (by simp only[V0,seval,af,h1,h2,h3,bT,bL])
  ·cases h3:eO q1 p2
   ·cases h4:jN q1 p2
    ·have h3':=h3
     unfold eO at h3'
     simp only[V0,seval,zP,j3, *]
     exact hK _ _ (by simp only[V0,seval,bT,bL, *])
    ·have h3':=h3
     unfold eO at h3'
     simp only[V0,seval,zP,j3, *]
     exact hK _ _ (by simp only[V0,seval,bT,bL, *])
   ·have h3':=h3
    unfold eO at h3'
    simp only[V0,seval,zP,j3, *]
    exact hK _ _ (by simp only[V0,seval,af,h1,h2,h3,bT,bL])
  ·cases h3:eO q1 q2
   ·cases h4:jN q1 q2
    ·have h3':=h3
     unfold eO at h3'
     simp only[V0,seval,zP,j3, *]
     exact hK _ _ (by simp only[V0,seval,bT,bL, *])
    ·have h3':=h3
     unfold eO at h3'
     simp only[V0,seval,zP,j3, *]
     exact hK _ _ (by simp only[V0,seval,bT,bL, *])
   ·have h3':=h3
    unfold eO at h3'
    simp only[V0,seval,zP,j3, *]
    exact hK _ _ (by simp only[V0,seval,af,h1,h2,h3,bT])
 have hsw:∀ u v:Pt,je u v=bif jN v u then(v,u)else(u,v):=fun _ _=>rfl
 rw[show i187.body=.seq (i187.body.sub [0]) (.seq (i187.body.sub [1,0]) (.seq (i187.body.sub [1,1,0]) (i187.body.sub [1,1,1])))from rfl];generalize hB:i187.body.sub [1,1,1]=B at fin ⊢;rw[hsw]at hp hq;cases h1:jN b a<;>cases h2:jN d c
 ·rw[h1]at hp;rw[h2]at hq;simp only[bL,qN]at hp hq;obtain⟨rfl,rfl⟩:=hp;obtain⟨rfl,rfl⟩:=hq;simp only[i187,IC.sub,V0,seval,af,cb,h1,h2];refine fin _ _ (by simp only[V0,seval,af]) fun t' O' ht=>?_;simp only[zb,zc]at ht;simp only[V0,seval,ht]
 ·rw[h1]at hp;rw[h2]at hq;simp only[bT,bL,qN]at hp hq;obtain⟨rfl,rfl⟩:=hp;obtain⟨rfl,rfl⟩:=hq;simp only[i187,IC.sub,V0,seval,af,cb,h1,h2];refine fin _ _ (by simp only[V0,seval,af]) fun t' O' ht=>?_;simp only[zb,zc]at ht;simp only[V0,seval,ht]
 ·rw[h1]at hp;rw[h2]at hq;simp only[bT,bL,qN]at hp hq;obtain⟨rfl,rfl⟩:=hp;obtain⟨rfl,rfl⟩:=hq;simp only[i187,IC.sub,V0,seval,af,cb,h1,h2];refine fin _ _ (by simp only[V0,seval,af]) fun t' O' ht=>?_;simp only[zb,zc]at ht;simp only[V0,seval,ht]
 ·rw[h1]at hp;rw[h2]at hq;simp only[bT,qN]at hp hq;obtain⟨rfl,rfl⟩:=hp;obtain⟨rfl,rfl⟩:=hq;simp only[i187,IC.sub,V0,seval,af,cb,h1,h2];refine fin _ _ (by simp only[V0,seval,af]) fun t' O' ht=>?_;simp only[zb,zc]at ht;simp only[V0,seval,ht]
def wk(a b c d:Pt):Int:=bif [a,b,c,d].all bl then (bif eO a b then (bif mZ c d a then 1 else 0) else bif eO c d then (bif mZ a b c then 1 else 0) else
 bif fB a b c==0&&fB a b d==0 then dQ a b c d else
 bif decide (aT .i64 (fB a b c*fB a b d)<=0)&&decide (aT .i64 (fB c d a*fB c d b)<=0) then 1 else 0) else 0
theorem Vg(hS:bN S)(a b c d:Pt):aP S 14 148 [.agg a.c,.agg b.c,.agg c.c,.agg d.c] (aG aH (wk a b c d)):=by
 refine gv i148 hS (13) zn fun m hm dd ah t af=>?_;simp only[V2,Xb,i148,Pt.c]at af;have c0:=fun dd ah aK aa i=>zdv hS [a,b,c,d] Ψ m (by simp;omega) dd ah aK aa i;simp only[fJ,lz,Pt.c,gQ,gM,zg,cu,dw,fO,Xb]at c0;have cs:∀(u v w:Pt) dd ah aK aa i,aM aR S m dd ah aK aa i 186 [.agg [aG aH u.x,aG aH u.y],.agg [aG aH v.x,aG aH v.y],.agg [aG aH w.x,aG aH w.y]]=some (.r,aG aH (fB u v w),aa):=fun u v w dd ah aK aa i=>BC hS u v w m Ω dd ah aK aa i;have co:∀(u v w:Pt) dd ah aK aa i,aM aR S m dd ah aK aa i 111 [.agg [aG aH u.x,aG aH u.y],.agg [aG aH v.x,aG aH v.y],.agg [aG aH w.x,aG aH w.y]]=some (.r,.bool (mZ u v w),aa):=fun u v w dd ah aK aa i=>JY hS u v w m Ω dd ah aK aa i;have ch:=fun dd ah aK aa i=>Mz hS a b c d m Ω dd ah aK aa i;simp only[Pt.c,zg]at ch;unfold wk;cases hb:[a,b,c,d].all bl
 ·simp only[hb]at c0;simp only[i148,V0,seval,af,YO,c0,bL]
 ·simp only[hb]at c0;cases h1:eO a b
  ·have h1':(a.x==b.x&&a.y==b.y)=false:=h1;cases h2:eO c d
   ·have h2':(c.x==d.x&&c.y==d.y)=false:=h2;cases h3:fB a b c==0
    ·cases h5:decide (aT .i64 (fB a b c*fB a b d)<=0)
     ·simp only[i148,V0,seval,YO,zP,j3,bL,bT,ew, *]
     ·cases h6:decide (aT .i64 (fB c d a*fB c d b)<=0)
      ·simp only[i148,V0,seval,YO,zP,j3,bL,bT,ew, *]
      ·simp only[i148,V0,seval,YO,zP,j3,bL,bT,ew, *]
    ·cases h4:fB a b d==0
     ·cases h5:decide (aT .i64 (fB a b c*fB a b d)<=0)
      ·simp only[i148,V0,seval,YO,zP,j3,bL,bT,ew,l8, *]
      ·cases h6:decide (aT .i64 (fB c d a*fB c d b)<=0)
       ·simp only[i148,V0,seval,YO,zP,j3,bL,bT,l8, *]
       ·simp only[i148,V0,seval,YO,zP,j3,bL,bT,l8, *]
     ·simp only[i148,V0,seval,YO,zP,j3,bL,bT, *]
   ·have h2':(c.x==d.x&&c.y==d.y)=true:=h2;cases h3:mZ a b c
    ·simp only[i148,V0,seval,YO,zP,j3,bL,bT, *]
    ·simp only[i148,V0,seval,YO,zP,j3,bL,bT, *]
  ·have h1':(a.x==b.x&&a.y==b.y)=true:=h1;cases h3:mZ c d a
   ·simp only[i148,V0,seval,YO,zP,j3,bL,bT, *]
   ·simp only[i148,V0,seval,YO,zP,j3,bT, *]
def rj(o a b:Pt):Bool:=([o,a,b].all bl&&!eO a o&&!eO b o)&&(bif (Wk o a != Wk o b)then Wk o b else decide (0<KH o a b))
theorem Vh(hS:bN S)(o a b:Pt):aP S 8 154 [.agg o.c,.agg a.c,.agg b.c] (.bool (rj o a b)):=by
 refine gv i154 hS (7) zj fun m hm d ah t af=>?_;simp only[V2,Xb,i154,Pt.c]at af;have c0:=fun d ah aK aa i=>zdv hS [o,a,b] Ψ m (by simp;omega) d ah aK aa i;simp only[fJ,lz,Pt.c,gQ,gM,zg,cu,dw,fO,Xb]at c0;have cl:∀(u v:Pt) d ah aK aa i,aM aR S m d ah aK aa i 189 [.agg [aG aH u.x,aG aH u.y],.agg [aG aH v.x,aG aH v.y]]=some (.r,.bool (Wk u v),aa):=fun u v d ah aK aa i=>Rw hS u v m Ω d ah aK aa i;have ct:=zfb hS o a b m Ω;simp only[Pt.c,zg]at ct;unfold rj;cases hb:[o,a,b].all bl
 ·simp only[hb]at c0;simp only[i154,V0,seval,af,Zl,c0,ew]
 ·simp only[hb]at c0;cases h1:eO a o
  ·have h1':(a.x==o.x&&a.y==o.y)=false:=h1;cases h2:eO b o
   ·have h2':(b.x==o.x&&b.y==o.y)=false:=h2;have q1:(true != (false==false))=false:=rfl;have q2:(true != (false==true))=true:=rfl;have q3:(true != (true==false))=true:=rfl;have q4:(true != (true==true))=false:=rfl;have r1:(false != false)=false:=rfl;have r2:(false != true)=true:=rfl;have r3:(true != false)=true:=rfl;have r4:(true != true)=false:=rfl;cases h3:Wk o a<;>cases h4:Wk o b
    ·simp only[i154,V0,seval,Zl,zP,j3,GH,eP,ct,eZ,bL, *]
    ·simp only[i154,V0,seval,Zl,zP,j3,GH,eP,bT, *]
    ·simp only[i154,V0,seval,Zl,zP,j3,GH,eP,bT, *]
    ·simp only[i154,V0,seval,Zl,zP,j3,GH,eP,ct,eZ,bL, *]
   ·have h2':(b.x==o.x&&b.y==o.y)=true:=h2;simp only[i154,V0,seval,af,Zl,c0,zP,h1',h2',j3,l8,ew]
  ·have h1':(a.x==o.x&&a.y==o.y)=true:=h1;simp only[i154,V0,seval,af,Zl,c0,zP,h1',j3,l8,ew]
end
def dP:List Int->Bool
 |a::b::t=>decide (a<b)&&dP (b::t)
 |_=>true
def rK(l:List Int)(k:Nat):Prop:=∀ i x y,i+1<k->l[i]?=some x->l[i+1]?=some y->x<y
theorem yx:∀{l:List Int},dP l=true↔rK l l.length
 |[]=>by simp[dP,rK]
 |[a]=>by simp[dP,rK]
 |a::b::t=>by
  have ih:=yx (l:=b::t);simp only[dP,gJ,jk,ih];constructor
  ·rintro⟨h1,h2⟩ i x y hi hx hy;cases i with
   |zero =>
    simp only[qU,jP,fZ,fO]at hx hy
    subst hx hy
    exact h1
   |succ i =>
    simp only[jP]at hx hy
    exact h2 i x y (by simp only[cu]at hi ⊢;omega) hx hy
  ·intro h;refine⟨h 0 a b Ψ rfl rfl,fun i x y hi hx hy=>h (i+1) x y (by simp only[cu]at hi ⊢;omega) ?_ ?_⟩
   ·simpa using hx
   ·simpa using hy
def fIdx{α:Type}(q:α->Bool)(l:List α):Int:=match l.findIdx? q with
 |some i=>(i:Int)
 |none=>-1
theorem zdw{α:Type}{q:α->Bool}{l:List α}{i:Nat}{x:α}(hx:l[i]?=some x)(hq:q x=true)(ha:(l.take i).findIdx? q=none):fIdx q l=(i:Int):=by
 have h:l.findIdx? q=some i:=by
  rw[Kt];obtain⟨h1,rfl⟩:=cU.1 hx;refine⟨h1,hq,fun j hj=>?_⟩;have hm:=Ks.1 ha (l[j]'Ω) (by
   rw[SB];exact ⟨j,by simp; omega,Ψ⟩)
  simp[hm]
 simp only[fIdx,h]
theorem zbp{α:Type}{q:α->Bool}{l:List α}:decide (0<=fIdx q l)=l.any q:=by
 unfold fIdx;cases h:l.findIdx? q with
 |none =>
  have:=Ks.1 h
  have h2:l.any q=false:=by rw[qT];intro x hx;simp[this x hx]
  simp[h2]
 |some i =>
  obtain⟨h1,h2,_⟩:=Kt.1 h
  have h3:l.any q=true:=rR.2 ⟨_,gU h1,h2⟩
  rw[h3]
  simp only[jk]
  omega
section
variable {S:cZ}
theorem G8(hS:bN S)(l:aS 1 aL):aP S (l.l.length+4) 62 [l.v] (.bool (dP l.l)):=by
 refine gv i62 hS (l.l.length+3) zj fun m hm d ah t af=>?_;simp only[slotsOf,zb,zc,i62]at af;have hlf:=l.gC;simp only[i62,V0,seval];refine ze (fun jj st=>∃(i:Nat)(O:aU),l.l.length-i<=jj/\(1<=i/\i<=l.l.length+1)/\rK l.l i/\st.aa=O/\aN 20 st.t [(0,l.v),(3,iv i)]) l.l.length Ω ⟨1,[],Ω,Ω,fun i x y h _ _=>by omega,rfl,by simp only[V0,seval,af,Xx]⟩ ?_;rintro jj ⟨t,aa⟩ K ⟨i,O,hjj,hi,ha,ho,af⟩ hn he hr;dsimp only at ho af;subst ho;simp only[V3]at af;by_cases h:i<l.l.length
 ·obtain⟨x,hx⟩:=gx (l:=l.l) (i:=i) h;have h0:i-1<l.l.length:=Ω;obtain⟨y,hy⟩:=gx (l:=l.l) (i:=i-1) h0;have kM:bM (l.l.flatMap aL) (i*1) 1=some [aG aH x]:=zd zf 0 1 hx Ω;have va:bM (l.l.flatMap aL) ((i-1)*1) 1=some [aG aH y]:=zd zf 0 1 hy Ω;have hw:=zq i;have hv:aT .i64 ((i:Int)-1)=((i-1:Nat):Int):=we;by_cases hb:x<=y
  ·simp only[V0,seval,za l h,za l h0,mM,hb, *];refine hr _ ?_;have hf:dP l.l=false:=by rw[←sZ];intro hc;have:=yx.1 hc (i-1) y x Ω hy (by rw[show i-1+1=i by omega];exact hx);omega
   simp only[V0,seval,af,hf]
  ·simp only[V0,seval,za l h,za l h0,mM,hb, *];refine hn _ (l.l.length-(i+1)) Ω ⟨i+1,_,Ω,Ω,?_,rfl,cD⟩;intro j u v hj hu hv;by_cases hj2:j+1<i
   ·exact ha j u v hj2 hu hv
   ·have e:j=i-1:=Ω;subst e;rw[show i-1+1=i by omega]at hv;rw[hy]at hu;rw[hx]at hv;cases hu;cases hv;omega
 ·simp only[V0,seval,af,h];refine he _ _ ?_;have hf:dP l.l=true:=yx.2 fun j u v hj hu hv=>ha j u v Ω hu hv;simp only[V0,seval,af,hf]
theorem Vj(hS:bN S)(l:aS 1 aL){α':Type}(q:Int->Bool)(gf:FuncId)(caps:List IV)(Nc:Nat)(hc:∀ m,Nc<=m->∀ d ah aK aa id (x:Int),aM aR S m d ah aK aa id gf (iv x::caps)=some (.r,.bool (q x),aa)) :
  aP S (Nc+l.l.length+4) 80 [l.v,.fn gf [] caps] (aG aH (fIdx q l.l)):=by
 refine gv i80 hS (Nc+l.l.length+3) zn fun m hm d ah t af=>?_
 simp only[V2,i80]at af
 simp only[i80,V0,seval,af]
 have hlf:=l.gC
 refine ze (fun jj st=>∃(i:Nat)(O:aU),l.l.length-i<=jj/\i<=l.l.length/\(l.l.take i).findIdx? q=none/\st.aa=O/\aN 19 st.t [(0,l.v),(1,.fn gf [] caps),(7,iv (l.l.length:Nat)),(8,iv i)]) l.l.length Ω ⟨0,[],Ω,Ω,Ψ,rfl,by simp only[V0,seval,af,eU]⟩ ?_
 rintro jj ⟨t,aa⟩ K ⟨i,O,hjj,hi,ha,ho,af⟩ hn he hr
 dsimp only at ho af
 subst ho
 simp only[V3]at af
 by_cases h:i<l.l.length
 ·obtain⟨x,hx⟩:=gx (l:=l.l) (i:=i) h
  have hrd:bM (l.l.flatMap aL) (i*1) 1=some [aG aH x]:=zd zf 0 1 hx Ω
  have hw:=zq i
  have cc:=fun d ah aK aa id=>hc m Ω d ah aK aa id x
  simp only[zg]at cc
  cases hq:q x
  ·simp only[V0,seval,za l h, *]
   refine hn _ (l.l.length-(i+1)) Ω ⟨i+1,_,Ω,Ω,?_,rfl,cD⟩
   rw[lH,hx,rP,zmq,ha]
   simp[NF,hq]
  ·simp only[V0,seval,za l h, *]
   refine hr _ ?_
   simp only[V0,seval,af,zdw hx hq ha]
 ·simp only[V0,seval,af,h]
  refine he _ _ ?_
  have hall:fIdx q l.l=-1:=by rw[gj Ω]at ha;simp only[fIdx,ha]
  simp only[V0,seval,af,hall]
theorem Vn(hS:bN S)(l:aS 1 aL)(q:Int->Bool)(gf:FuncId)(caps:List IV)(Nc:Nat)(hc:∀ m,Nc<=m->∀ d ah aK aa id (x:Int),aM aR S m d ah aK aa id gf (iv x::caps)=some (.r,.bool (q x),aa)) :
  aP S (Nc+l.l.length+6) 51 [l.v,.fn gf [] caps] (.bool (l.l.any q)):=by
 refine gv i51 hS (Nc+l.l.length+5) zj fun m hm d ah t af=>?_
 simp only[V2,i51]at af
 have cc:=fun d ah aK aa id=>Vj hS l (α':=Unit) q gf caps Nc hc m Ω d ah aK aa id
 have hz:decide (0<=fIdx q l.l)=l.l.any q:=zbp
 simp only[i51,V0,seval,af,cc,mM,hz]
theorem Vi(hS:bN S)(l:aS 2 Pt.c){α':Type}(q:Pt->Bool)(gf:FuncId)(caps:List IV)(Nc:Nat)(hc:∀ m,Nc<=m->∀ d ah aK aa id (x:Pt),aM aR S m d ah aK aa id gf (.agg x.c::caps)=some (.r,.bool (q x),aa)) :
  aP S (Nc+l.l.length+4) 144 [l.v,.fn gf [] caps] (aG aH (fIdx q l.l)):=by
 refine gv i144 hS (Nc+l.l.length+3) zn fun m hm d ah t af=>?_
 simp only[V2,i144]at af
 simp only[i144,V0,seval,af]
 have hlf:=l.gC
 refine ze (fun jj st=>∃(i:Nat)(O:aU),l.l.length-i<=jj/\i<=l.l.length/\(l.l.take i).findIdx? q=none/\st.aa=O/\aN 19 st.t [(0,l.v),(1,.fn gf [] caps),(7,iv (l.l.length:Nat)),(8,iv i)]) l.l.length Ω ⟨0,[],Ω,Ω,Ψ,rfl,by simp only[V0,seval,af,eU]⟩ ?_
 rintro jj ⟨t,aa⟩ K ⟨i,O,hjj,hi,ha,ho,af⟩ hn he hr
 dsimp only at ho af
 subst ho
 simp only[V3]at af
 by_cases h:i<l.l.length
 ·obtain⟨x,hx⟩:=gx (l:=l.l) (i:=i) h
  have hrd:bM (l.l.flatMap Pt.c) (i*2) 2=some [aG aH x.x,aG aH x.y]:=(zd (sz:=2) (fun _=>rfl) 0 2 hx Ω).trans rfl
  have hw:=zq i
  have cc:=fun d ah aK aa id=>hc m Ω d ah aK aa id x
  simp only[zg,Pt.c]at cc
  cases hq:q x
  ·simp only[V0,seval,za l h, *]
   refine hn _ (l.l.length-(i+1)) Ω ⟨i+1,_,Ω,Ω,?_,rfl,cD⟩
   rw[lH,hx,rP,zmq,ha]
   simp[NF,hq]
  ·simp only[V0,seval,za l h, *]
   refine hr _ ?_
   simp only[V0,seval,af,zdw hx hq ha]
 ·simp only[V0,seval,af,h]
  refine he _ _ ?_
  have hall:fIdx q l.l=-1:=by rw[gj Ω]at ha;simp only[fIdx,ha]
  simp only[V0,seval,af,hall]
theorem Vm(hS:bN S)(l:aS 2 Pt.c)(q:Pt->Bool)(gf:FuncId)(caps:List IV)(Nc:Nat)(hc:∀ m,Nc<=m->∀ d ah aK aa id (x:Pt),aM aR S m d ah aK aa id gf (.agg x.c::caps)=some (.r,.bool (q x),aa)) :
  aP S (Nc+l.l.length+6) 102 [l.v,.fn gf [] caps] (.bool (l.l.any q)):=by
 refine gv i102 hS (Nc+l.l.length+5) zj fun m hm d ah t af=>?_
 simp only[V2,i102]at af
 have cc:=fun d ah aK aa id=>Vi hS l (α':=Unit) q gf caps Nc hc m Ω d ah aK aa id
 have hz:decide (0<=fIdx q l.l)=l.l.any q:=zbp
 simp only[i102,V0,seval,af,cc,mM,hz]
def iG(n:Int):Bool:=decide (n<1)||decide (1073741824<n)
theorem Ve(hS:bN S)(x:Int):aP S 2 100 [iv x] (.bool (iG x)):=by
 refine gv i100 hS (1) zj fun m hm d ah t af=>?_;simp only[slotsOf,zb,zc,i100]at af;unfold iG;cases h1:decide (x<1)
 ·simp only[i100,V0,seval,af,eZ,h1,iS]
 ·simp only[i100,V0,seval,af,h1,iY]
theorem G7(hS:bN S)(l:aS 1 aL):aP S (l.l.length+10) 63 [l.v] (.bool (!(l.l.any iG))):=by refine gv i63 hS (l.l.length+9) zj fun m hm d ah t af=>?_;simp only[slotsOf,zb,zc,i63]at af;have cc:=fun d ah aK aa id=>Vn hS l iG 100 [] 2 (fun m hm d ah aK aa id x=>Ve hS x m hm d ah aK aa id) m Ω d ah aK aa id;simp only[i63,V0,seval,af,cc]
def fC(p:Pt):Bool:=decide (p.x < -1048576)||(decide (1048576<p.x)||(decide (p.y < -1048576)||decide (1048576<p.y)))
theorem zfc(hS:bN S)(p:Pt):aP S 2 101 [.agg p.c] (.bool (fC p)):=by
 refine gv i101 hS (1) zj fun m hm d ah t af=>?_;simp only[slotsOf,zb,zc,i101,Pt.c]at af;unfold fC;cases h1:decide (p.x < -1048576)
 ·cases h2:decide (1048576<p.x)
  ·cases h3:decide (p.y < -1048576)
   ·simp only[i101,V0,seval,af,eZ,h1,h2,h3,iS]
   ·simp only[i101,V0,seval,af,eZ,h1,h2,h3,iS,iY]
  ·simp only[i101,V0,seval,af,eZ,h1,h2,iS,iY]
 ·simp only[i101,V0,seval,af,h1,iY]
end
theorem zF{α:Type}{l:List α}{q:α->Bool}{i:Nat}{x:α}(hx:l[i]?=some x)(ha:(l.take i).any q=false)(hq:q x=false):(l.take (i+1)).any q=false:=by rw[lH,hx,rP,SR,ha];simp[hq]
theorem zZ{α:Type}{l:List α}{q:α->Bool}{i:Nat}{x:α}(hx:l[i]?=some x)(hq:q x=true):l.any q=true:=rR.2 ⟨x,j5 hx,hq⟩
section
variable {S:cZ}
theorem ED(hS:bN S)(l:aS 1 aL)(n:Int):aP S (l.l.length+4) 67 [l.v,iv n] (aG aH (fIdx (fun x=>n==x) l.l)):=by
 refine gv i67 hS (l.l.length+3) zn fun m hm d ah t af=>?_;simp only[V2,i67]at af;simp only[i67,V0,seval,af];have hlf:=l.gC;refine ze (fun jj st=>∃(i:Nat)(O:aU),l.l.length-i<=jj/\i<=l.l.length/\(l.l.take i).findIdx? (fun x=>n==x)=none/\st.aa=O/\aN 19 st.t [(0,l.v),(1,iv n),(7,iv (l.l.length:Nat)),(8,iv i)]) l.l.length Ω ⟨0,[],Ω,Ω,Ψ,rfl,by simp only[V0,seval,af,eU]⟩ ?_;rintro jj ⟨t,aa⟩ K ⟨i,O,hjj,hi,ha,ho,af⟩ hn he hr;dsimp only at ho af;subst ho;simp only[V3]at af;by_cases h:i<l.l.length
 ·obtain⟨x,hx⟩:=gx (l:=l.l) (i:=i) h;have hrd:bM (l.l.flatMap aL) (i*1) 1=some [aG aH x]:=zd zf 0 1 hx Ω;have hw:=zq i;cases hq:n==x
  ·simp only[V0,seval,za l h, *];refine hn _ (l.l.length-(i+1)) Ω ⟨i+1,_,Ω,Ω,?_,rfl,cD⟩;rw[lH,hx,rP,zmq,ha];simp[NF,hq]
  ·simp only[V0,seval,af,h,za l h,hrd,hq];refine hr _ ?_;simp only[V0,seval,af,zdw (q:=fun x=>n==x) hx hq ha]
 ·simp only[V0,seval,af,h];refine he _ _ ?_;have hall:fIdx (fun x=>n==x) l.l=-1:=by rw[gj Ω]at ha;simp only[fIdx,ha]
  simp only[V0,seval,af,hall]
theorem zdc(hS:bN S)(l:aS 1 aL)(n:Int):aP S (l.l.length+6) 37 [l.v,iv n] (.bool (l.l.any fun x=>n==x)):=by refine gv i37 hS (l.l.length+5) zj fun m hm d ah t af=>?_;simp only[V2,i37]at af;have cc:=ED hS l n m Ω;have hz:decide (0<=fIdx (fun x=>n==x) l.l)=l.l.any fun x=>n==x:=zbp;simp only[zg]at cc;simp only[i37,V0,seval,af,cc,mM,hz]
def jc(p:Pn):Bool:=!(p.ns.l.any fun n=>fC n.at')&&!(p.az.l.any fun a=>a.via.l.any fC)
theorem MA(hS:bN S)(p:Pn)(V:Nat)(hV:∀ a∈p.az.l,a.via.l.length<=V):aP S (p.ns.l.length+p.az.l.length+V+20) 64 [.agg p.c] (.bool (jc p)):=by
 refine gv i64 hS (p.ns.l.length+p.az.l.length+V+19) zj fun m hm d ah t af=>?_;simp only[slotsOf,zb,zc,i64,Pn.c]at af;have hnf:=p.ns.gC;have Qf:=p.az.gC;simp only[i64,V0,seval,af];refine ze (fun jj st=>∃(i:Nat)(O:aU),p.ns.l.length-i<=jj/\i<=p.ns.l.length/\(p.ns.l.take i).any (fun n=>fC n.at')=false/\st.aa=aI [p.ns.v,p.az.v,p.fs.v]::O/\aN 32 st.t [(1,.ptrM d 0 0),(3,.fn 101 [] []),(9,p.ns.v),(10,iv (p.ns.l.length:Nat)),(11,iv i)]) p.ns.l.length Ω ⟨0,[],Ω,Ω,Ψ,rfl,by simp only[V0,seval,af,eU]⟩ ?_;rintro jj ⟨t,aa⟩ K ⟨i,O,hjj,hi,ha,ho,af⟩ hn he hr;dsimp only at ho af;subst ho;simp only[V3]at af;by_cases h:i<p.ns.l.length
 ·obtain⟨x,hx⟩:=gx (l:=p.ns.l) (i:=i) h;have hrd:bM (p.ns.l.flatMap Nd.c) (i*3) 3=some [aG aH x.id,aG aH x.at'.x,aG aH x.at'.y]:=(zd Nd.aZ 0 3 hx Ω).trans rfl;have hw:=zq i;have cc:=fun d ah aK aa id=>zfc hS x.at' m Ω d ah aK aa id;simp only[zg,Pt.c]at cc;cases hq:fC x.at'
  ·simp only[V0,seval,za p.ns h, *];exact hn _ (p.ns.l.length-(i+1)) Ω ⟨i+1,_,Ω,Ω,zF hx ha hq,rfl,cD⟩
  ·simp only[V0,seval,za p.ns h, *];refine hr _ ?_;have hf:jc p=false:=by unfold jc;rw[zZ (q:=fun n=>fC n.at') hx hq];rfl
   simp only[V0,seval,af,hf]
 ·have h1:p.ns.l.any (fun n=>fC n.at')=false:=by rw[←gj (l:=p.ns.l) (i:=i) Ω];exact ha
  simp only[V0,seval,af,h];refine he _ _ ?_;simp only[V0,seval,af];refine ze (fun jj st=>∃(i:Nat)(O:aU),p.az.l.length-i<=jj/\i<=p.az.l.length/\(p.az.l.take i).any (fun a=>a.via.l.any fC)=false/\st.aa=aI [p.ns.v,p.az.v,p.fs.v]::O/\aN 32 st.t [(1,.ptrM d 0 0),(3,.fn 101 [] []),(21,p.az.v),(22,iv (p.az.l.length:Nat)),(23,iv i)]) p.az.l.length Ω ⟨0,O,Ω,Ω,Ψ,rfl,by simp only[V0,seval,af,eU]⟩ ?_;clear ha af;rintro jj ⟨t,aa⟩ K2 ⟨i,O,hjj,hi,ha,ho,af⟩ hn he hr;dsimp only at ho af;subst ho;simp only[V3]at af;by_cases h:i<p.az.l.length
  ·have hx:p.az.l[i]?=some p.az.l[i]:=cK h;have hm0:=hV _ (gU h);generalize p.az.l[i]=x at hx hm0;have hrd:bM (p.az.l.flatMap Ac.c) (i*6) 6=some [aG aH x.id,aG aH x.fr,aG aH x.to,x.via.v,aG aH x.l,aG aH x.r]:=(zd Ac.aZ 0 6 hx Ω).trans rfl;have hw:=zq i;have cc:=fun d ah aK aa id=>Vm hS x.via fC 101 [] 2 (fun m hm d ah aK aa id x=>zfc hS x m hm d ah aK aa id) m Ω d ah aK aa id;cases hq:x.via.l.any fC
   ·simp only[V0,seval,za p.az h, *];exact hn _ (p.az.l.length-(i+1)) Ω ⟨i+1,_,Ω,Ω,zF hx ha hq,rfl,cD⟩
   ·simp only[V0,seval,za p.az h, *];refine hr _ ?_;have hf:jc p=false:=by unfold jc;rw[zZ (q:=fun a=>a.via.l.any fC) hx hq];simp
    simp only[V0,seval,af,hf]
  ·have h2:p.az.l.any (fun a=>a.via.l.any fC)=false:=by rw[←gj (l:=p.az.l) (i:=i) Ω];exact ha
   simp only[V0,seval,af,h];refine he _ _ ?_;have hf:jc p=true:=by unfold jc;rw[h1,h2];rfl
   simp only[V0,seval,af,hf]
end
section
variable {x y z w:aO} {O R Q:aU}
theorem IN:(O++y::(R++z::Q))[O.length+(R.length+1)]?=some z:=by rw[jd Ω,show O.length+(R.length+1)-O.length=R.length+1 by omega,jP];simp
theorem IM:(O++y::(R++z::Q)).set (O.length+(R.length+1)) w=O++y::(R++w::Q):=by rw[Fc _ _ Ω,show O.length+(R.length+1)-O.length=R.length+1 by omega,HI];simp
end
theorem N6{sz:Nat}{α:Type}{g:α->List IV}(hg:∀ a,(g a).length=sz)(q:aS sz g){i:Nat}(h:i<q.l.length):∃ q2:aS sz g,q2.l=q.l.take i/\∀(t:List IV)(x:bG),ρ t x=aG aH (i:Int)->eS sz t q.v none (some x) none=some q2.v:=by
 have hh:∀(cs:List IV)(n:Nat)(v:IV),Sl sz cs n v->i<n->∃ tight,∀(t:List IV)(x:bG),ρ t x=aG aH (i:Int)->eS sz t v none (some x) none=some (.slC (cs.take (i*sz)) i sz tight):=fun cs n v hs hi=>by
  cases hs with
  |nil=>omega
  |row cs n tight hl =>
   refine⟨tight&&i==n,fun t x hx=>?_⟩
   simp only[eS,lC,hx,zX,zi,SQ,l7,if_false]
   rw[bt ⟨⟨dz _,Ω,NA _⟩,trivial⟩]
   simp
 obtain⟨tight,h1⟩:=hh _ _ _ q.ok h;have ht:(q.l.flatMap g).take (i*sz)=(q.l.take i).flatMap g:=by
  conv=>lhs;rw[←Fu i q.l,B6]
  rw[List.take_left' (by rw[zl hg,k8,qu Ω])]
 have hli:(q.l.take i).length=i:=by rw[k8,qu Ω]
 refine ⟨⟨q.l.take i,.slC ((q.l.take i).flatMap g) i sz tight,by
  rw[hli];exact .row _ _ _ (by rw [zl hg,hli]),by have:=q.gC; omega⟩,rfl,fun t x hx=>?_⟩
 rw[h1 t x hx,ht]
def qh(l:List Int)(n:Int):Bool:=l.any fun x=>n==x
def kP(l:List Nd):Bool:=l.zipIdx.any fun ni=>(l.take ni.2).any fun m=>eO ni.1.at' m.at'
def loose(nodes:List Int)(a:Ac):Bool:=!qh nodes a.fr||!qh nodes a.to
def dW(fs:List Int)(f:Int):Bool:=f != 0&&!qh fs f
def lp(p:Pn)(nodes:List Int):Int:=bif kP p.ns.l then 8 else bif p.az.l.any (loose nodes)then 7 else bif p.az.l.any (fun a=>dW p.fs.l a.l||dW p.fs.l a.r)then 12 else 0
section
variable {S:cZ}
theorem Vl(hS:bN S)(p:Pn)(q:aS 1 aL):aP S (p.ns.l.length+p.az.l.length+p.fs.l.length+q.l.length+20) 65 [.agg p.c,q.v] (aG aH (lp p q.l)):=by
 refine gv i65 hS (p.ns.l.length+p.az.l.length+p.fs.l.length+q.l.length+19) zn fun m hm d ah t af=>?_;simp only[V2,i65,Pn.c]at af;have hnf:=p.ns.gC;have Qf:=p.az.gC;simp only[i65,V0,Xa,Xe,af];refine ze (fun jj st=>∃(i:Nat)(O:aU),p.ns.l.length-i<=jj/\i<=p.ns.l.length/\(p.ns.l.zipIdx.take i).any (fun ni=>(p.ns.l.take ni.2).any fun m=>eO ni.1.at' m.at')=false/\st.aa=aI [p.ns.v,p.az.v,p.fs.v]::O/\aN 85 st.t [(1,q.v),(2,.ptrM d 0 0),(16,p.ns.v),(17,iv (p.ns.l.length:Nat)),(18,iv i)]) p.ns.l.length Ω ⟨0,[],Ω,Ω,Ψ,rfl,by simp only[V0,Xa,Xe,af,eU]⟩ ?_;rintro jj ⟨t,aa⟩ KA ⟨i,O,hjj,hi,ha,ho,af⟩ bV cS dA;dsimp only at ho af;subst ho;simp only[V3]at af;by_cases h:i<p.ns.l.length
 ·obtain⟨x,hx⟩:=gx (l:=p.ns.l) (i:=i) h;have hxz:p.ns.l.zipIdx[i]?=some (x,i):=by rw[znn,hx];simp
  have hrd:bM (p.ns.l.flatMap Nd.c) (i*3) 3=some [aG aH x.id,aG aH x.at'.x,aG aH x.at'.y]:=(zd Nd.aZ 0 3 hx Ω).trans rfl;have hw:=zq i;obtain⟨q2,lG,hsl⟩:=N6 Nd.aZ p.ns h;have ahv:q2.l.length=i:=by rw[lG,k8,qu Ω]
  simp only[V0,Xa,Xb,Xe,af,h,za p.ns h,hrd,ZC,hsl];refine ze (fun jj st=>∃(k:Nat)(R:aU),q2.l.length-k<=jj/\k<=q2.l.length/\(q2.l.take k).any (fun m=>eO x.at' m.at')=false/\st.aa=aI [p.ns.v,p.az.v,p.fs.v]::(O++aI [aG aH x.id,aG aH x.at'.x,aG aH x.at'.y]::R)/\aN 85 st.t [(1,q.v),(2,.ptrM d 0 0),(16,p.ns.v),(17,iv (p.ns.l.length:Nat)),(18,iv i),(6,.ptrM d (O.length+1) 0),(26,q2.v),(27,iv (q2.l.length:Nat)),(28,iv k)]) q2.l.length Ω ⟨0,_,Ω,Ω,Ψ,rfl,by simp only[V0,Xa,Xe,af,eU]⟩ ?_;clear af;rintro jj2 ⟨t,aa⟩ KB ⟨k,R,hjk,hk,hb,ho,af⟩ jo lX mE;dsimp only at ho af;subst ho;simp only[V3]at af;by_cases h2:k<q2.l.length
  ·obtain⟨y,hy⟩:=gx (l:=q2.l) (i:=k) h2;have va:bM (q2.l.flatMap Nd.c) (k*3) 3=some [aG aH y.id,aG aH y.at'.x,aG aH y.at'.y]:=(zd Nd.aZ 0 3 hy Ω).trans rfl;have hwk:=zq k;cases hq:eO x.at' y.at'
   ·have tU:=hq;unfold eO at tU;simp only[V0,Xa,Xb,Xe,af,h2,za q2 h2,va,IN,IM,zP,tU,j3,hwk];exact jo _ (q2.l.length-(k+1)) Ω ⟨k+1,_,Ω,Ω,zF hy hb hq,rfl,by simp only[V0,Xa,Xe,af]⟩
   ·have tU:=hq;unfold eO at tU;simp only[V0,Xa,Xb,Xe,af,h2,za q2 h2,va,IN,IM,zP,tU,j3];refine mE _ ?_;simp only[V0];refine dA _ ?_;have hf:kP p.ns.l=true:=by refine zZ hxz ?_;show(p.ns.l.take i).any (fun m=>eO x.at' m.at')=true;rw[←lG];exact zZ (q:=fun m=>eO x.at' m.at') hy hq
    simp only[V0,Xa,af,lp,hf,bT]
  ·simp only[V0,Xa,af,h2];refine lX _ _ ?_;simp only[V0,Xa,Xe,af,hw];have hq0:(p.ns.l.take i).any (fun m=>eO x.at' m.at')=false:=by rw[←lG,←gj (l:=q2.l) (i:=k) Ω];exact hb
   exact bV _ (p.ns.l.length-(i+1)) Ω ⟨i+1,_,Ω,Ω,zF hxz ha hq0,rfl,by simp only[V0,Xa,Xe,af]⟩
 ·have hdup:kP p.ns.l=false:=by unfold kP;rw[←gj (l:=p.ns.l.zipIdx) (i:=i) (by rw[zn2];omega)];exact ha
  simp only[V0,Xa,af,h];refine cS _ _ ?_;simp only[V0,Xa,Xe,af];refine ze (fun jj st=>∃(i:Nat)(O:aU),p.az.l.length-i<=jj/\i<=p.az.l.length/\(p.az.l.take i).any (loose q.l)=false/\st.aa=aI [p.ns.v,p.az.v,p.fs.v]::O/\aN 85 st.t [(1,q.v),(2,.ptrM d 0 0),(40,p.az.v),(41,iv (p.az.l.length:Nat)),(42,iv i)]) p.az.l.length Ω ⟨0,O,Ω,Ω,Ψ,rfl,by simp only[V0,Xa,Xe,af,eU]⟩ ?_;clear af ha bV cS dA;rintro jj ⟨t,aa⟩ KA ⟨i,O,hjj,hi,ha,ho,af⟩ bV cS dA;dsimp only at ho af;subst ho;simp only[V3]at af;by_cases h:i<p.az.l.length
  ·obtain⟨x,hx⟩:=gx (l:=p.az.l) (i:=i) h;have hrd:bM (p.az.l.flatMap Ac.c) (i*6) 6=some [aG aH x.id,aG aH x.fr,aG aH x.to,x.via.v,aG aH x.l,aG aH x.r]:=(zd Ac.aZ 0 6 hx Ω).trans rfl;have hw:=zq i;have c1:∀ n dd oo aK aa id,aM aR S m dd oo aK aa id 37 [q.v,aG aH n]=some (.r,.bool (qh q.l n),aa):=fun n dd oo aK aa id=>zdc hS q n m Ω dd oo aK aa id;cases h1:qh q.l x.fr
   ·simp only[V0,Xa,Xb,Xe,af,h,za p.az h,hrd,c1,h1];refine dA _ ?_;have hf:p.az.l.any (loose q.l)=true:=zZ hx (by simp[loose,h1]);simp only[V0,Xa,af,lp,hdup,hf,bT,bL]
   ·cases h2:qh q.l x.to
    ·simp only[V0,Xa,Xb,Xe,af,h,za p.az h,hrd,c1,h1,h2];refine dA _ ?_;have hf:p.az.l.any (loose q.l)=true:=zZ hx (by simp[loose,h2]);simp only[V0,Xa,af,lp,hdup,hf,bT,bL]
    ·simp only[V0,Xa,Xb,Xe,af,h,za p.az h,hrd,c1,h1,h2,hw];exact bV _ (p.az.l.length-(i+1)) Ω ⟨i+1,_,Ω,Ω,zF hx ha (by simp[loose,h1,h2]),rfl,by simp only[V0,Xa,Xe,af]⟩
  ·have hlo:p.az.l.any (loose q.l)=false:=by rw[←gj (l:=p.az.l) (i:=i) Ω];exact ha
   simp only[V0,Xa,af,h];refine cS _ _ ?_;simp only[V0,Xa,Xe,af];refine ze (fun jj st=>∃(i:Nat)(O:aU),p.az.l.length-i<=jj/\i<=p.az.l.length/\(p.az.l.take i).any (fun a=>dW p.fs.l a.l||dW p.fs.l a.r)=false/\st.aa=aI [p.ns.v,p.az.v,p.fs.v]::O/\aN 85 st.t [(2,.ptrM d 0 0),(60,p.az.v),(61,iv (p.az.l.length:Nat)),(62,iv i)]) p.az.l.length Ω ⟨0,O,Ω,Ω,Ψ,rfl,by simp only[V0,Xa,Xe,af,eU]⟩ ?_;clear af ha bV cS dA;rintro jj ⟨t,aa⟩ KA ⟨i,O,hjj,hi,ha,ho,af⟩ bV cS dA;dsimp only at ho af;subst ho;simp only[V3]at af;by_cases h:i<p.az.l.length
   ·obtain⟨x,hx⟩:=gx (l:=p.az.l) (i:=i) h;have hrd:bM (p.az.l.flatMap Ac.c) (i*6) 6=some [aG aH x.id,aG aH x.fr,aG aH x.to,x.via.v,aG aH x.l,aG aH x.r]:=(zd Ac.aZ 0 6 hx Ω).trans rfl;have hw:=zq i;have c1:∀ n dd oo aK aa id,aM aR S m dd oo aK aa id 37 [p.fs.v,aG aH n]=some (.r,.bool (qh p.fs.l n),aa):=fun n dd oo aK aa id=>zdc hS p.fs n m Ω dd oo aK aa id;have M9:rep [IV.int .i64 0] 2=[aG aH 0,aG aH 0]:=dO rfl rfl;simp only[V0,Xa,Xb,Xd,Xe,af,h,za p.az h,hrd];refine ze (fun jj st=>∃(k:Nat)(O:aU),2-k<=jj/\k<=2/\(1<=k->dW p.fs.l x.l=false)/\(2<=k->dW p.fs.l x.r=false)/\st.aa=aI [p.ns.v,p.az.v,p.fs.v]::O/\aN 85 st.t [(2,.ptrM d 0 0),(60,p.az.v),(61,iv (p.az.l.length:Nat)),(62,iv i),(70,.agg [aG aH x.l,aG aH x.r]),(71,iv k)]) 2 Ω ⟨0,_,Ω,Ω,Ω,Ω,rfl,by simp only[V0,Xa,Xe,af,eU]⟩ ?_;clear af;rintro jj2 ⟨t,aa⟩ KB ⟨k,R,hjk,hk,hk1,hk2,ho,af⟩ jo lX mE;dsimp only at ho af;subst ho;simp only[V3]at af;have bad:∀ f:Int,f=x.l∨f=x.r->dW p.fs.l f=true->p.az.l.any (fun a=>dW p.fs.l a.l||dW p.fs.l a.r)=true:=fun f hf h=>zZ (q:=fun a=>dW p.fs.l a.l||dW p.fs.l a.r) hx (by
     rcases hf with rfl | rfl <;> simp [h])
    have jw:∀ z:Int,(z != 0)=!(z==0):=fun z=>rfl;have tX:k=0∨k=1∨k=2:=Ω;rcases tX with rfl|rfl|rfl
    ·have au:(((0:Nat):Int)<2)=True:=eq_true Δ;have hw0:aT .i64 (((0:Nat):Int)+1)=((1:Nat):Int):=rfl;have hn0:mC (aG aH ((0:Nat):Int))=some 0:=zX;have Uu:(0<2)=True:=eq_true Δ;cases h1:x.l==0
     ·cases h2:qh p.fs.l x.l
      ·simp only[V0,Xa,Xe,af,au,dy,hn0,Uu,qw,jw,h1,c1,h2];refine mE _ ?_;simp only[V0];refine dA _ ?_;simp only[V0,Xa,af,lp,hdup,hlo,bad x.l (.inl rfl) (by simp[dW,jw,h1,h2]),bT,bL]
      ·simp only[V0,Xa,Xe,af,au,dy,hn0,Uu,qw,jw,h1,c1,h2,hw0];exact jo _ 1 Ω ⟨1,_,Ω,Ω,fun _=>by simp[dW,h2],Ω,rfl,by simp only[V0,Xa,Xe,af]⟩
     ·simp only[V0,Xa,Xe,af,au,dy,hn0,Uu,qw,jw,h1,hw0];exact jo _ 1 Ω ⟨1,_,Ω,Ω,fun _=>by simp[dW,jw,h1],Ω,rfl,by simp only[V0,Xa,Xe,af]⟩
    ·have au:(((1:Nat):Int)<2)=True:=eq_true Δ;have hw0:aT .i64 (((1:Nat):Int)+1)=((2:Nat):Int):=rfl;have hn0:mC (aG aH ((1:Nat):Int))=some 1:=zX;have Uu:(1<2)=True:=eq_true Δ;cases h1:x.r==0
     ·cases h2:qh p.fs.l x.r
      ·simp only[V0,Xa,Xe,af,au,dy,hn0,Uu,uP,jw,h1,c1,h2];refine mE _ ?_;simp only[V0];refine dA _ ?_;simp only[V0,Xa,af,lp,hdup,hlo,bad x.r (.inr rfl) (by simp[dW,jw,h1,h2]),bT,bL]
      ·simp only[V0,Xa,Xe,af,au,dy,hn0,Uu,uP,jw,h1,c1,h2,hw0];exact jo _ 0 Ω ⟨2,_,Ω,Ω,fun _=>hk1 Ω,fun _=>by simp[dW,h2],rfl,by simp only[V0,Xa,Xe,af]⟩
     ·simp only[V0,Xa,Xe,af,au,dy,hn0,Uu,uP,jw,h1,hw0];exact jo _ 0 Ω ⟨2,_,Ω,Ω,fun _=>hk1 Ω,fun _=>by simp[dW,jw,h1],rfl,by simp only[V0,Xa,Xe,af]⟩
    ·have au:(((2:Nat):Int)<2)=False:=eq_false Δ;simp only[V0,Xa,af,au];refine lX _ _ ?_;simp only[V0,Xa,Xe,af,hw];exact bV _ (p.az.l.length-(i+1)) Ω ⟨i+1,_,Ω,Ω,zF hx ha (by simp[hk1 Ω,hk2 Ω]),rfl,by simp only[V0,Xa,Xe,af]⟩
   ·have wD:p.az.l.any (fun a=>dW p.fs.l a.l||dW p.fs.l a.r)=false:=by rw[←gj (l:=p.az.l) (i:=i) Ω];exact ha
    simp only[V0,Xa,af,h];refine cS _ _ ?_;simp only[V0,Xa,af,lp,hdup,hlo,wD,bL]
end
theorem zbq{S:cZ}{f:FuncId}{i:jy}{args:List IV}{w:IV}(hS:S f args=none)(hi:aR f=some i)(hm:i.mode=0)(hl:args.length<=i.ntmps)(N:Nat)
  (h:∀ m,N<=m->∀ d ah t,aN i.ntmps t (slotsOf 0 args)->Ex (aM aR S m) d ah m i.body (MX d ah i.res m w) ⟨t,[]⟩):∀ m,N+1<=m->∀ d ah aK aa id,aM aR S m d ah aK aa id f args=some (.r,w,aa):=by
 intro m hm1 d ah aK aa id
 obtain⟨m,rfl⟩:=me m 1
 obtain ⟨o,st,h1,h2,v,h3,h4⟩:=h m Ω (d+1) (fun l=>if l=d then aK else ah l) (args++List.replicate (i.ntmps - args.length) (.tuple [])) ⟨by simp; omega,fun p hp=>by
  obtain⟨j,h1,h2⟩:=yw hp;rw[z6,mN,h1,fO,gT (cU.1 h2).1,h2];rfl⟩
 have hm0:¬ (0=2):=by decide
 have P4:¬ (0=3):=by decide
 have P3:¬ (4<=0):=by decide
 simp only[aM,hS,hi,hm,hm0,P4,P3,if_false,zi,h1]
 rcases h2 with rfl|rfl<;>simp[ended,h3,leave,h4]
theorem sX{S:cZ}{f:FuncId}(i:jy){args:List IV}{w:IV}(hS:bN S)(N:Nat)(h:∀ m,N<=m->∀ d ah t,aN i.ntmps t (slotsOf 0 args)->Ex (aM aR S m) d ah m i.body (MX d ah i.res m w) ⟨t,[]⟩)(h0:sf f=true:=by rfl)(hi:aR f=some i:=by rfl)(hm:i.mode=0:=by rfl)(hl:args.length<=i.ntmps:=by exact lb rfl):∀ m,N+1<=m->∀ d ah aK aa id,aM aR S m d ah aK aa id f args=some (.r,w,aa):=zbq (ns hS h0) hi hm hl N h
section
variable {x y z w:aO} {O R Q J:aU}
theorem aas:(O++(J++x::R))[O.length+J.length]?=some x:=by rw[jd Ω,B4];simp
theorem aar:(O++(J++x::R)).set (O.length+J.length) w=O++(J++w::R):=by rw[Fc _ _ Ω,B4];simp
end
theorem wN{n d:Nat}{aa:aU}{a b a' b':IV}(h1:freeze n d aa a=some a')(h2:freeze n d aa b=some b'):freeze (n+1) d aa (.tuple [a,b])=some (.tuple [a',b']):=by simp[freeze,h1,h2]
theorem map_take{α β:Type}{f:α->β}{l:List α}{i:Nat}{x:α}(hx:l[i]?=some x):(l.take (i+1)).map f=(l.take i).map f++[f x]:=by rw[lH,hx];simp
section
variable {S:cZ}
theorem YP{α:Type}{l:List α}{f:α->Int}(h:l.length<=1000000):(l.map f).length<9223372036854775808:=by rw[ig];omega
theorem Rx(hS:bN S)(p:Pn)(h1:p.ns.l.length<=1000000)(h2:p.az.l.length<=1000000):aP S (p.ns.l.length+p.az.l.length+10) 61 [.agg p.c] (.tuple [(eX zf (p.ns.l.map Nd.id) (YP h1)).v,(eX zf (p.az.l.map Ac.id) (YP h2)).v]):=by
 refine sX i61 hS (p.ns.l.length+p.az.l.length+9) fun m hm d ah t af=>?_;simp only[slotsOf,zb,zc,i61,Pn.c]at af;simp only[i61,V0,seval,af];refine ze (fun jj st=>∃(i:Nat)(J:aU)(lv:IV),p.ns.l.length-i<=jj/\i<=p.ns.l.length/\cg aL 1 d 1 J lv ((p.ns.l.take i).map Nd.id)/\st.aa=aI [p.ns.v,p.az.v,p.fs.v]::J/\aN 36 st.t [(1,.ptrM d 0 0),(2,lv),(3,.nilsl),(9,p.ns.v),(10,iv (p.ns.l.length:Nat)),(11,iv i)]) p.ns.l.length Ω ⟨0,[],.nilsl,Ω,Ω,.inl ⟨Ψ,rfl⟩,rfl,by simp only[V0,seval,af,eU]⟩ ?_;clear af;rintro jj ⟨t,aa⟩ KA ⟨i,J,lv,hjj,hi,hO,ho,af⟩ bV cS dA;dsimp only at ho af;subst ho;simp only[V3]at af;by_cases h:i<p.ns.l.length
 ·obtain⟨x,hx⟩:=gx (l:=p.ns.l) (i:=i) h;have hrd:bM (p.ns.l.flatMap Nd.c) (i*3) 3=some [aG aH x.id,aG aH x.at'.x,aG aH x.at'.y]:=(zd Nd.aZ 0 3 hx Ω).trans rfl;have hw:=zq i;have au:((p.ns.l.take i).map Nd.id).length=i:=by rw[ig,k8,qu Ω]
  obtain⟨e,dR,J2,b9,dX⟩:=zM (Pre:=[aI [p.ns.v,p.az.v,p.fs.v]]) (n0:=J.length+1+1) (slot:=0) (k:=1) (ah:=ah) (R:=[aI [aG aH x.id,aG aH x.at'.x,aG aH x.at'.y],.free]) zf hO (ys:=[x.id]) Ψ (by simp only[au,cu,dw];omega) (by simp only[cu,dw];omega) rfl rfl;simp only[gQ,gM,fJ,lz,aL,zg,cu,dw,iL,fO]at b9;rw[←map_take (f:=Nd.id) hx]at dX;simp only[V0,seval,za p.ns h,rep,zh,zk,zo,zu, *];exact bV _ (p.ns.l.length-(i+1)) Ω ⟨i+1,J2,dR,Ω,Ω,dX,rfl,cD⟩
 ·simp only[V0,seval,af,h];refine cS _ _ ?_;simp only[V0,seval,af];have Fm:cg aL 1 d 1 J lv (p.ns.l.map Nd.id):=by rw[gj Ω]at hO;exact hO
  clear hO;refine ze (fun jj st=>∃(i:Nat)(J2:aU)(lw:IV),p.az.l.length-i<=jj/\i<=p.az.l.length/\cg aL 1 d (J.length+1) J2 lw ((p.az.l.take i).map Ac.id)/\st.aa=aI [p.ns.v,p.az.v,p.fs.v]::(J++J2)/\aN 36 st.t [(2,lv),(3,lw),(22,p.az.v),(23,iv (p.az.l.length:Nat)),(24,iv i)]) p.az.l.length Ω ⟨0,[],.nilsl,Ω,Ω,.inl ⟨Ψ,rfl⟩,Ψ,by simp only[V0,seval,af,eU]⟩ ?_;clear af bV cS dA;rintro jj ⟨t,aa⟩ KA ⟨i,J2,lw,hjj,hi,hO,ho,af⟩ bV cS dA;dsimp only at ho af;subst ho;simp only[V3]at af;by_cases h:i<p.az.l.length
  ·obtain⟨x,hx⟩:=gx (l:=p.az.l) (i:=i) h;have hrd:bM (p.az.l.flatMap Ac.c) (i*6) 6=some [aG aH x.id,aG aH x.fr,aG aH x.to,x.via.v,aG aH x.l,aG aH x.r]:=(zd Ac.aZ 0 6 hx Ω).trans rfl;have hw:=zq i;have au:((p.az.l.take i).map Ac.id).length=i:=by rw[ig,k8,qu Ω]
   obtain⟨e,dR,J3,b9,dX⟩:=zM (Pre:=aI [p.ns.v,p.az.v,p.fs.v]::J) (n0:=J.length+(J2.length+1)+1) (slot:=0) (k:=1) (ah:=ah) (R:=[aI [aG aH x.id,aG aH x.fr,aG aH x.to,x.via.v,aG aH x.l,aG aH x.r],.free]) zf hO (ys:=[x.id]) Ψ (by simp only[au,cu,dw];omega) (by simp only[cu];omega) rfl rfl;simp only[gQ,fJ,lz,aL,zg,cu,dw,iL,fO]at b9;rw[←map_take (f:=Ac.id) hx]at dX;simp only[V0,seval,za p.az h,aas,aar,rep,zh,zk,zo,zu, *];exact bV _ (p.az.l.length-(i+1)) Ω ⟨i+1,J3,dR,Ω,Ω,dX,rfl,cD⟩
  ·simp only[V0,seval,af,h];refine cS _ _ ?_;have dX:cg aL 1 d (J.length+1) J2 lw (p.az.l.map Ac.id):=by rw[gj Ω]at hO;exact hO
   obtain⟨m,rfl⟩:=me m 1;have f1:=yK (Pre:=[aI [p.ns.v,p.az.v,p.fs.v]]) (m:=m) zf (fun a x hx=>by
    simp only[aL,fF,j4,k7]at hx;subst hx;exact zn) Ω (YP h1) (Fm.more J2)
   have f2:=yK (Pre:=aI [p.ns.v,p.az.v,p.fs.v]::J) (m:=m) zf (fun a x hx=>by
    simp only[aL,fF,j4,k7]at hx;subst hx;exact zn) Ω (YP h2) dX
   simp only[gQ,gM]at f1 f2;simp only[V0,seval,af];exact⟨_,rfl,wN f1 f2⟩
end
def cR(a:Ac)(path:aS 2 Pt.c):List IV:=[aG aH a.id,aG aH a.fr,aG aH a.to,a.via.v,aG aH a.l,aG aH a.r,path.v]
structure Sg where
 a:Ac
 path:aS 2 Pt.c
 k:Nat
 hk:k+1<path.l.length
def Sg.g(s:Sg):List IV:=[.ptrC (cR s.a s.path) 0,aG aH (s.k:Int)]
def Sg.e(s:Sg):IV:=.agg s.g
def Sg.p0(s:Sg):Pt:=s.path.l[s.k]'(by have:=s.hk;omega)
def Sg.p1(s:Sg):Pt:=s.path.l[s.k+1]'s.hk
def Sg.w(s:Sg):Int:=sC s.p0.x s.p1.x
def Sg.ea(s:Sg):Int:=s9 s.p0.x s.p1.x
def uo(x y:Int):Int:=if x<y then -1 else if y<x then 1 else 0
theorem FN:Nw Sg.g Sg.e 2 true:=⟨fun _=>rfl,fun _=>rfl,fun _=>rfl,fun _=>rfl⟩
theorem acp(s:Sg):bM (s.path.l.flatMap Pt.c) (s.k*2) 2=some [aG aH s.p0.x,aG aH s.p0.y]:=(zd (sz:=2) (fun _=>rfl) 0 2 (cK (by have:=s.hk;omega)) Ω).trans rfl
theorem aco(s:Sg):bM (s.path.l.flatMap Pt.c) ((s.k+1)*2) 2=some [aG aH s.p1.x,aG aH s.p1.y]:=(zd (sz:=2) (fun _=>rfl) 0 2 (cK s.hk) Ω).trans rfl
section
variable {S:cZ}
theorem zbr(hS:bN S)(s:Sg):aP S 4 110 [.agg s.g] (.tuple [.agg s.p0.c,.agg s.p1.c]):=by refine sX i110 hS (3) fun m hm d ah t af=>?_;simp only[slotsOf,zb,zc,i110,Sg.g,cR]at af;have hk:=s.hk;have h0:s.k<s.path.l.length:=Ω;have hf:=s.path.gC;have hw:aT .i64 ((s.k:Int)+1)=((s.k+1:Nat):Int):=we;have r0:=acp s;have r1:=aco s;simp only[i110,V0,seval,af,za s.path h0,za s.path hk,r0,r1,hw];refine⟨by simp[comm],?_⟩;obtain⟨m,rfl⟩:∃ q,m=q+3:=⟨m-3,Ω⟩;simp only[V0,seval,af,Pt.c];exact⟨_,rfl,by simp[freeze]⟩
theorem EE(hS:bN S)(s:Sg):aP S 2 112 [.agg s.g] (.bool ((s.k:Int)==0)):=by refine gv i112 hS (1) zj fun m hm d ah t af=>?_;simp only[slotsOf,zb,zc,i112,Sg.g,cR]at af;simp only[i112,V0,seval,af]
theorem JZ(hS:bN S)(s:Sg):aP S 2 113 [.agg s.g] (.bool ((s.k:Int)==((s.path.l.length-2:Nat):Int))):=by refine gv i113 hS (1) zj fun m hm d ah t af=>?_;simp only[slotsOf,zb,zc,i113,Sg.g,cR]at af;have hk:=s.hk;have hf:=s.path.gC;have hw:aT .i64 ((s.path.l.length:Int)-2)=((s.path.l.length-2:Nat):Int):=we;simp only[i113,V0,seval,af,hw]
theorem BB(hS:bN S)(s:Sg):aP S 6 107 [.agg s.g] (aG aH s.w):=by
 refine gv i107 hS (5) zn fun m hm d ah t af=>?_;simp only[slotsOf,zb,zc,i107,Sg.g,cR]at af;have c0:=zbr hS s m Ω;simp only[Sg.g,cR,Pt.c,zg]at c0;have hmn:∀ a b:Int,(if b<a then b else a)=sC a b:=fun _ _=>rfl
 simp only[i107,V0,seval,af,c0,hmn,Sg.w]
theorem Vk(hS:bN S)(s:Sg):aP S 6 108 [.agg s.g] (aG aH s.ea):=by
 refine gv i108 hS (5) zn fun m hm d ah t af=>?_;simp only[slotsOf,zb,zc,i108,Sg.g,cR]at af;have c0:=zbr hS s m Ω;simp only[Sg.g,cR,Pt.c,zg]at c0;have Uj:∀ a b:Int,(if a<b then b else a)=s9 a b:=fun _ _=>rfl
 simp only[i108,V0,seval,af,c0,eZ,Uj,Sg.ea]
theorem abv(hS:bN S)(x y:Int):aP S 4 106 [iv x,iv y] (aG aH (uo x y)):=by
 refine gv i106 hS (3) zn fun m hm d ah t af=>?_;simp only[V2,i106]at af;have c0:=fun x d ah aK aa i=>LV hS x m Ω d ah aK aa i;unfold uo;by_cases h:x<y
 ·rw[bt h];simp only[i106,V0,seval,af,c0,h]
 ·rw[bC h];by_cases h2:y<x
  ·rw[bt h2];simp only[i106,V0,seval,af,c0,h,eZ,h2]
  ·rw[bC h2];simp only[i106,V0,seval,af,c0,h,eZ,h2]
theorem G5(hS:bN S)(s u:Sg):aP S 8 105 [.agg s.g,.agg u.g] (aG aH (uo s.w u.w)):=by refine gv i105 hS (7) zn fun m hm d ah t af=>?_;simp only[V2,i105,Sg.g,cR]at af;have c0:=BB hS s m Ω;have c1:=BB hS u m Ω;have c2:=abv hS s.w u.w m Ω;simp only[Sg.g,cR,zg]at c0 c1 c2;simp only[i105,V0,seval,af,c0,c1,c2]
theorem F7(hS:bN S){d:Nat}{ah:bR}{dZ:aU}{b:Nat}:xH S 8 d ah dZ b Sg.e 105 [] (fun s u=>uo s.w u.w):=fun m hm aK aa id x y _=>G5 hS x y m hm d ah aK aa id
end
theorem Yc{S:cZ}{f:FuncId}{i:jy}{args:List IV}{v:IV}(hS:S f args=none)(hi:aR f=some i)(hm:i.mode=0)(hl:args.length<=i.ntmps){N m d:Nat}{ah:bR}{aK aa:aU}{id:Nat}(hN:1<=N)(hmN:N+1<=m)(hv:Fz 1 v)
  (h:∀ m,N<=m->∀ t,aN i.ntmps t (slotsOf 0 args)->Ex (aM aR S m) (d+1) (fun l=>if l=d then aK else ah l) m i.body (Fin (d+1) (fun l=>if l=d then aK else ah l) i.res v) ⟨t,[]⟩):aM aR S m d ah aK aa id f args=some (.r,v,aa):=by
 obtain⟨m,rfl⟩:∃ q,m=q+1:=⟨m-1,Ω⟩
 obtain ⟨o,st,h1,h2,h3⟩:=h m Ω (args++List.replicate (i.ntmps - args.length) (.tuple [])) ⟨by simp; omega,fun p hp=>by
  obtain⟨j,h1,h2⟩:=yw hp;rw[z6,mN,h1,fO,gT (cU.1 h2).1,h2];rfl⟩
 have hm0:¬ (0=2):=by decide
 have P4:¬ (0=3):=by decide
 have P3:¬ (4<=0):=by decide
 have hf:freeze m (d+1) st.aa v=some v:=hv m Ω _ _
 simp only[aM,hS,hi,hm,hm0,P4,P3,if_false,zi,h1]
 rcases h2 with rfl|rfl<;>simp[ended,h3,leave,hf]
def eE(L:List (Int×Pt)):List IV:=L.map fun kv=>aG aH kv.1
def eG(L:List (Int×Pt)):List IV:=L.map fun kv=>.agg kv.2.c
def jB(L:List (Int×Pt))(id:Int):Pt:=((L.find? fun kv=>id==kv.1).map Prod.snd).getD ⟨0,0⟩
theorem Y5(id:Int):∀(L:List (Int×Pt))(n:Nat),fL (false,[1]) (aG aH id) (eE L) n=some ((L.findIdx? fun kv=>id==kv.1).map (n+·))
 |[],n=>rfl
 |kv::L,n=>by
  have ih:=Y5 id L (n+1);have e:Nl (false,[1]) (aG aH id) (aG aH kv.1)=some (id==kv.1):=by
   have:fM [1] [aG aH id] [aG aH kv.1]=some (id==kv.1):=by simp only[fM,eqv];cases h1:id==kv.1<;>simp[h1]
   exact this
  show(match Nl (false,[1]) (aG aH id) (aG aH kv.1)with|some true=>some (some n)|some false=>fL (false,[1]) (aG aH id) (eE L) (n+1)|none=>none)=_
  rw[e];cases h:id==kv.1
  ·simp only[ih,NF,h];cases L.findIdx? fun kv=>id==kv.1 with
   |none=>rfl
   |some j=>simp;omega
  ·simp[NF,h]
theorem zfd(id:Int)(L:List (Int×Pt)):∃ r:Option IV,mh (false,[1]) (aG aH id) (eE L) (eG L)=some r/\r.getD (.agg [aG aH 0,aG aH 0])=.agg [aG aH (jB L id).x,aG aH (jB L id).y]:=by
 have h0:(kL false (IV.int .i64 id)&&(IV.int .i64 id).cells.length==[1].length)=true:=rfl;unfold mh;rw[bt h0,Y5];cases h:L.findIdx? fun kv=>id==kv.1 with
 |none =>
  refine⟨none,rfl,?_⟩
  have h1:(L.find? fun kv=>id==kv.1)=none:=by rw[Ks]at h;rw[XD];intro x hx;simp[h x hx]
  simp[jB,h1]
 |some j =>
  obtain⟨hj,hq,hmin⟩:=Kt.1 h
  have h1:(L.find? fun kv=>id==kv.1)=some L[j]:=by rw[zni];exact⟨hq,j,hj,rfl,fun k hk=>by simpa using hmin k hk⟩
  refine⟨some (.agg (L[j]).2.c),?_,?_⟩
  ·simp[eG,hj]
  ·simp[jB,h1,Pt.c,zg]
def j6(c:Int)(s u:Sg):Bool:=bif (((s.k+1:Nat):Int)==(u.k:Int))||((s.a.fr==s.a.to)&&(((s.k:Int)==0)&&((u.k:Int)==((u.path.l.length-2:Nat):Int))))then c==1 else c==0
section
variable {S:cZ}
theorem xh(hS:bN S)(s u:Sg)(c:Int){m d:Nat}{ah:bR}(hm:4<=m){K:fP}(t:List IV)(O:aU)(af:aN 137 t [(3,.ptrM d 0 0),(4,.ptrM d 1 0),(11,aG aH c)])
  (hK:∀ t' O',aN 137 t' [(6,.bool (j6 c s u))]->K .ret ⟨t',O'⟩):Ex (aM aR S m) d ah m (i109.body.sub [1,1,1,1,0,1,0,1]) K ⟨t,aI s.g::aI u.g::O⟩:=by
 simp only[zb,zc]at af
 have hk:=s.hk
 have hf:=s.path.gC
 have hw:aT .i64 ((s.k:Int)+1)=((s.k+1:Nat):Int):=we
 have c1:=EE hS s m Ω
 have c2:=JZ hS u m Ω
 simp only[Sg.g,cR]at c1 c2
 cases h1:((s.k+1:Nat):Int)==(u.k:Int)
 ·cases h2:s.a.fr==s.a.to
  ·simp only[i109,IC.sub,V0,Xa,Xe,af,Sg.g,cR,hw,h1,h2,Xb]
   exact hK _ _ (by simp only[V0,Xa,af,j6,h1,h2,M5,ew,bL])
  ·cases h3:(s.k:Int)==0
   ·simp only[i109,IC.sub,V0,Xa,Xe,Sg.g,cR,Xb, *]
    exact hK _ _ (by simp only[V0,Xa,af,j6,h1,h2,h3,M5,ew,l8,bL])
   ·cases h4:(u.k:Int)==((u.path.l.length-2:Nat):Int)
    ·simp only[i109,IC.sub,V0,Xa,Xe,Sg.g,cR,Xb, *]
     exact hK _ _ (by simp only[V0,Xa,j6,M5,l8,bL, *])
    ·simp only[i109,IC.sub,V0,Xa,Xe,Sg.g,cR,Xb, *]
     exact hK _ _ (by simp only[V0,Xa,j6,Kq,bT, *])
 ·simp only[i109,IC.sub,V0,Xa,Xe,af,Sg.g,cR,hw,h1,Xb]
  exact hK _ _ (by simp only[V0,Xa,af,j6,h1,iY,bT])
def dx(L:List (Int×Pt))(s u:Sg)(id:Int):Bool:=(id==u.a.fr||id==u.a.to)&&(mZ s.p0 s.p1 (jB L id)&&mZ u.p0 u.p1 (jB L id))
theorem Mr(hS:bN S)(s u:Sg)(L:List (Int×Pt)){m d dm j:Nat}{ah:bR}(hm:12<=m){bs:List Nat}{ck:Nat}(hdm:dm<d)(hmap:(ah dm)[j]?=some (.map (eE L) (eG L) bs ck)){K:fP}(t:List IV)(F1 F2:aO)(O:aU)
  (af:aN 137 t [(2,.mapM dm j),(3,.ptrM d 0 0),(4,.ptrM d 1 0),(7,.ptrM d 3 0),(8,.ptrM d 4 0),(9,.ptrM d 6 0),(10,.ptrM d 7 0)])
  (hK:∀ t' O',aN 137 t' [(6,.bool (dx L s u s.a.fr||dx L s u s.a.to))]->K .ret ⟨t',O'⟩) :
  Ex (aM aR S m) d ah m (i109.body.sub [1,1,1,1,1,1]) K ⟨t,aI s.g::aI u.g::F1::aI s.p0.c::aI s.p1.c::F2::aI u.p0.c::aI u.p1.c::O⟩:=by
 simp only[zb,zc]at af
 have M9:rep [IV.int .i64 0] 2=[aG aH 0,aG aH 0]:=dO rfl rfl
 have co:∀(u v w:Pt) d ah aK aa i,aM aR S m d ah aK aa i 111 [.agg [aG aH u.x,aG aH u.y],.agg [aG aH v.x,aG aH v.y],.agg [aG aH w.x,aG aH w.y]]=some (.r,.bool (mZ u v w),aa):=fun u v w d ah aK aa i=>JY hS u v w m Ω d ah aK aa i
 have hne:¬ (dm=d):=Ω
 simp only[i109,IC.sub,V0,Xa,Xb,Xd,Xe,af,Sg.g,cR,Pt.c]
 refine ze (fun jj st=>∃(k:Nat)(O:aU),2-k<=jj/\k<=2/\(1<=k->dx L s u s.a.fr=false)/\(2<=k->dx L s u s.a.to=false)/\st.aa=aI [.ptrC (cR s.a s.path) 0,aG aH (s.k:Int)]::aI [.ptrC (cR u.a u.path) 0,aG aH (u.k:Int)]::F1::aI [aG aH s.p0.x,aG aH s.p0.y]::aI [aG aH s.p1.x,aG aH s.p1.y]::F2::aI [aG aH u.p0.x,aG aH u.p0.y]::aI [aG aH u.p1.x,aG aH u.p1.y]::O/\aN 137 st.t [(2,.mapM dm j),(3,.ptrM d 0 0),(4,.ptrM d 1 0),(7,.ptrM d 3 0),(8,.ptrM d 4 0),(9,.ptrM d 6 0),(10,.ptrM d 7 0),(99,.agg [aG aH s.a.fr,aG aH s.a.to]),(100,iv k)]) 2 Ω ⟨0,O,Ω,Ω,Ω,Ω,rfl,by simp only[V0,Xa,Xe,af,eU]⟩ ?_
 clear af
 rintro jj ⟨t,aa⟩ KB ⟨k,O,hjk,hk,hk1,hk2,ho,af⟩ jo lX mE
 dsimp only at ho af
 subst ho
 simp only[V3]at af
 have tX:k=0∨k=1∨k=2:=Ω
 rcases tX with rfl|rfl|rfl
 ·have au:(((0:Nat):Int)<2)=True:=eq_true Δ
  have hw0:aT .i64 (((0:Nat):Int)+1)=((1:Nat):Int):=rfl
  have hn0:mC (aG aH ((0:Nat):Int))=some 0:=zX
  have Uu:(0<2)=True:=eq_true Δ
  obtain⟨r,qm,hr2⟩:=zfd s.a.fr L
  have ev:∀(C:Call)(n0:Nat)(aK aa:aU)(t:List IV)(x ix:bG),ρ t x=.mapM dm j->ρ t ix=aG aH s.a.fr->cH C d ah n0 aK aa t (.lookup (.agg [aG aH 0,aG aH 0]) (false,[1]) false x ix)=some (.r,.agg [aG aH (jB L s.a.fr).x,aG aH (jB L s.a.fr).y],aa):=fun C n0 aK aa t x ix h1 h2=>by rw[Zu];simp only[fV,h1,h2,look,bC hne,bt hdm,hmap,qm,gH,hr2];rfl
  cases a1:s.a.fr==u.a.fr
  ·cases a2:s.a.fr==u.a.to
   ·skip
    have nh:dx L s u s.a.fr=false:=by simp[dx,a1,a2]
    simp only[V0,Xa,Xb,Xe,cR,dy,qw, *]
    exact jo _ 1 Ω ⟨1,_,Ω,Ω,fun _=>nh,fun h=>absurd h Ω,rfl,by simp only[V0,Xa,Xe,af]⟩
   ·skip
    cases o1:mZ s.p0 s.p1 (jB L s.a.fr)
    ·skip
     have nh:dx L s u s.a.fr=false:=by simp[dx,a1,a2,o1]
     simp only[V0,Xa,Xb,Xe,cR,dy,qw, *]
     exact jo _ 1 Ω ⟨1,_,Ω,Ω,fun _=>nh,fun h=>absurd h Ω,rfl,by simp only[V0,Xa,Xe,af]⟩
    ·cases o2:mZ u.p0 u.p1 (jB L s.a.fr)
     ·skip
      have nh:dx L s u s.a.fr=false:=by simp[dx,a1,a2,o1,o2]
      simp only[V0,Xa,Xb,Xe,cR,dy,qw, *]
      exact jo _ 1 Ω ⟨1,_,Ω,Ω,fun _=>nh,fun h=>absurd h Ω,rfl,by simp only[V0,Xa,Xe,af]⟩
     ·skip
      have nh:dx L s u s.a.fr=true:=by simp[dx,a1,a2,o1,o2]
      simp only[V0,Xa,Xb,Xe,cR,dy,qw, *]
      refine mE _ ?_
      simp only[V0]
      exact hK _ _ (by simp only[V0,Xa,af,nh,iY])
  ·skip
   cases o1:mZ s.p0 s.p1 (jB L s.a.fr)
   ·skip
    have nh:dx L s u s.a.fr=false:=by simp[dx,a1,o1]
    simp only[V0,Xa,Xb,Xe,cR,dy,qw, *]
    exact jo _ 1 Ω ⟨1,_,Ω,Ω,fun _=>nh,fun h=>absurd h Ω,rfl,by simp only[V0,Xa,Xe,af]⟩
   ·cases o2:mZ u.p0 u.p1 (jB L s.a.fr)
    ·skip
     have nh:dx L s u s.a.fr=false:=by simp[dx,a1,o1,o2]
     simp only[V0,Xa,Xb,Xe,cR,dy,qw, *]
     exact jo _ 1 Ω ⟨1,_,Ω,Ω,fun _=>nh,fun h=>absurd h Ω,rfl,by simp only[V0,Xa,Xe,af]⟩
    ·skip
     have nh:dx L s u s.a.fr=true:=by simp[dx,a1,o1,o2]
     simp only[V0,Xa,Xb,Xe,cR,dy,qw, *]
     refine mE _ ?_
     simp only[V0]
     exact hK _ _ (by simp only[V0,Xa,af,nh,iY])
 ·have au:(((1:Nat):Int)<2)=True:=eq_true Δ
  have hw0:aT .i64 (((1:Nat):Int)+1)=((2:Nat):Int):=rfl
  have hn0:mC (aG aH ((1:Nat):Int))=some 1:=zX
  have Uu:(1<2)=True:=eq_true Δ
  obtain⟨r,qm,hr2⟩:=zfd s.a.to L
  have ev:∀(C:Call)(n0:Nat)(aK aa:aU)(t:List IV)(x ix:bG),ρ t x=.mapM dm j->ρ t ix=aG aH s.a.to->cH C d ah n0 aK aa t (.lookup (.agg [aG aH 0,aG aH 0]) (false,[1]) false x ix)=some (.r,.agg [aG aH (jB L s.a.to).x,aG aH (jB L s.a.to).y],aa):=fun C n0 aK aa t x ix h1 h2=>by rw[Zu];simp only[fV,h1,h2,look,bC hne,bt hdm,hmap,qm,gH,hr2];rfl
  cases a1:s.a.to==u.a.fr
  ·cases a2:s.a.to==u.a.to
   ·skip
    have nh:dx L s u s.a.to=false:=by simp[dx,a1,a2]
    simp only[V0,Xa,Xb,Xe,cR,dy,uP, *]
    exact jo _ 0 Ω ⟨2,_,Ω,Ω,fun _=>hk1 Ω,fun _=>nh,rfl,by simp only[V0,Xa,Xe,af]⟩
   ·skip
    cases o1:mZ s.p0 s.p1 (jB L s.a.to)
    ·skip
     have nh:dx L s u s.a.to=false:=by simp[dx,a1,a2,o1]
     simp only[V0,Xa,Xb,Xe,cR,dy,uP, *]
     exact jo _ 0 Ω ⟨2,_,Ω,Ω,fun _=>hk1 Ω,fun _=>nh,rfl,by simp only[V0,Xa,Xe,af]⟩
    ·cases o2:mZ u.p0 u.p1 (jB L s.a.to)
     ·skip
      have nh:dx L s u s.a.to=false:=by simp[dx,a1,a2,o1,o2]
      simp only[V0,Xa,Xb,Xe,cR,dy,uP, *]
      exact jo _ 0 Ω ⟨2,_,Ω,Ω,fun _=>hk1 Ω,fun _=>nh,rfl,by simp only[V0,Xa,Xe,af]⟩
     ·skip
      have nh:dx L s u s.a.to=true:=by simp[dx,a1,a2,o1,o2]
      simp only[V0,Xa,Xb,Xe,cR,dy,uP, *]
      refine mE _ ?_
      simp only[V0]
      exact hK _ _ (by simp only[V0,Xa,af,hk1 Ω,nh,Kq])
  ·skip
   cases o1:mZ s.p0 s.p1 (jB L s.a.to)
   ·skip
    have nh:dx L s u s.a.to=false:=by simp[dx,a1,o1]
    simp only[V0,Xa,Xb,Xe,cR,dy,uP, *]
    exact jo _ 0 Ω ⟨2,_,Ω,Ω,fun _=>hk1 Ω,fun _=>nh,rfl,by simp only[V0,Xa,Xe,af]⟩
   ·cases o2:mZ u.p0 u.p1 (jB L s.a.to)
    ·skip
     have nh:dx L s u s.a.to=false:=by simp[dx,a1,o1,o2]
     simp only[V0,Xa,Xb,Xe,cR,dy,uP, *]
     exact jo _ 0 Ω ⟨2,_,Ω,Ω,fun _=>hk1 Ω,fun _=>nh,rfl,by simp only[V0,Xa,Xe,af]⟩
    ·skip
     have nh:dx L s u s.a.to=true:=by simp[dx,a1,o1,o2]
     simp only[V0,Xa,Xb,Xe,cR,dy,uP, *]
     refine mE _ ?_
     simp only[V0]
     exact hK _ _ (by simp only[V0,Xa,af,hk1 Ω,nh,Kq])
 ·have au:(((2:Nat):Int)<2)=False:=eq_false Δ
  simp only[V0,Xa,af,au]
  refine lX _ _ ?_
  simp only[V0]
  exact hK _ _ (by simp only[V0,Xa,af,hk1 Ω,hk2 Ω,Sr])
end
def Sg.meet(s u:Sg):Int:=wk s.p0 s.p1 u.p0 u.p1
def mW(L:List (Int×Pt))(s u:Sg):Bool:=bif s.a.id==u.a.id then(bif decide (u.k<s.k)then j6 (s.meet u) u s else j6 (s.meet u) s u)else bif s.meet u==1 then dx L s u s.a.fr||dx L s u s.a.to else s.meet u==0
section
variable {S:cZ}
theorem Vo(hS:bN S)(s u:Sg)(L:List (Int×Pt)){m d j:Nat}{ah:bR}{aK aa:aU}{id:Nat}{bs:List Nat}{ck:Nat}(hm:20<=m)(hmap:aK[j]?=some (.map (eE L) (eG L) bs ck)) :
  aM aR S m d ah aK aa id 109 [.agg s.g,.agg u.g,.mapM d j]=some (.r,.bool (mW L s u),aa):=by
 refine Yc (i:=i109) (ns hS) rfl rfl (lb rfl) (N:=19) Ω hm zj fun m hm t af=>?_
 simp only[V2,Xb,i109]at af
 have WA:((fun l=>if l=d then aK else ah l:bR) d)[j]?=some (.map (eE L) (eG L) bs ck):=by simpa using hmap
 generalize(fun l=>if l=d then aK else ah l:bR)=cQ at WA ⊢
 have hce:=fun dd oo aK aa i=>zbr hS s m Ω dd oo aK aa i
 have hcu:=fun dd oo aK aa i=>zbr hS u m Ω dd oo aK aa i
 have qo:=fun dd oo aK aa i=>Vg hS s.p0 s.p1 u.p0 u.p1 m Ω dd oo aK aa i
 simp only[Sg.g,cR,Pt.c,zg]at hce hcu qo
 have hA1:=fun(K:fP) t O=>xh hS s u (s.meet u) (m:=m) (d:=d+1) (ah:=cQ) Ω (K:=K) t O
 have hA2:=fun(K:fP) t O=>xh hS u s (s.meet u) (m:=m) (d:=d+1) (ah:=cQ) Ω (K:=K) t O
 have hB1:=fun(K:fP) t F1 F2 O=>Mr hS s u L (m:=m) (d:=d+1) (ah:=cQ) Ω Ω WA (K:=K) t F1 F2 O
 rw[show i109.body=.seq (i109.body.sub [0]) (.seq (i109.body.sub [1,0]) (.seq (i109.body.sub [1,1,0]) (.seq (i109.body.sub [1,1,1,0]) (.seq (.seq (i109.body.sub [1,1,1,1,0,0]) (.cond (.tmp 42) (.seq (i109.body.sub [1,1,1,1,0,1,0,0]) (i109.body.sub [1,1,1,1,0,1,0,1])) .skip)) (.seq (i109.body.sub [1,1,1,1,1,0]) (i109.body.sub [1,1,1,1,1,1]))))))from rfl]
 generalize i109.body.sub [1,1,1,1,0,1,0,1]=A at hA1 hA2 ⊢
 generalize i109.body.sub [1,1,1,1,1,1]=B at hB1 ⊢
 have hmt:wk s.p0 s.p1 u.p0 u.p1=s.meet u:=rfl
 rw[hmt]at qo
 cases h0:s.a.id==u.a.id
 ·cases h1:s.meet u==1
  ·have jw:∀ z:Int,(z != 1)=!(z==1):=fun z=>rfl
   simp only[i109,IC.sub,V0,seval,Sg.g,cR, *]
   simp only[V0,seval,mW,h0,h1,bL]
  ·have jw:∀ z:Int,(z != 1)=!(z==1):=fun z=>rfl
   simp only[i109,IC.sub,V0,seval,Sg.g,cR, *]
   refine hB1 _ _ _ _ _ cD fun t' O' ht=>?_
   simp only[zb,zc]at ht
   simp only[V0,seval,ht,mW,h0,h1,bT,bL]
 ·by_cases h1:(u.k:Int)<(s.k:Int)
  ·have h1':decide (u.k<s.k)=true:=by simp;omega
   simp only[i109,IC.sub,V0,seval,Sg.g,cR,eZ, *]
   refine hA2 _ _ _ cD fun t' O' ht=>?_
   simp only[zb,zc]at ht
   simp only[V0,seval,ht,mW,h0,h1',bT]
  ·have h1':decide (u.k<s.k)=false:=by simp;omega
   simp only[i109,IC.sub,V0,seval,Sg.g,cR,eZ, *]
   refine hA1 _ _ _ cD fun t' O' ht=>?_
   simp only[zb,zc]at ht
   simp only[V0,seval,ht,mW,h0,h1',bT,bL]
end
theorem yz{S:cZ}{f:FuncId}{i:jy}{args:List IV}{m d:Nat}{ah:bR}{aK aa:aU}{id:Nat}{Q:eV×IV×List aO->Prop}(hS:S f args=none)(hi:aR f=some i)(hm:i.mode≠2/\i.mode≠3/\¬ 4<=i.mode)(hl:args.length<=i.ntmps)
  (h:∀ t,aN i.ntmps t (slotsOf 0 args)->Ex (aM aR S m) (d+1) (fun l=>if l=d then aK else ah l) m i.body (fun o st=>(o=.normal∨o=.ret)/\∃ v r,bP (d+1) (fun l=>if l=d then aK else ah l) st i.res=some v/\leave m d st.aa aa id i.mode v=some r/\Q r) ⟨t,[]⟩):∃ r,aM aR S (m+1) d ah aK aa id f args=some r/\Q r:=by
 obtain ⟨o,st,h1,h2,v,r,h3,h4,h5⟩:=h (args++List.replicate (i.ntmps - args.length) (.tuple [])) ⟨by simp; omega,fun p hp=>by
  obtain⟨j,h1,h2⟩:=yw hp;rw[z6,mN,h1,fO,gT (cU.1 h2).1,h2];rfl⟩
 refine⟨r,?_,h5⟩
 simp only[aM,hS,hi,bC hm.1,bC hm.2.1,bC hm.2.2,zi,h1]
 rcases h2 with rfl|rfl<;>simp[ended,h3,h4]
theorem zcm{α:Type}{g:α->List IV}{sz:Nat}(hs:∀ a,(g a).length=sz){d n0 slot k:Nat}{ah:bR}{Pre J R:aU}{lv:IV}{xs ys:List α}(h:cg g sz d Pre.length J lv xs)(hy:ys.length≠0)(hx:xs.length+ys.length<=1073741824)(hk:n0+slot=Pre.length+(J.length+k))(hf:R[k]?=some .free)
  (hsc:(ys.flatMap g).all IV.scalar=true) :
  ∃ e dR J2,bh d n0 (look d ah (Pre++(J++R))) (Pre++(J++R)) sz lv (ys.flatMap g) ys.length slot=some (e,dR,Pre++J2)/\cg g sz d Pre.length J2 dR (xs++ys)/\∀ j x,j<J.length+k->(J++R)[j]?=some x->(J.length<=j∨x≠aI (xs.flatMap g))->J2[j]?=some x:=by
 have nP:k<R.length:=(cU.1 hf).1
 have fU:(J++R)[J.length+k]?=some .free:=by rw[jd Ω,B4];exact hf
 have au:J.length+k<(J++R).length:=by rw[eR];omega
 have hne:xs++ys≠[]:=by intro he;exact hy (by rw[(VO.1 he).2];rfl)
 rcases h with⟨rfl,rfl⟩|⟨b,_,rfl,h2⟩
 ·rw[yT hy (by unfold bound;simp at hx;omega)]
  unfold dU
  rw[hk,zJ,fU]
  simp only[zi]
  rw[z8]
  refine⟨_,_,_,rfl,.inr ⟨J.length+k,hne,Ψ,?_⟩,fun j x hj hx2 _=>?_⟩
  ·rw[oa au]
   rfl
  ·rw[nr Ω]
   exact hx2
 ·have hb:b<J.length:=(cU.1 h2).1
  have fG:(J++R)[b]?=some (aI (xs.flatMap g)):=by rw[gT hb];exact h2
  rw[zY hy hx (zl hs) hsc (by simp only[look,if_true,zJ];exact fG)]
  unfold kW
  rw[hk,zJ,fU]
  simp only[zi]
  rw[z8,z8]
  refine⟨_,_,_,rfl,.inr ⟨J.length+k,hne,Ψ,?_⟩,fun j x hj hx2 LP=>?_⟩
  ·rw[oa (by rw[s6];exact au)]
   simp
  ·rw[nr Ω]
   by_cases hjb:j=b
   ·subst hjb
    rw[fG]at hx2
    cases hx2
    rcases LP with h3|h3
    ·omega
    ·exact absurd rfl h3
   ·rw[nr (uE hjb)]
    exact hx2
def EB(d:Nat)(sb:Sg×Nat):List IV:=[.ptrM d sb.2 0,aG aH (sb.1.k:Int)]
theorem JW(d:Nat)(sb:Sg×Nat):(EB d sb).length=2:=rfl
def ku(J:aU)(xs:List (Sg×Nat)):Prop:=∀ sb∈xs,1<=sb.2/\J[sb.2-1]?=some (aI (cR sb.1.a sb.1.path))
theorem A4{d:Nat}{a:Ac}{path:aS 2 Pt.c}{xs:List (Sg×Nat)}:(aO.cells (cR a path))≠aI (xs.flatMap (EB d)):=by
 intro h;cases xs with
 |nil=>simp[cR]at h
 |cons x xs=>simp[cR,EB]at h
theorem zfe(a:Pt):∀ x∈a.c,Fz 1 x:=by intro x hx;simp only[Pt.c,fF,j4,k7]at hx;rcases hx with rfl|rfl<;>exact zn
theorem Ii{n d:Nat}{aa:aU}(hn:4<=n):∀{xs:List (Sg×Nat)},(∀ sb∈xs,aa[sb.2]?=some (aI (cR sb.1.a sb.1.path)))->(xs.flatMap (EB d)).mapM (freeze n d aa)=some ((xs.map Prod.fst).flatMap Sg.g)
 |[],_=>rfl
 |sb::xs,h=>by
  obtain⟨n,rfl⟩:∃ q,n=q+4:=⟨n-4,Ω⟩;have ih:=Ii (n:=n+4) (d:=d) hn (xs:=xs) fun x hx=>h x (nk _ hx);have h1:=h sb (kB ..);have f1:freeze (n+4) d aa (.ptrM d sb.2 0)=some (.ptrC (cR sb.1.a sb.1.path) 0):=by have agr:freeze (n+3) d aa sb.1.a.via.v=some sb.1.a.via.v:=z7 zfe sb.1.a.via (n+3) Ω d aa;have hpa:freeze (n+3) d aa sb.1.path.v=some sb.1.path.v:=z7 zfe sb.1.path (n+3) Ω d aa;have hi:∀ z:Int,freeze (n+3) d aa (aG aH z)=some (aG aH z):=fun z=>rfl;unfold freeze;simp only[if_true,h1,cR,rO,Cc,agr,hpa,hi,tC,uG,jG,gH]
  have f2:freeze (n+4) d aa (aG aH (sb.1.k:Int))=some (aG aH (sb.1.k:Int)):=rfl;rw[fJ,nK,fJ];simp only[EB,Sg.g,gQ,gM,rO,f1,f2,tC,uG,jG];rw[ih];rfl
theorem ku.keep{J J2:aU}{xs:List (Sg×Nat)}{d:Nat}(h:ku J xs)(hk:∀(j:Nat)(x:aO),J[j]?=some x->x≠aO.cells (xs.flatMap (EB d))->J2[j]?=some x):ku J2 xs:=fun sb hs=>⟨(h sb hs).1,hk _ _ (h sb hs).2 A4⟩
theorem ku.more{J R:aU}{xs:List (Sg × Nat)}(h:ku J xs):ku (J++R) xs:=fun sb hs=>⟨(h sb hs).1,by
 have:=(h sb hs).2;rw[gT (cU.1 this).1];exact this⟩
theorem Gg{n d bi id:Nat}{bO aa:aU}{xs:List (Sg×Nat)}{b:Bool}(hn:4<=n)(hb:bO[bi]?=some (aI (xs.flatMap (EB (d+1)))))(hl:∀ sb∈xs,bO[sb.2]?=some (aI (cR sb.1.a sb.1.path)))(hid:aa[id]?=some .free) :
  leave n d bO aa id 1 (.tuple [.slM (d+1) bi 0 xs.length xs.length 2 false,.bool b])=some (.a,.tuple [.slM d id 0 xs.length xs.length 2 false,.bool b],aa.set id (aI ((xs.map Prod.fst).flatMap Sg.g))):=by
 obtain⟨n,rfl⟩:=me n 4
 have h1:∀ sb∈xs,(bO.set bi .gone)[sb.2]?=some (aI (cR sb.1.a sb.1.path)):=fun sb hs=>by
  have hne:bi≠sb.2:=by intro he;have:=hl sb hs;rw[←he,hb]at this;exact A4 (kT this).symm
  rw[nr hne];exact hl sb hs
 have hf:=Ii (n:=n+4) (d:=d+1) Ω h1
 have iP:seg (xs.flatMap (EB (d+1))) 0 (xs.length*2)=some (xs.flatMap (EB (d+1))):=by have hlen:(xs.flatMap (EB (d+1))).length=xs.length*2:=zl (JW (d+1));unfold seg;rw[bt Ω,zi,BV,gj Ω]
 have ad5:∀ o,freeze (n+4) (d+1) o (.bool b)=some (.bool b):=fun o=>rfl
 unfold leave
 simp only[if_true,handed,hb,iP,hf,rO,Cc,ad5,tC,uG,jG,dU,hid,zi]
structure Sp where
 (id fr to:Int)
 (k n:Nat)
 (A B:Pt)
def Sg.sp(s:Sg):Sp:=⟨s.a.id,s.a.fr,s.a.to,s.k,s.path.l.length-1,s.p0,s.p1⟩
def gB:Pt:=⟨0,0⟩
def kC(a:Ac)(l:List Pt):List Sp:=(List.range (l.length-1)).map fun k=>⟨a.id,a.fr,a.to,k,l.length-1,l.getD k gB,l.getD (k+1) gB⟩
def qp(l:List Pt):Bool:=(List.range (l.length-1)).any fun k=>eO (l.getD k gB) (l.getD (k+1) gB)
def l6(p:Pn)(a:Ac):Bool:=!dJ p a.id||((a.fr==a.to&&decide ((eH p a.id).length<4))||qp (eH p a.id))
def NW(p:Pn):List Sp:=p.az.l.flatMap fun a=>kC a (eH p a.id)
theorem G4{p:Pn}{x:Ac}(h:(x.fr==x.to)=true)(h4:(eH p x.id).length<4):l6 p x=true:=by simp[l6,h,h4]
theorem Rp{p:Pn}{x:Ac}(h:dJ p x.id=true)(h4:¬ (eH p x.id).length<4)(he:qp (eH p x.id)=false):l6 p x=false:=by simp[l6,h,h4,he]
def aet(p:Pn)(d id:Nat)(aa:aU)(r:eV×IV×aU):Prop:=(∃ b,r=(.r,.tuple [.nilsl,.bool b],aa)/\p.az.l.any (l6 p)=!b/\(b=true->NW p=[]))∨∃ l:List Sg,l≠[]/\l.length<=p.az.l.length*100/\(p.az.l.any (l6 p)=false/\l.map Sg.sp=NW p)/\r=(.a,.tuple [.slM d id 0 l.length l.length 2 false,.bool true],aa.set id (aI (l.flatMap Sg.g)))
section
variable {S:cZ}
theorem Td{l r:aU}{x y z w:aO}:(l++x::y::z::r).set (l.length+2) w=l++x::y::w::r:=by rw[Fc _ _ Ω,B4];rfl
theorem Rc{l i o:Nat}:(IV.ptrM l i o).cells=[.ptrM l i o]:=dO rfl rfl
theorem OE(a b:IV):rep [a,b] 1=[a,b]:=dO rfl rfl
theorem Re{lk:Nat->Nat->Option aO}{a b:IV}{tight:Bool}:cB lk 2 (.slC [a,b] 1 2 tight)=some ([a,b],1):=by simp[cB,seg,zi]
theorem NV{a:Ac}{l:List Pt}{k:Nat}{x y:Pt}(hx:l[k]?=some x)(hy:l[k+1]?=some y):(kC a l).take (k+1)=(kC a l).take k++[⟨a.id,a.fr,a.to,k,l.length-1,x,y⟩]:=by
 have hl:=(cU.1 hy).1;have e:(kC a l)[k]?=some ⟨a.id,a.fr,a.to,k,l.length-1,x,y⟩:=by unfold kC;rw[k9,VL Ω];simp[mN,hx,hy]
 rw[lH,e];rfl
theorem KL{a:Ac}{l:List Pt}:(kC a l).length=l.length-1:=by simp[kC]
theorem MR{l:List Pt}{k:Nat}{x y:Pt}(hx:l[k]?=some x)(hy:l[k+1]?=some y)(h:eO x y=true):qp l=true:=by have hl:=(cU.1 hy).1;unfold qp;rw[rR];exact⟨k,rN.2 Ω,by simp[mN,hx,hy,h]⟩
def MT(l:List Pt)(k:Nat):Prop:=∀ i,i<k->eO (l.getD i gB) (l.getD (i+1) gB)=false
theorem MT.next{l:List Pt}{k:Nat}{x y:Pt}(h0:MT l k)(hx:l[k]?=some x)(hy:l[k+1]?=some y)(h:eO x y=false):MT l (k+1):=fun i hi=>by
 by_cases hk:i=k
 ·subst hk;simp[mN,hx,hy,h]
 ·exact h0 i Ω
theorem MT.done{l:List Pt}{k:Nat}(h0:MT l k)(hk:l.length-1<=k):qp l=false:=by unfold qp;rw[qT];intro i hi;have:=rN.1 hi;rw[h0 i Ω];decide
theorem KU(hS:bN S)(p:Pn)(x:Ac)(q':aS 2 Pt.c){m D i:Nat}{ah:bR}(hm:q'.l.length+6<=m)(hq:2<=q'.l.length/\q'.l.length<=66){K:fP}(t:List IV)(J:aU)(lv:IV)(xs:List (Sg×Nat))(hO:cg (EB D) 2 D 1 J lv xs)(hL:ku J xs)(hxl:xs.length<=100000)
  (af:aN 67 t [(1,.ptrM D 0 0),(2,lv),(3,.bool false),(5,.ptrM D (J.length+1) 0),(6,q'.v),(11,p.az.v),(12,iv (p.az.l.length:Nat)),(13,iv i)])
  (hR:∀ t' O',qp q'.l=true->aN 67 t' [(2,.nilsl),(3,.bool false)]->K .ret ⟨t',O'⟩)
  (hK:∀ t' J' dR xs',cg (EB D) 2 D 1 J' dR xs'->ku J' xs'->xs'.length<=xs.length+66->(qp q'.l=false/\xs'.map (fun x=>x.1.sp)=xs.map (fun x=>x.1.sp)++kC x q'.l)->aN 67 t' [(1,.ptrM D 0 0),(2,dR),(3,.bool false),(11,p.az.v),(12,iv (p.az.l.length:Nat)),(13,iv i)]->K .normal ⟨t',aO.cells [p.ns.v,p.az.v,p.fs.v]::J'⟩) :
  Ex (aM aR S m) D ah m (i103.body.sub [1,0,1,0,0,1,1,0,0,1,1,1]) K ⟨t,aO.cells [p.ns.v,p.az.v,p.fs.v]::(J++[aI [aG aH x.id,aG aH x.fr,aG aH x.to,x.via.v,aG aH x.l,aG aH x.r],.free])⟩:=by
 simp only[V3]at af
 have Ug:=q'.gC
 have e1:aT .i64 ((q'.l.length:Int)-1)=((q'.l.length-1:Nat):Int):=we
 simp only[i103,IC.sub,V0,seval,af,Td,e1]
 refine ze (fun jj st=>∃(k:Nat)(J2:aU)(uH:IV)(XV:List (Sg×Nat)),q'.l.length-1-k<=jj/\k<=q'.l.length-1/\cg (EB D) 2 D 1 J2 uH XV/\ku J2 XV/\(XV.length<=xs.length+k/\MT q'.l k/\XV.map (fun x=>x.1.sp)=xs.map (fun x=>x.1.sp)++(kC x q'.l).take k)/\J2[J.length+2]?=some (aI (cR x q'))/\st.aa=aO.cells [p.ns.v,p.az.v,p.fs.v]::J2/\aN 67 st.t [(1,.ptrM D 0 0),(2,uH),(3,.bool false),(6,q'.v),(8,.ptrM D (J.length+2+1) 0),(11,p.az.v),(12,iv (p.az.l.length:Nat)),(13,iv i),(44,iv (q'.l.length-1:Nat)),(45,iv k)]) (q'.l.length-1) Ω ⟨0,_,lv,xs,Ω,Ω,hO.more _,hL.more,⟨Ω,fun i hi=>absurd hi (zm4 _),Ψ⟩,ze4,rfl,by simp only[V0,seval,af,eU]⟩ ?_
 clear af
 rintro jj ⟨t,bO⟩ KB ⟨k,J2,uH,XV,hjj,hk,dX,hL2,⟨hx2,afj,hsp⟩,hln,ho,af⟩ jo lX mE
 dsimp only at ho af
 subst ho
 simp only[V3]at af
 by_cases h:k<q'.l.length-1
 ·have h0:k<q'.l.length:=Ω
  have h1:k+1<q'.l.length:=Ω
  obtain⟨y0,hx0⟩:=gx (l:=q'.l) (i:=k) h0
  obtain⟨y1,hx1⟩:=gx (l:=q'.l) (i:=k+1) h1
  have r0:bM (q'.l.flatMap Pt.c) (k*2) 2=some [aG aH y0.x,aG aH y0.y]:=(zd (sz:=2) (fun _=>rfl) 0 2 hx0 Ω).trans rfl
  have r1:bM (q'.l.flatMap Pt.c) ((k+1)*2) 2=some [aG aH y1.x,aG aH y1.y]:=(zd (sz:=2) (fun _=>rfl) 0 2 hx1 Ω).trans rfl
  have hw:=zq k
  have aha:=hxl
  cases hq1:eO y0 y1
  ·have tU:=hq1
   unfold eO at tU
   obtain⟨e,lv3,J3,b9,Ur,hkeep⟩:=zcm (Pre:=[aO.cells [p.ns.v,p.az.v,p.fs.v]]) (n0:=J2.length+1) (slot:=0) (k:=0) (ah:=ah) (R:=[.free]) (JW D) dX (ys:=[(⟨x,q',k,h1⟩,J.length+2+1)]) Ψ (by simp only[cu,dw];omega) (by simp only[cu,dw];omega) rfl rfl
   simp only[gQ,gM,fJ,lz,EB,cu,dw,iL,fO]at b9
   simp only[V0,seval,za q' h0,za q' h1,zP,j3,Rc,OE,zh,zk,zo,Re, *]
   have keep:∀(j:Nat)(z:aO),J2[j]?=some z->z≠aO.cells (XV.flatMap (EB D))->J3[j]?=some z:=fun j z hj hz=>by have au:=(cU.1 hj).1;exact hkeep j z Ω (by rw[gT au];exact hj) (.inr hz)
   have afl:=keep _ _ hln A4
   refine jo _ (q'.l.length-1-(k+1)) Ω ⟨k+1,J3,lv3,_,Ω,Ω,Ur,?_,⟨by simp only[eR,cu,dw];omega,afj.next hx0 hx1 hq1,?_⟩,afl,rfl,cD⟩
   ·intro sb hsb
    rcases og.1 hsb with hsb|hsb
    ·exact(hL2.keep keep) sb hsb
    ·simp only[fF,j4,k7]at hsb
     subst hsb
     exact⟨Ψ,by simpa using afl⟩
   ·have e0:q'.l[k]'h0=y0:=by rw[cK h0]at hx0;exact kT hx0
    have e1:q'.l[k+1]'h1=y1:=by rw[cK h1]at hx1;exact kT hx1
    have hs1:(⟨x,q',k,h1⟩:Sg).sp=⟨x.id,x.fr,x.to,k,q'.l.length-1,y0,y1⟩:=by simp[Sg.sp,Sg.p0,Sg.p1,e0,e1]
    rw[E6,hsp,kR,NV hx0 hx1,nK,BY,hs1]
  ·have tU:=hq1
   unfold eO at tU
   simp only[V0,seval,za q' h0,za q' h1,zP,j3, *]
   refine mE _ ?_
   exact hR _ _ (MR hx0 hx1 hq1) cD
 ·simp only[V0,seval,af,h]
  refine lX _ _ ?_
  simp only[V0,seval]
  exact hK _ _ _ _ dX hL2 Ω ⟨afj.done Ω,by rw[hsp,gj (by rw[KL];omega)]⟩ cD
theorem Vb(hS:bN S)(p:Pn)(hv:∀ a∈p.az.l,a.via.l.length<=64)(ha:p.az.l.length<=1000):∃ N,∀ m,N<=m->∀ d ah aK aa id,aa[id]?=some .free->∃ r,aM aR S m d ah aK aa id 103 [.agg p.c]=some r/\aet p d id aa r:=by
 have iz:bQ p:=fun a h=>by have:=hv a h;omega
 have adk:∀ id,(gI p id).via.l.length<=64:=fun id=>by
  unfold gI;cases hf:mH p id with
  |none=>simp[tF,lP]
  |some a=>exact hv a (VS hf)
 have PT:∀ a∈p.az.l,∃ N,∀ m,N<=m->∃ q':aS 2 Pt.c,(dJ p a.id=true->q'.l=eH p a.id)/\∀ d ah aK aa id,aM aR S m d ah aK aa id 38 [.agg p.c,iv a.id]=some (.r,.tuple [q'.v,iv (bif dJ p a.id then 0 else 7)],aa):=fun a _=>by obtain⟨q',h1,N,h2⟩:=Yr hS p a.id iz;exact⟨N,fun m hm=>⟨q',h1,h2 m hm⟩⟩
 obtain⟨Np,hNp⟩:=Fe p.az.l PT;refine⟨Np+p.az.l.length+100,fun m hm d ah aK aa id hid=>?_⟩;obtain⟨m,rfl⟩:=me m 1;refine yz (i:=i103) (ns hS) rfl Δ (lb rfl) fun t af=>?_;simp only[slotsOf,zb,zc,i103,Pn.c]at af;generalize(fun l=>if l=d then aK else ah l:bR)=cQ
 obtain⟨m,rfl⟩:=me m 6;have hnil:∀(o:aU)(b:Bool),leave (m+6) d o aa id 1 (.tuple [.nilsl,.bool b])=some (.r,.tuple [.nilsl,.bool b],aa):=fun o b=>by simp[leave,freeze]
 have Qf:=p.az.gC;have hT0:=fun(x:Ac)(q':aS 2 Pt.c){i:Nat}=>@KU S hS p x q' (m+6) (d+1) i cQ;rw[show i103.body=.seq (i103.body.sub [0]) (.seq (.seq (i103.body.sub [1,0,0]) (.block 0 (.loop (.seq (i103.body.sub [1,0,1,0,0,0]) (.seq (i103.body.sub [1,0,1,0,0,1,0]) (.seq (.block 1 (.seq (i103.body.sub [1,0,1,0,0,1,1,0,0,0]) (.seq (i103.body.sub [1,0,1,0,0,1,1,0,0,1,0]) (.seq (i103.body.sub [1,0,1,0,0,1,1,0,0,1,1,0]) (i103.body.sub [1,0,1,0,0,1,1,0,0,1,1,1]))))) (i103.body.sub [1,0,1,0,0,1,1,1]))))))) (i103.body.sub [1,1]))from rfl];generalize i103.body.sub [1,0,1,0,0,1,1,0,0,1,1,1]=T at hT0 ⊢;simp only[i103,IC.sub,V0,seval,af];refine ze (fun jj st=>∃(i:Nat)(J:aU)(lv:IV)(xs:List (Sg×Nat)),p.az.l.length-i<=jj/\i<=p.az.l.length/\cg (EB (d+1)) 2 (d+1) 1 J lv xs/\ku J xs/\(xs.length<=i*100/\((p.az.l.take i).any (l6 p)=false/\xs.map (fun x=>x.1.sp)=(p.az.l.take i).flatMap fun a=>kC a (eH p a.id)))/\st.aa=aI [p.ns.v,p.az.v,p.fs.v]::J/\aN 67 st.t [(1,.ptrM (d+1) 0 0),(2,lv),(3,.bool false),(11,p.az.v),(12,iv (p.az.l.length:Nat)),(13,iv i)]) p.az.l.length Ω ⟨0,[],.nilsl,[],Ω,Ω,.inl ⟨rfl,rfl⟩,fun _ h=>by simp at h,⟨Ψ,Ψ⟩,rfl,by simp only[V0,seval,af,eU]⟩ ?_;clear af;rintro jj ⟨t,bO⟩ KA ⟨i,J,lv,xs,hjj,hi,hO,hL,⟨hx1,hbd,hsp⟩,ho,af⟩ bV cS dA;dsimp only at ho af;subst ho;simp only[V3]at af;by_cases h:i<p.az.l.length
 ·have hx:p.az.l[i]?=some p.az.l[i]:=cK h;obtain⟨q',hq1,lG⟩:=hNp _ (gU h) (m+6) Ω;have Uj:p.az.l[i]∈p.az.l:=gU h;generalize p.az.l[i]=x at hx hq1 lG Uj;have pe:l6 p x=true->p.az.l.any (l6 p)=!false:=fun hb=>rR.2 ⟨x,Uj,hb⟩;have hstep:l6 p x=false->(p.az.l.take (i+1)).any (l6 p)=false:=fun hb=>by rw[lH,hx,rP,SR,hbd];simp[hb]
  have PM:(p.az.l.take (i+1)).flatMap (fun a=>kC a (eH p a.id))=(p.az.l.take i).flatMap (fun a=>kC a (eH p a.id))++kC x (eH p x.id):=by rw[lH,hx,rP,B6];simp
  have hrd:bM (p.az.l.flatMap Ac.c) (i*6) 6=some [aG aH x.id,aG aH x.fr,aG aH x.to,x.via.v,aG aH x.l,aG aH x.r]:=(zd Ac.aZ 0 6 hx Ω).trans rfl;have hw:=zq i;simp only[zg,Pn.c]at lG;have jw:∀ z:Int,(z != 0)=!(z==0):=fun z=>rfl;cases hp:dJ p x.id
  ·have h70:(((7:Int))==0)=false:=by decide
   simp only[hp,bL]at lG;simp only[V0,seval,af,h,za p.az h,hrd,lG,jw,h70];refine dA _ ?_;simp only[V0,seval,af];exact⟨Ψ,_,_,rfl,hnil _ _,.inl ⟨false,rfl,pe (by simp[l6,hp]),fun h=>by cases h⟩⟩
  ·have SH:(((0:Int))==0)=true:=by decide
   simp only[hp,bT]at lG;have pU:=hq1 hp;have PR:2<=q'.l.length/\q'.l.length<=66:=by rw[pU];have:=adk x.id;simp[eH];omega
   have hT:=fun{i:Nat}=>@hT0 x q' i;cases hft:x.fr==x.to
   ·simp only[V0,seval,af,h,za p.az h,hrd,lG,jw,SH,hft];refine hT (i:=i) Ω PR _ J lv xs hO hL Ω cD (fun t' O' LS ht'=>?_) (fun t' J' dR xs' wG hL' hx' LS ht'=>?_)
    ·simp only[zb,zc]at ht';simp only[V0,seval];refine dA _ ?_;simp only[V0,seval,ht'];exact⟨Ψ,_,_,rfl,hnil _ _,.inl ⟨false,rfl,pe (by rw[pU]at LS;simp[l6,LS]),fun h=>by cases h⟩⟩
    ·simp only[V3]at ht';simp only[V0,seval,ht',hw];exact bV _ (p.az.l.length-(i+1)) Ω ⟨i+1,J',dR,xs',Ω,Ω,wG,hL',⟨Ω,hstep (by rw[pU]at LS;simp[l6,hp,hft,LS.1]),by rw[LS.2,hsp,PM,pU]⟩,rfl,cD⟩
   ·by_cases h4:(q'.l.length:Int)<4
    ·simp only[V0,seval,af,h,za p.az h,hrd,lG,jw,SH,hft,h4];refine dA _ ?_;simp only[V0,seval,af];exact⟨Ψ,_,_,rfl,hnil _ _,.inl ⟨false,rfl,pe (G4 hft (by rw[pU]at h4;omega)),fun h=>by cases h⟩⟩
    ·simp only[V0,seval,af,h,za p.az h,hrd,lG,jw,SH,hft,h4];refine hT (i:=i) Ω PR _ J lv xs hO hL Ω cD (fun t' O' LS ht'=>?_) (fun t' J' dR xs' wG hL' hx' LS ht'=>?_)
     ·simp only[zb,zc]at ht';simp only[V0,seval];refine dA _ ?_;simp only[V0,seval,ht'];exact⟨Ψ,_,_,rfl,hnil _ _,.inl ⟨false,rfl,pe (by rw[pU]at LS;simp[l6,LS]),fun h=>by cases h⟩⟩
     ·simp only[V3]at ht';simp only[V0,seval,ht',hw];exact bV _ (p.az.l.length-(i+1)) Ω ⟨i+1,J',dR,xs',Ω,Ω,wG,hL',⟨Ω,hstep (by rw[pU]at h4 LS;exact Rp hp Ω LS.1),by rw[LS.2,hsp,PM,pU]⟩,rfl,cD⟩
 ·simp only[V0,seval,af,h];refine cS _ _ ?_;have dX:=hO;have hil:p.az.l.take i=p.az.l:=gj Ω;rw[hil]at hbd hsp;rcases hO with⟨rfl,rfl⟩|⟨b,hne,rfl,hb⟩
  ·simp only[V0,seval,af];exact⟨Ψ,_,_,rfl,hnil _ _,.inl ⟨true,rfl,hbd,fun _=>hsp.symm⟩⟩
  ·simp only[V0,seval,af];refine⟨Ψ,_,_,rfl,?_,.inr ⟨xs.map Prod.fst,by simpa using hne,?_,⟨hbd,by rw[SN];exact hsp⟩,rfl⟩⟩
   ·have j8:(aO.cells [p.ns.v,p.az.v,p.fs.v]::J)[1+b]?=some (aI (xs.flatMap (EB (d+1)))):=by rw[qv,jP];exact hb
    have jD:∀ sb∈xs,(aO.cells [p.ns.v,p.az.v,p.fs.v]::J)[sb.2]?=some (aI (cR sb.1.a sb.1.path)):=fun sb hs=>by obtain⟨g1,g2⟩:=hL sb hs;rw[show sb.2=sb.2-1+1 by omega,jP];exact g2
    have:=Gg (n:=m+6) (b:=true) Ω j8 jD hid;rw[ig];exact this
   ·rw[ig];have:i=p.az.l.length:=Ω;rw[←this];exact hx1
end
section
variable {B R Q:aU} {j c i:Nat} {w x:aO} {vis:List Nat}
theorem y4:(B++(R++Q))[B.length+(R.length+j)]?=Q[j]?:=by rw[jd Ω,B4,jd Ω,B4]
theorem ya:(B++(R++Q))[B.length+R.length]?=Q[0]?:=y4 (j:=0)
theorem Zm:(B++(R++Q)).set (B.length+(R.length+j)) w=B++(R++Q.set j w):=by rw[Fc _ _ Ω,B4,Fc _ _ Ω,B4]
theorem yj:(B++(R++Q)).set (B.length+R.length) w=B++(R++Q.set 0 w):=Zm (j:=0)
theorem Zr(h:j<c):(b7 vis (B.length+(R.length+c)) (B++(R++Q)))[B.length+(R.length+j)]?=Q[j]?:=by rw[zp,y4,decide_eq_true (show B.length+(R.length+j)<B.length+(R.length+c) by omega)];simp
theorem yA(h:0<c):(b7 vis (B.length+(R.length+c)) (B++(R++Q)))[B.length+R.length]?=Q[0]?:=Zr (j:=0) h
theorem VU(h:B[i]?=some x):(B++R)[i]?=some x:=by rw[gT (cU.1 h).1];exact h
theorem Rq(h:B[i]?=some x):(b7 vis (B.length+c) (B++R))[i]?=some x:=by have hl:=(cU.1 h).1;rw[zp,VU h,decide_eq_true (show i<B.length+c by omega)];simp
end
def jm(s:Sp)(x:Nd):Bool:=mZ s.A s.B x.at'&&(!((s.k:Int)==0&&s.fr==x.id)&&!((s.k:Int)==((s.n-1:Nat):Int)&&s.to==x.id))
section
variable {S:cZ}
theorem OW(hS:bN S)(p:Pn)(s:Sg){m D si:Nat}{ah:bR}(hm:p.ns.l.length+20<=m){K:fP}(t:List IV)(B R:aU)(lv mp uH nn ii:IV)(h0:B[0]?=some (aI [p.ns.v,p.az.v,p.fs.v]))(hsi:B[si]?=some (aI s.g))
  (af:aN 117 t [(1,.ptrM D 0 0),(9,.ptrM D si 0),(3,lv),(5,mp),(39,uH),(40,nn),(41,ii)])
  (hR:∀ t' O',(∃ x∈p.ns.l,jm s.sp x=true)->aN 117 t' [(2,.bool false)]->K .ret ⟨t',O'⟩)
  (hK:∀ t' R',(∀ x∈p.ns.l,jm s.sp x=false)->aN 117 t' [(1,.ptrM D 0 0),(3,lv),(5,mp),(39,uH),(40,nn),(41,ii)]->K .normal ⟨t',B++R'⟩) :
  Ex (aM aR S m) D ah m (i66.body.sub [1,1,1,1,1,1,0,1,0,0,1,1,0,0,1,1]) K ⟨t,B++R⟩:=by
 simp only[zb,zc]at af
 have hnf:=p.ns.gC
 simp only[Sg.g,cR]at hsi
 have g0:∀ R,(B++R)[0]?=some (aI [p.ns.v,p.az.v,p.fs.v]):=fun R=>VU h0
 have gs:∀ R,(B++R)[si]?=some (aI [.ptrC [aG aH s.a.id,aG aH s.a.fr,aG aH s.a.to,s.a.via.v,aG aH s.a.l,aG aH s.a.r,s.path.v] 0,aG aH (s.k:Int)]):=fun R=>VU hsi
 have gh:∀ vis c R,(b7 vis (B.length+c) (B++R))[si]?=some (aI [.ptrC [aG aH s.a.id,aG aH s.a.fr,aG aH s.a.to,s.a.via.v,aG aH s.a.l,aG aH s.a.r,s.path.v] 0,aG aH (s.k:Int)]):=fun vis c R=>Rq hsi
 have ce:=zbr hS s m Ω
 have cf:=EE hS s m Ω
 have cl:=JZ hS s m Ω
 have co:∀(u v w:Pt) d ah aK aa i,aM aR S m d ah aK aa i 111 [.agg [aG aH u.x,aG aH u.y],.agg [aG aH v.x,aG aH v.y],.agg [aG aH w.x,aG aH w.y]]=some (.r,.bool (mZ u v w),aa):=fun u v w d ah aK aa i=>JY hS u v w m Ω d ah aK aa i
 simp only[Sg.g,cR,Pt.c,zg]at ce cf cl
 simp only[i66,IC.sub,V0,seval,af,g0]
 refine ze (fun jj st=>∃(k:Nat)(R:aU),p.ns.l.length-k<=jj/\(k<=p.ns.l.length/\∀ i x,i<k->p.ns.l[i]?=some x->jm s.sp x=false)/\st.aa=B++R/\aN 117 st.t [(1,.ptrM D 0 0),(9,.ptrM D si 0),(3,lv),(5,mp),(39,uH),(40,nn),(41,ii),(67,p.ns.v),(68,iv (p.ns.l.length:Nat)),(69,iv k)]) p.ns.l.length Ω ⟨0,_,Ω,⟨Ω,fun i x h=>absurd h (zm4 _)⟩,rfl,by simp only[V0,seval,af,eU]⟩ ?_
 clear af
 rintro jj ⟨t,bO⟩ KB ⟨k,R,hjj,⟨hk,hbd⟩,ho,af⟩ jo lX mE
 dsimp only at ho af
 subst ho
 simp only[V3]at af
 by_cases h:k<p.ns.l.length
 ·obtain⟨x,hx⟩:=gx (l:=p.ns.l) (i:=k) h
  have hrd:bM (p.ns.l.flatMap Nd.c) (k*3) 3=some [aG aH x.id,aG aH x.at'.x,aG aH x.at'.y]:=(zd Nd.aZ 0 3 hx Ω).trans rfl
  have hw:=zq k
  have hm:x∈p.ns.l:=j5 hx
  have hst:jm s.sp x=false->∀ i y,i<k+1->p.ns.l[i]?=some y->jm s.sp y=false:=fun hb i y hi hy=>by
   by_cases hik:i=k
   ·subst hik;rw[hx]at hy;cases hy;exact hb
   ·exact hbd i y Ω hy
  have hn1:s.path.l.length-1-1=s.path.l.length-2:=Ω
  cases o:mZ s.p0 s.p1 x.at'
  ·skip
   simp only[V0,seval,uO,y4,ya,Zm,yj,za p.ns h,Zr,yA, *]
   exact jo _ (p.ns.l.length-(k+1)) Ω ⟨k+1,_,Ω,⟨Ω,hst (by simp[jm,Sg.sp,hn1,o])⟩,rfl,cD⟩
  ·cases f:(s.k:Int)==0
   ·skip
    cases l:(s.k:Int)==((s.path.l.length-2:Nat):Int)
    ·skip
     simp only[V0,seval,uO,y4,ya,Zm,yj,za p.ns h,Zr,yA, *]
     refine mE _ ?_
     exact hR _ _ ⟨x,hm,by simp[jm,Sg.sp,hn1,o,f,l]⟩ cD
    ·cases e2:s.a.to==x.id
     ·skip
      simp only[V0,seval,uO,y4,ya,Zm,yj,za p.ns h,Zr,yA, *]
      refine mE _ ?_
      exact hR _ _ ⟨x,hm,by simp[jm,Sg.sp,hn1,o,f,l,e2]⟩ cD
     ·skip
      simp only[V0,seval,uO,y4,ya,Zm,yj,za p.ns h,Zr,yA, *]
      exact jo _ (p.ns.l.length-(k+1)) Ω ⟨k+1,_,Ω,⟨Ω,hst (by simp[jm,Sg.sp,hn1,o,f,l,e2])⟩,rfl,cD⟩
   ·cases e1:s.a.fr==x.id
    ·skip
     cases l:(s.k:Int)==((s.path.l.length-2:Nat):Int)
     ·skip
      simp only[V0,seval,uO,y4,ya,Zm,yj,za p.ns h,Zr,yA, *]
      refine mE _ ?_
      exact hR _ _ ⟨x,hm,by simp[jm,Sg.sp,hn1,o,f,e1,l]⟩ cD
     ·cases e2:s.a.to==x.id
      ·skip
       simp only[V0,seval,uO,y4,ya,Zm,yj,za p.ns h,Zr,yA, *]
       refine mE _ ?_
       exact hR _ _ ⟨x,hm,by simp[jm,Sg.sp,hn1,o,f,e1,l,e2]⟩ cD
      ·skip
       simp only[V0,seval,uO,y4,ya,Zm,yj,za p.ns h,Zr,yA, *]
       exact jo _ (p.ns.l.length-(k+1)) Ω ⟨k+1,_,Ω,⟨Ω,hst (by simp[jm,Sg.sp,hn1,o,f,e1,l,e2])⟩,rfl,cD⟩
    ·skip
     simp only[V0,seval,uO,y4,ya,Zm,yj,za p.ns h,Zr,yA, *]
     exact jo _ (p.ns.l.length-(k+1)) Ω ⟨k+1,_,Ω,⟨Ω,hst (by simp[jm,Sg.sp,hn1,o,f,e1])⟩,rfl,cD⟩
 ·simp only[V0,seval,af,h]
  refine lX _ _ ?_
  simp only[V0,seval]
  exact hK _ _ (fun x hx=>by
   obtain⟨i,hi⟩:=pY hx;exact hbd i x (by have:=(cU.1 hi).1; omega) hi) (by simp only [V0,sevalprocAttr,uO,y4,ya,Zm,yj,af])
end
section
variable {S:cZ}
theorem FJ{D n i:Nat}(h:i+1<=n)(t:List IV)(x:bG)(hx:ρ t x=aG aH ((i+1:Nat):Int)):eS 2 t (.slM D 1 0 n n 2 false) (some x) none none=some (.slM D 1 ((i+1)*2) (n-(i+1)) (n-(i+1)) 2 false):=by simp only[eS,lC,hx,zX];rw[bt ⟨⟨dz _,dz _,h⟩,trivial⟩];simp
def BR(L:List (Int×Pt))(l:List Sg)(i:Nat)(s:Sg):Prop:=∀ j u,i<j->l[j]?=some u->mW L s u=true∨∃ j' u',i<j'/\j'<=j/\l[j']?=some u'/\s.ea<u'.w
def Kf(L:List (Int×Pt))(l:List Sg)(i:Nat)(s:Sg):Prop:=∃ j u,i<j/\l[j]?=some u/\mW L s u=false
theorem OV(hS:bN S)(p:Pn)(l:List Sg)(s:Sg)(L:List (Int×Pt))(bs:List Nat)(ck:Nat){m D si i:Nat}{ah:bR}(hm:l.length+30<=m)(hl:l.length<65536)(hi:i<l.length){K:fP}(t:List IV)(B R:aU)(uH nn ii:IV)(h1:B[1]?=some (aI (l.flatMap Sg.g)))(h2:B[2]?=some (.map (eE L) (eG L) bs ck))(hsi:B[si]?=some (aI s.g))
  (af:aN 117 t [(1,.ptrM D 0 0),(8,iv i),(9,.ptrM D si 0),(3,.slM D 1 0 l.length l.length 2 false),(5,.mapM D 2),(39,uH),(40,nn),(41,ii)])
  (hR:∀ t' O',Kf L l i s->aN 117 t' [(2,.bool false)]->K .ret ⟨t',O'⟩)
  (hK:∀ t' R',BR L l i s->aN 117 t' [(1,.ptrM D 0 0),(9,.ptrM D si 0),(3,.slM D 1 0 l.length l.length 2 false),(5,.mapM D 2),(39,uH),(40,nn),(41,ii)]->K .normal ⟨t',B++R'⟩) :
  Ex (aM aR S m) D ah m (i66.body.sub [1,1,1,1,1,1,0,1,0,0,1,1,0,0,1,0]) K ⟨t,B++R⟩:=by
 simp only[V3]at af
 have c3:∀(u:Sg) R aa id,aM aR S m D ah (B++R) aa id 109 [.agg s.g,.agg u.g,.mapM D 2]=some (.r,.bool (mW L s u),aa):=fun u R aa id=>Vo hS s u L (bs:=bs) (ck:=ck) Ω (VU h2)
 simp only[Sg.g,cR]at hsi c3
 have g1:∀ R,(B++R)[1]?=some (aI (l.flatMap Sg.g)):=fun R=>VU h1
 have gs:∀ R,(B++R)[si]?=some (aI [.ptrC [aG aH s.a.id,aG aH s.a.fr,aG aH s.a.to,s.a.via.v,aG aH s.a.l,aG aH s.a.r,s.path.v] 0,aG aH (s.k:Int)]):=fun R=>VU hsi
 have gh:∀ vis c R,(b7 vis (B.length+c) (B++R))[si]?=some (aI [.ptrC [aG aH s.a.id,aG aH s.a.fr,aG aH s.a.to,s.a.via.v,aG aH s.a.l,aG aH s.a.r,s.path.v] 0,aG aH (s.k:Int)]):=fun vis c R=>Rq hsi
 have cw:=fun(u:Sg) d ah aK aa i=>BB hS u m Ω d ah aK aa i
 have cea:=Vk hS s m Ω
 simp only[Sg.g,cR]at cw cea
 have hwi:=zq i
 have hsl:=FJ (D:=D) (n:=l.length) (i:=i) Ω
 simp only[i66,IC.sub,V0,seval,af,hwi,ZC,hsl]
 refine ze (fun jj st=>∃(k:Nat)(R:aU),l.length-(i+1)-k<=jj/\(k<=l.length-(i+1)/\∀ j u,i<j->j<i+1+k->l[j]?=some u->mW L s u=true)/\st.aa=B++R/\aN 117 st.t [(1,.ptrM D 0 0),(9,.ptrM D si 0),(3,.slM D 1 0 l.length l.length 2 false),(5,.mapM D 2),(39,uH),(40,nn),(41,ii),(49,.slM D 1 ((i+1)*2) (l.length-(i+1)) (l.length-(i+1)) 2 false),(50,iv (l.length-(i+1):Nat)),(51,iv k)]) (l.length-(i+1)) Ω ⟨0,_,Ω,⟨Ω,fun j u h1 h2=>absurd h2 Ω⟩,rfl,by simp only[V0,seval,af,eU]⟩ ?_
 clear af
 rintro jj ⟨t,bO⟩ KB ⟨k,R,hjj,⟨hk,hok⟩,ho,af⟩ jo lX mE
 dsimp only at ho af
 subst ho
 simp only[V3]at af
 by_cases h:k<l.length-(i+1)
 ·have hx:l[i+1+k]?=some (l[i+1+k]'Ω):=cK Ω
  generalize l[i+1+k]'Ω=u at hx
  have ldu:(bM (l.flatMap Sg.g) ((i+1)*2+k*2) 2).bind (mg true)=some (.agg [.ptrC [aG aH u.a.id,aG aH u.a.fr,aG aH u.a.to,u.a.via.v,aG aH u.a.l,aG aH u.a.r,u.path.v] 0,aG aH (u.k:Int)]):=by have:=FN.ld hx;rw[BU]at this;exact this
  have hw:=zq k
  have cwu:=cw u
  have ccu:=c3 u
  by_cases hgt:s.ea<u.w
  ·simp only[V0,seval,ya,yj,af,h,zm,g1,ldu]
   simp only[V0,seval,uO,yA,eZ, *]
   refine lX _ _ ?_
   simp only[V0,seval]
   exact hK _ _ (fun j v h1 hv=>by
    by_cases hj:j<i+1+k
    ·exact .inl (hok j v h1 hj hv)
    ·exact .inr ⟨i+1+k,u,Ω,Ω,hx,hgt⟩) (by simp only [V0,sevalprocAttr,uO,y4,ya,Zm,yj,af,eZ,hgt,cwu,cea])
  ·cases hcb:mW L s u
   ·simp only[V0,seval,ya,yj,af,h,zm,g1,ldu]
    simp only[V0,seval,uO,yA,eZ,ya, *]
    refine mE _ ?_
    exact hR _ _ ⟨i+1+k,u,Ω,hx,hcb⟩ cD
   ·simp only[V0,seval,ya,yj,af,h,zm,g1,ldu]
    simp only[V0,seval,uO,yA,eZ,ya, *]
    exact jo _ (l.length - (i+1) - (k+1)) Ω ⟨k+1,_,Ω,⟨Ω,fun j v h1 h2 hv=>by
     by_cases hj:j=i+1+k
     ·subst hj;rw[hx]at hv;cases hv;exact hcb
     ·exact hok j v h1 Ω hv⟩,rfl,by simp only [V0,sevalprocAttr,uO,y4,ya,Zm,yj, *]⟩
 ·simp only[V0,seval,af,h]
  refine lX _ _ ?_
  simp only[V0,seval]
  exact hK _ _ (fun j v h1 hv=>.inl (hok j v h1 (by have:=(cU.1 hv).1;omega) hv)) cD
end
section
variable {S:cZ}
def Xt(p:Pn)(L:List (Int×Pt))(l:List Sg)(v:Bool):Prop:=(v=true->∀ i s,l[i]?=some s->BR L l i s/\∀ x∈p.ns.l,jm s.sp x=false)/\(v=false->∃ i s,l[i]?=some s/\(Kf L l i s∨∃ x∈p.ns.l,jm s.sp x=true))
theorem TM(hS:bN S)(p:Pn)(l:List Sg)(L:List (Int×Pt))(bs:List Nat)(ck:Nat){m D:Nat}{ah:bR}(hm:l.length+p.ns.l.length+50<=m)(hl:l.length<65536){K:fP}(t:List IV)(B R:aU)(h0:B[0]?=some (aI [p.ns.v,p.az.v,p.fs.v]))(h1:B[1]?=some (aI (l.flatMap Sg.g)))(h2:B[2]?=some (.map (eE L) (eG L) bs ck))
  (af:aN 117 t [(1,.ptrM D 0 0),(3,.slM D 1 0 l.length l.length 2 false),(5,.mapM D 2)])
  (hF:∀ v t' O',Xt p L l v->aN 117 t' [(2,.bool v)]->K .ret ⟨t',O'⟩) :
  Ex (aM aR S m) D ah m (i66.body.sub [1,1,1,1,1,1]) K ⟨t,B++R⟩:=by
 simp only[zb,zc]at af
 have hP1:=fun(s:Sg){si i:Nat}=>@OV S hS p l s L bs ck m D si i ah Ω hl
 have WN:=fun(s:Sg){si:Nat}=>@OW S hS p s m D si ah Ω
 rw[show i66.body.sub [1,1,1,1,1,1]=.seq (.seq (i66.body.sub [1,1,1,1,1,1,0,0]) (.block 2 (.loop (.seq (i66.body.sub [1,1,1,1,1,1,0,1,0,0,0]) (.seq (i66.body.sub [1,1,1,1,1,1,0,1,0,0,1,0]) (.seq (.block 3 (.seq (i66.body.sub [1,1,1,1,1,1,0,1,0,0,1,1,0,0,0]) (.seq (i66.body.sub [1,1,1,1,1,1,0,1,0,0,1,1,0,0,1,0]) (i66.body.sub [1,1,1,1,1,1,0,1,0,0,1,1,0,0,1,1])))) (i66.body.sub [1,1,1,1,1,1,0,1,0,0,1,1,1]))))))) (i66.body.sub [1,1,1,1,1,1,1])from rfl]
 generalize i66.body.sub [1,1,1,1,1,1,0,1,0,0,1,1,0,0,1,0]=T1 at hP1 ⊢
 generalize i66.body.sub [1,1,1,1,1,1,0,1,0,0,1,1,0,0,1,1]=T2 at WN ⊢
 have g1:∀ R,(B++R)[1]?=some (aI (l.flatMap Sg.g)):=fun R=>VU h1
 simp only[i66,IC.sub,V0,seval,af]
 refine ze (fun jj st=>∃(i:Nat)(R:aU),l.length-i<=jj/\(i<=l.length/\∀ j u,j<i->l[j]?=some u->BR L l j u/\∀ x∈p.ns.l,jm u.sp x=false)/\st.aa=B++R/\aN 117 st.t [(1,.ptrM D 0 0),(3,.slM D 1 0 l.length l.length 2 false),(5,.mapM D 2),(39,.slM D 1 0 l.length l.length 2 false),(40,iv (l.length:Nat)),(41,iv i)]) l.length Ω ⟨0,_,Ω,⟨Ω,fun j u h=>absurd h (zm4 _)⟩,rfl,by simp only[V0,seval,af,eU]⟩ ?_
 clear af
 rintro jj ⟨t,bO⟩ KB ⟨i,R,hjj,⟨hi,hok⟩,ho,af⟩ jo lX mE
 dsimp only at ho af
 subst ho
 simp only[V3]at af
 by_cases h:i<l.length
 ·obtain⟨s,hx⟩:=gx (l:=l) (i:=i) h
  have lds:(bM (l.flatMap Sg.g) (i*2) 2).bind (mg true)=some (.agg [.ptrC [aG aH s.a.id,aG aH s.a.fr,aG aH s.a.to,s.a.via.v,aG aH s.a.l,aG aH s.a.r,s.path.v] 0,aG aH (s.k:Int)]):=FN.ld hx
  have hw:=zq i
  have hB1:∀ j x,B[j]?=some x->(B++(R++[aI s.g]))[j]?=some x:=fun j x h=>VU h
  have hBs:(B++(R++[aI s.g]))[B.length+R.length]?=some (aI s.g):=by rw[ya];rfl
  simp only[V0,seval,ya,yj,af,h,zm,g1,lds]
  have Fk:(B++(R++[aO.cells [.ptrC [aG aH s.a.id,aG aH s.a.fr,aG aH s.a.to,s.a.via.v,aG aH s.a.l,aG aH s.a.r,s.path.v] 0,aG aH (s.k:Int)]]))=(B++(R++[aI s.g]))++[]:=by rw[iL];rfl
  rw[Fk]
  refine hP1 s h _ _ [] (.slM D 1 0 l.length l.length 2 false) (aG aH (l.length:Nat)) (aG aH (i:Nat)) (hB1 1 _ h1) (hB1 2 _ h2) hBs cD (fun t' O' hbd ht=>?_) fun t' R1 hpk ht=>?_
  ·simp only[zb,zc]at ht
   simp only[V0,seval]
   refine mE _ ?_
   simp only[V0,seval]
   exact hF false _ _ ⟨fun h=>by(cases h),fun _=>⟨i,s,hx,.inl hbd⟩⟩ cD
  ·rw[yt]
   refine WN s _ _ R1 (.slM D 1 0 l.length l.length 2 false) (.mapM D 2) (.slM D 1 0 l.length l.length 2 false) (aG aH (l.length:Nat)) (aG aH (i:Nat)) (hB1 0 _ h0) hBs (by simp only[zb,zc]at ht ⊢;simp only[ht,Nx]) (fun t' O' hnb ht=>?_) fun t' R2 hnk ht=>?_
   ·simp only[zb,zc]at ht
    simp only[V0,seval]
    refine mE _ ?_
    simp only[V0,seval]
    exact hF false _ _ ⟨fun h=>by(cases h),fun _=>⟨i,s,hx,.inr hnb⟩⟩ cD
   ·simp only[zb,zc]at ht
    simp only[V0,seval,ht,hw]
    exact jo _ (l.length - (i+1)) Ω ⟨i+1,R++(aI s.g::R2),Ω,⟨Ω,fun j u hj hu=>by
     by_cases hji:j=i
     ·subst hji;rw[hx]at hu;cases hu;exact⟨hpk,hnk⟩
     ·exact hok j u Ω hu⟩,by simp only [kR,gQ,gM],cD⟩
 ·simp only[V0,seval,af,h]
  refine lX _ _ ?_
  simp only[V0,seval]
  exact hF true _ _ ⟨fun _ j u hu=>hok j u (by have:=(cU.1 hu).1;omega) hu,fun h=>by(cases h)⟩ cD
theorem aat{m D:Nat}{ah:bR}(hm:2<=m){K:fP}(t:List IV)(aa:aU)(af:aN 117 t [(3,.nilsl)])(hF:∀ t' O',aN 117 t' [(2,.bool true)]->K .ret ⟨t',O'⟩) :
  Ex (aM aR S m) D ah m (i66.body.sub [1,1,1,1,1,1]) K ⟨t,aa⟩:=by
 simp only[zb,zc]at af
 simp only[i66,IC.sub,V0,seval,af]
 refine ze (fun jj st=>aN 117 st.t [(40,aG aH 0),(41,aG aH 0)]) 0 Ω cD ?_
 clear af
 rintro jj ⟨t,bO⟩ KB af jo lX mE
 dsimp only at af
 simp only[zb,zc]at af
 have h0:((0:Int)<0)=False:=eq_false Δ
 simp only[V0,seval,af,h0]
 refine lX _ _ ?_
 simp only[V0,seval]
 exact hF _ _ cD
end
end
section
variable {α:Type}
def up(r:α->α->Int)(x y:α):Prop:=¬ r y x<0
structure Orders(r:α->α->Int):Prop where
 total:∀ x y,up r x y∨up r y x
 trans:∀ x y z,up r x y->up r y z->up r x z
def Srt(r:α->α->Int)(xs:List α)(a c:Nat):Prop:=∀ i j x y,a<=i->i<j->j<c->xs[i]?=some x->xs[j]?=some y->up r x y
variable {r:α->α->Int}
end
section
open Go Go.RowKit
theorem zbs{α β:Type}{f:α->Option β}{g:α->β}:∀{l:List α},(∀ x∈l,f x=some (g x))->l.mapM f=some (l.map g)
 |[],_=>rfl
 |x::l,h=>by rw[rO,h x (kB ..),zbs fun y hy=>h y (nk _ hy)];rfl
theorem xJ:∀(xs c p:List IV),xs.length=c.length->gV (p++c) p.length xs=p++xs
 |[],[],p,_=>rfl
 |x::xs,y::c,p,h=>by
  have e:(p++y::c).set p.length x=(p++[x])++c:=by rw[Fc _ _ (dz _),rM];simp
  have:=xJ xs c (p++[x]) (by simpa using h);unfold gV;rw[e];simpa using this
theorem CE{aa:aU}{d i n sz cp:Nat}{tg:Bool}{c:List IV}(h:aa[i]?=some (aI c))(hc:c.length=n*sz)(hs:c.all IV.scalar=true)(h0:n≠0)(hn:n<=bound):oO d aa sz (.slM d i 0 n cp sz tg)=some (i,0,c,c,n):=by
 show(if d=d/\sz=sz/\n≠0/\n<=bound then _ else _)=_
 rw[bt ⟨rfl,rfl,h0,hn⟩,h];show(seg c 0 (n*sz)).bind _=_;unfold seg;rw[bt Ω,zi,BV,gj Ω,jG,bt hs]
theorem U6(z:Int):nD.Int.blt' z=decide (z<0):=by cases z<;>simp[nD.Int.blt']<;>omega
section
variable {S:cZ} {α:Type} {g:α->List IV} {e:α->IV} {dZ:aU} {b d:Nat} {ah:bR} {n cp:Nat} {tg:Bool} {gf:FuncId} {caps:List IV} {r:α->α->Int} {Nc:Nat}
theorem Lb{aK:aU}(h:pM dZ b aK):pM dZ b (aK.set b .gone):=fun j h1 h2=>by rw[nr (uE h2)];exact h j h1 h2
theorem Qq{sz:Nat}(hg:∀ x,(g x).length=sz){xs:List α}{j:Nat}{x:α}(hx:xs[j]?=some x):rowAt (xs.flatMap g) sz j=g x:=by
 unfold rowAt;induction xs generalizing j with
 |nil=>simp at hx
 |cons a l ih =>
  rw[fJ]
  cases j with
  |zero =>
   cases hx
   rw[qw,BV,List.take_append_of_le_length (by rw[hg];exact dz _),gj (by rw[hg];exact dz _)]
  |succ j =>
   rw[NB,qv,←XG,List.drop_append_of_le_length (by rw[hg];exact dz _),show List.drop sz (g a)=[]from VP (by rw[hg];exact dz _),gM]
   exact ih (by simpa using hx)
theorem HQ{f:FuncId}{sz kd:Nat}{ag:Bool}(sE:Orders r)(hS:∀ args,S f args=none)(hi:aR f=some ⟨sz,[],.skip,kd⟩)(hkd:kd=4/\ag=false∨kd=5/\ag=true)(hz:0<sz)(hb:b<dZ.length)(hE:Nw g e sz ag)(hc:xH S Nc d ah dZ b e gf caps r)(hn:n<65536)(h0:n≠0)(m:Nat)(hm:Nc+1<=m)
  (aK:aU) (xs:List α) (J:aU) (hV:pM dZ b aK) (hl0:xs.length=n) :
  ∃ xs':List α,(∀ id,aM aR S m d ah aK (Bk dZ b (xs.flatMap g)++J) id f [.slM d b 0 n cp sz tg,.fn gf [] caps]=some (.x,.tuple [],Bk dZ b (xs'.flatMap g)++J))/\xs'.Perm xs/\Srt r xs' 0 n:=by
 obtain⟨m,rfl⟩:∃ q,m=q+1:=⟨m-1,Ω⟩
 obtain⟨z0,hz0⟩:∃ z,xs[0]?=some z:=⟨_,cK Ω⟩
 have nh:∀ j,j<n->xs[j]?=some (xs.getD j z0):=fun j hj=>by rw[mN,cK (show j<xs.length by omega)];rfl
 have hlen:(xs.flatMap g).length=n*sz:=by rw[zl hE.len,hl0]
 have hrow:∀ j,j<n->rowAt (xs.flatMap g) sz j=g (xs.getD j z0):=fun j hj=>Qq hE.len (nh j hj)
 have hel:∀ j,j<n->kN kd (rowAt (xs.flatMap g) sz j)=e (xs.getD j z0):=fun j hj=>by
  rw[hrow j hj];have hv:=hE.val (xs.getD j z0);unfold kN;rcases hkd with⟨rfl,rfl⟩|⟨rfl,rfl⟩
  ·rw[bC Δ];unfold mg at hv;rw[bC Δ]at hv;split at hv
   ·rename_i x hx;rw[hx];exact kT hv
   ·simp at hv
  ·rw[bt rfl];unfold mg at hv;rw[bt rfl]at hv;exact kT hv
 have hes:((List.range n).map fun j=>kN kd (rowAt (xs.flatMap g) sz j))=(List.range n).map fun j=>e (xs.getD j z0):=znt fun j hj=>hel j (rN.1 hj)
 have hcmp:∀(aa:aU)(id:Nat)(x y:α),Bv (aM aR S m) d ah (aK.set b .gone) aa id gf caps (e x) (e y)=some (r x y):=fun aa id x y=>by unfold Bv;rw[hc m Ω (aK.set b .gone) aa id x y (Lb hV)]
 have htb:∀(aa:aU)(id:Nat),(((List.range n).map fun j=>kN kd (rowAt (xs.flatMap g) sz j)).mapM fun x=>((List.range n).map fun j=>kN kd (rowAt (xs.flatMap g) sz j)).mapM fun y=>Bv (aM aR S m) d ah (aK.set b .gone) aa id gf caps x y)=some ((List.range n).map fun i=>(List.range n).map fun j=>r (xs.getD i z0) (xs.getD j z0)):=fun aa id=>by rw[hes,zon];refine zbs fun i _=>?_;show List.mapM _ _=_;rw[zon];exact zbs fun j _=>hcmp aa id _ _
 generalize agt:((List.range n).map fun i=>(List.range n).map fun j=>r (xs.getD i z0) (xs.getD j z0))=tb at htb
 have au:∀ i j,i<n->j<n->nD n tb i j=decide (r (xs.getD i z0) (xs.getD j z0)<0):=fun i j hi hj=>by unfold nD;rw[ND hi,ND hj,←agt,U6];simp[mN,hi,hj]
 have hsw:Cl n (nD n tb)=true:=by
  unfold Cl;rw[ot];intro i hi;rw[gJ,ot];have hi:=rN.1 hi;have tot:=sE.total;have tr:=sE.trans;unfold up at tot tr;refine⟨?_,fun j hj=>ot.2 fun k hk=>?_⟩
  ·rw[au i i hi hi];have:=tot (xs.getD i z0) (xs.getD i z0);simpa using this
  ·have hj:=rN.1 hj;have hk:=rN.1 hk;rw[au i j hi hj,au j k hj hk,au i k hi hk];generalize xs.getD i z0=x at *;generalize xs.getD j z0=y at *;generalize xs.getD k z0=z at *;have t1:=tot x y;have t2:=tot y z;have t3:=tr x y z;have t4:=tr z y x;have t5:=tr z x y;have t6:=tr y z x;have t7:=tot x z;simp only[gJ,nu,tB,jk,vB,VN];by_cases c1:r x y<0<;>by_cases c2:r y z<0<;>by_cases c3:r x z<0<;>simp_all
 obtain⟨p1,p2⟩:=zcb (zeu h0 hsw) n
 have LQ:∀ j∈sM (nD n tb) n,j<n:=fun j hj=>rN.1 (p1.mem_iff.1 hj)
 refine⟨(sM (nD n tb) n).map fun j=>xs.getD j z0,fun id=>?_,?_,fun i j x y _ hij hj hx hy=>?_⟩
 ·have hk2:¬ kd=2:=Ω
  have hk3:¬ kd=3:=Ω
  have hk4:4<=kd:=Ω
  have hk6:¬ kd=6:=Ω
  have hrw:oO d (Bk dZ b (xs.flatMap g)++J) sz (.slM d b 0 n cp sz tg)=some (b,0,xs.flatMap g,xs.flatMap g,n):=by refine CE (BA hb) hlen (ot.2 ?_) h0 (by unfold bound;omega);intro x hx;obtain⟨a,_,ha⟩:=qS.1 hx;exact ot.1 (hE.tJ a) x ha
  have hfl:∀ l:List Nat,(∀ j∈l,j<n)->(l.flatMap fun j=>rowAt (xs.flatMap g) sz j)=(l.map fun j=>xs.getD j z0).flatMap g:=fun l hl=>by
   induction l with
   |nil=>rfl
   |cons a l ih=>rw[fJ,nK,fJ,hrow a (hl a (kB ..)),ih fun q hq=>hl q (nk _ hq)]
  simp only[aM,hS,hi,bC hk2,bC hk3,bt hk4]
  rw[KM Ψ,bC hk6,hrw,jG]
  simp only
  rw[htb,jG,bt hsw,hfl _ LQ]
  unfold sD
  have hw:=xJ (((sM (nD n tb) n).map fun j=>xs.getD j z0).flatMap g) (xs.flatMap g) [] (by rw[zl hE.len,hlen,ig,p1.length_eq,XB])
  simp only[gM,dw]at hw
  rw[zi,zi,hw,G2 hb]
 ·refine(p1.map _).trans (List.Perm.of_eq ?_)
  apply E8
  intro j
  rw[k9]
  by_cases hj:j<n
  ·rw[VL hj,gH,nh j hj]
  ·rw[BZ (by simp;omega),BZ Ω];rfl
 ·rw[k9]at hx hy
  obtain⟨i',hi',rfl⟩:=zlj.1 hx
  obtain⟨j',hj',rfl⟩:=zlj.1 hy
  have h1:=p2 i j i' j' hij hi' hj'
  rw[au j' i' (LQ _ (j5 hj')) (LQ _ (j5 hi'))]at h1
  unfold up
  simpa using h1
theorem Cp{f:FuncId}{sz kd:Nat}(hS:∀ args,S f args=none)(hi:aR f=some ⟨sz,[],.skip,kd⟩)(hkd:kd=4∨kd=5){fv:IV}{m:Nat}(hm:1<=m){aK aa:aU}:∃ J':aU,∀ id,aM aR S m d ah aK aa id f [.nilsl,fv]=some (.x,.tuple [],aa++J'):=by obtain⟨m,rfl⟩:∃ q,m=q+1:=⟨m-1,Ω⟩;have hk2:¬ kd=2:=Ω;have hk3:¬ kd=3:=Ω;have hk4:4<=kd:=Ω;have hk6:¬ kd=6:=Ω;refine⟨[],fun id=>?_⟩;simp only[aM,hS,hi,bC hk2,bC hk3,bt hk4,qW,bC hk6,iL]
end
theorem TK{S:cZ}{α:Type}{g:α->List IV}{e:α->IV}{dZ:aU}{b d:Nat}{ah:bR}{n cp:Nat}{tg:Bool}{gf:FuncId}{caps:List IV}{r:α->α->Int}{Nc:Nat}(sE:Orders r)(hS:bN S)(hb:b<dZ.length)(hE:Nw g e 1 false)(hc:xH S Nc d ah dZ b e gf caps r)(hn:n<65536)(h0:n≠0)(m:Nat)(hm:Nc+1<=m)(aK:aU)(xs:List α)(J:aU)(hV:pM dZ b aK)(hl0:xs.length=n) :
  ∃ xs':List α,(∀ id,aM aR S m d ah aK (Bk dZ b (xs.flatMap g)++J) id 152 [.slM d b 0 n cp 1 tg,.fn gf [] caps]=some (.x,.tuple [],Bk dZ b (xs'.flatMap g)++J))/\xs'.Perm xs/\Srt r xs' 0 n :=
 HQ sE (fun _=>ns hS Φ) rfl (.inl ⟨rfl,rfl⟩) Nat.one_pos hb hE hc hn h0 m hm aK xs J hV hl0
theorem S8{S:cZ}{α:Type}{g:α->List IV}{e:α->IV}{dZ:aU}{b d:Nat}{ah:bR}{n cp:Nat}{tg:Bool}{gf:FuncId}{caps:List IV}{r:α->α->Int}{Nc:Nat}(sE:Orders r)(hS:bN S)(hb:b<dZ.length)(hE:Nw g e 2 true)(hc:xH S Nc d ah dZ b e gf caps r)(hn:n<65536)(h0:n≠0)(m:Nat)(hm:Nc+1<=m)(aK:aU)(xs:List α)(J:aU)(hV:pM dZ b aK)(hl0:xs.length=n) :
  ∃ xs':List α,(∀ id,aM aR S m d ah aK (Bk dZ b (xs.flatMap g)++J) id 104 [.slM d b 0 n cp 2 tg,.fn gf [] caps]=some (.x,.tuple [],Bk dZ b (xs'.flatMap g)++J))/\xs'.Perm xs/\Srt r xs' 0 n :=
 HQ sE (fun _=>ns hS Φ) rfl (.inr ⟨rfl,rfl⟩) Δ hb hE hc hn h0 m hm aK xs J hV hl0
theorem Lm{S:cZ}(hS:bN S){m d:Nat}{ah:bR}{aK aa:aU}{fv:IV}(hm:1<=m):∃ J':aU,∀ id,aM aR S m d ah aK aa id 152 [.nilsl,fv]=some (.x,.tuple [],aa++J') :=
 Cp (fun _=>ns hS Φ) rfl (.inl rfl) hm
theorem Ky{S:cZ}(hS:bN S){m d:Nat}{ah:bR}{aK aa:aU}{fv:IV}(hm:1<=m):∃ J':aU,∀ id,aM aR S m d ah aK aa id 104 [.nilsl,fv]=some (.x,.tuple [],aa++J') :=
 Cp (fun _=>ns hS Φ) rfl (.inr rfl) hm
section
variable {S:cZ} {dZ:aU} {b d m:Nat} {ah:bR} {n cp:Nat} {tg:Bool}
theorem Lw(hS:bN S){aK aa:aU}(hm:1<=m):∃ J':aU,∀ id,aM aR S m d ah aK aa id 117 [.nilsl]=some (.x,.tuple [],aa++J'):=by
 obtain⟨m,rfl⟩:∃ q,m=q+1:=⟨m-1,Ω⟩;have h:=hS 117 [.nilsl] Δ Δ Δ Δ;have hi:aR 117=some ⟨1,[],.skip,6⟩:=rfl;have hk2:¬ (6=2):=by decide
 have hk3:¬ (6=3):=by decide
 have hk4:4<=6:=by decide
 refine⟨[],fun id=>?_⟩;simp only[aM,h,hi,bC hk2,bC hk3,bt hk4,qW,if_true,iL]
theorem TP(hS:bN S)(hb:b<dZ.length)(xs:List Int)(hn:xs.length<65536)(h0:xs.length≠0)(hm:1<=m)(aK:aU)(J:aU)(id:Nat) :
  aM aR S m d ah aK (Bk dZ b (xs.flatMap aL)++J) id 117 [.slM d b 0 xs.length cp 1 tg]=some (.x,.tuple [],Bk dZ b ((lJ xs).flatMap aL)++J):=by
 obtain⟨m,rfl⟩:∃ q,m=q+1:=⟨m-1,Ω⟩
 have h:=hS 117 [.slM d b 0 xs.length cp 1 tg] Δ Δ Δ Δ
 have hi:aR 117=some ⟨1,[],.skip,6⟩:=rfl
 have hk2:¬ (6=2):=by decide
 have hk3:¬ (6=3):=by decide
 have hk4:4<=6:=by decide
 have hfm:∀ l:List Int,l.flatMap aL=l.map (IV.int .i64):=fun l=>by induction l<;>simp_all [aL,zg]
 have hrw:oO d (Bk dZ b (xs.map (IV.int .i64))++J) 1 (.slM d b 0 xs.length cp 1 tg)=some (b,0,xs.map (IV.int .i64),xs.map (IV.int .i64),xs.length):=by refine CE (BA hb) Ψ (ot.2 ?_) h0 (by unfold bound;omega);intro x hx;obtain⟨a,_,rfl⟩:=jA.1 hx;rfl
 rw[hfm,hfm]
 simp only[aM,h,hi,bC hk2,bC hk3,bt hk4]
 rw[KN Ψ,bt rfl,hrw,jG]
 simp only
 rw[zon,zbs (f:=Ua ∘ IV.int .i64) (g:=fun z:Int=>z) (fun z _=>rfl),show xs.map (fun z:Int=>z)=xs from List.map_id _,gH]
 unfold sD
 have hw:=xJ ((lJ xs).map (IV.int .i64)) (xs.map (IV.int .i64)) [] (by simp[(ZB xs).length_eq])
 simp only[gM,dw]at hw
 rw[zi,zi,hw,G2 hb]
end
theorem TW{L:List (Int×Pt)}{id:Int}{y:Pt}(h:L.findIdx? (fun kv=>id==kv.1)=none)(id':Int):jB (L++[(id,y)]) id'=if id'=id then y else jB L id':=by
 unfold jB;rw[zmn];rw[Ks]at h;by_cases he:id'=id
 ·subst he;have:L.find? (fun kv=>id'==kv.1)=none:=XD.2 fun x hx=>by rw[h x hx];decide
  simp[this]
 ·rw[bC he];have:[(id,y)].find? (fun kv=>id'==kv.1)=none:=by simp[he]
  rw[this,Option.or_none]
theorem Ja{id:Int}{y:Pt}(id':Int):∀{L:List (Int×Pt)}{i:Nat}(hi:i<L.length),L.findIdx? (fun kv=>id==kv.1)=some i->jB (L.set i (L[i].1,y)) id'=if id'=id then y else jB L id'
 |kv::L,i,hi,h=>by
  rw[NF]at h;cases hk:id==kv.1
  ·rw[hk]at h;simp only[l7,if_false,zlj]at h;obtain⟨j,hj,rfl⟩:=h;have ih:=Ja (y:=y) id' (by simpa using hi) hj;have e:∀(z:Int×Pt)(M:List (Int×Pt)),jB (z::M) id'=if id'==z.1 then z.2 else jB M id':=fun z M=>by unfold jB;rw[Ca];cases id'==z.1<;>rfl
   have hne:id≠kv.1:=by simpa using hk
   simp only[HI,List.getElem_cons_succ,e];rw[ih];by_cases he:id'=id
   ·subst he;rw[bC (by simpa using hk),bt rfl,bt rfl]
   ·rw[bC he,bC he]
  ·rw[hk]at h;simp only[if_true,fZ]at h;subst h;have hke:id=kv.1:=by simpa using hk
   subst hke;unfold jB;simp only[SP,znc,Ca];by_cases he:id'=kv.1
   ·subst he;simp
   ·rw[bC he,show(id'==kv.1)=false by simpa using he]
def rq(l:List Nd)(id:Int):Pt:=((l.reverse.find? fun x=>id==x.id).map Nd.at').getD ⟨0,0⟩
theorem Gj(l:List Nd)(x:Nd)(id:Int):rq (l++[x]) id=if id=x.id then x.at' else rq l id:=by
 unfold rq;rw[List.reverse_append];simp only[List.reverse_cons,List.reverse_nil,gM,gQ,Ca];by_cases h:id=x.id
 ·rw[show(id==x.id)=true by simpa using h,bt h];rfl
 ·rw[show(id==x.id)=false by simpa using h,bC h]
theorem AV(L:List (Int×Pt))(bs:List Nat)(ck:Nat)(id:Int)(y:Pt):∃(L':List (Int×Pt))(bs':List Nat)(iO:Nat),(∀ id',jB L' id'=if id'=id then y else jB L id')/\∀(C:Call)(D:Nat)(ah:bR)(n0 j:Nat)(aK aa:aU)(t:List IV)(a b c:bG),ρ t a=.mapM D j->ρ t b=aG aH id->ρ t c=.agg [aG aH y.x,aG aH y.y]->aa[j]?=some (.map (eE L) (eG L) bs ck) ->
  cH C D ah n0 aK aa t (.mapupd (false,[1]) a b c)=some (.x,.tuple [],aa.set j (.map (eE L') (eG L') bs' iO)):=by
 have hk:(kL false (IV.int .i64 id)&&(IV.int .i64 id).cells.length==[1].length)=true:=rfl
 cases h:L.findIdx? fun kv=>id==kv.1 with
 |none =>
  refine⟨L++[(id,y)],bs++[ck],ck+1,TW h,fun C D ah n0 j aK aa t a b c h1 h2 h3 h4=>?_⟩
  rw[Ya]
  simp only[gF,h1,h2,h3,h4,hk,Nx,if_true,Y5,h,NC,zi]
  simp[eE,eG,Pt.c,zg]
 |some i =>
  obtain⟨hi,hq,_⟩:=Kt.1 h
  have he:id=L[i].1:=by simpa using hq
  refine⟨L.set i (L[i].1,y),bs,ck,fun id'=>Ja id' hi h,fun C D ah n0 j aK aa t a b c h1 h2 h3 h4=>?_⟩
  rw[Ya]
  simp only[gF,h1,h2,h3,h4,hk,Nx,if_true,Y5,h,gH,fO,zi]
  have hks:eE (L.set i (L[i].1,y))=eE L:=by
   unfold eE;rw[zoh];refine E8 fun k=>?_;by_cases hki:i=k
   ·subst hki;rw[oa (by rw[ig];exact hi)];simp[hi]
   ·rw[nr hki]
  have hvs:eG (L.set i (L[i].1,y))=(eG L).set i (.agg [aG aH y.x,aG aH y.y]):=by unfold eG;rw[zoh];rfl
  rw[hks,hvs]
section
variable {S:cZ}
theorem aau(p:Pn){m D:Nat}{ah:bR}(hm:p.ns.l.length+4<=m){K:fP}(t:List IV)(X:aO)(L:List (Int×Pt))(bs:List Nat)(ck:Nat)(O:aU)(lv:IV)(hL0:∀ id,jB L id=⟨0,0⟩)
  (af:aN 117 t [(1,.ptrM D 0 0),(3,lv),(5,.mapM D 2)])
  (hK:∀ t' L' bs' iO O',(∀ id,jB L' id=rq p.ns.l id)->aN 117 t' [(1,.ptrM D 0 0),(3,lv),(5,.mapM D 2)]->K .normal ⟨t',aI [p.ns.v,p.az.v,p.fs.v]::X::.map (eE L') (eG L') bs' iO::O'⟩) :
  Ex (aM aR S m) D ah m (i66.body.sub [1,1,1,1,0]) K ⟨t,aI [p.ns.v,p.az.v,p.fs.v]::X::.map (eE L) (eG L) bs ck::O⟩:=by
 simp only[zb,zc]at af
 have hnf:=p.ns.gC
 simp only[i66,IC.sub,V0,seval,af]
 refine ze (fun jj st=>∃(i:Nat)(L:List (Int×Pt))(bs:List Nat)(ck:Nat)(O:aU),p.ns.l.length-i<=jj/\(i<=p.ns.l.length/\∀ id,jB L id=rq (p.ns.l.take i) id)/\st.aa=aI [p.ns.v,p.az.v,p.fs.v]::X::.map (eE L) (eG L) bs ck::O/\aN 117 st.t [(1,.ptrM D 0 0),(3,lv),(5,.mapM D 2),(25,p.ns.v),(26,iv (p.ns.l.length:Nat)),(27,iv i)]) p.ns.l.length Ω ⟨0,L,bs,ck,O,Ω,⟨Ω,fun id=>by rw[hL0];rfl⟩,rfl,by simp only[V0,seval,af,eU]⟩ ?_
 clear af
 rintro jj ⟨t,bO⟩ KB ⟨i,L,bs,ck,O,hjj,⟨hi,hlk⟩,ho,af⟩ jo lX mE
 dsimp only at ho af
 subst ho
 simp only[V3]at af
 by_cases h:i<p.ns.l.length
 ·obtain⟨x,hx⟩:=gx (l:=p.ns.l) (i:=i) h
  have hrd:bM (p.ns.l.flatMap Nd.c) (i*3) 3=some [aG aH x.id,aG aH x.at'.x,aG aH x.at'.y]:=(zd Nd.aZ 0 3 hx Ω).trans rfl
  have hw:=zq i
  obtain⟨L',bs',iO,ag9,DC⟩:=AV L bs ck x.id x.at'
  have u7:=fun C n0 aK aa t a b c=>DC C D ah n0 2 aK aa t a b c
  simp only[V0,seval,za p.ns h, *]
  exact jo _ (p.ns.l.length-(i+1)) Ω ⟨i+1,L',bs',iO,_,Ω,⟨Ω,fun id=>by rw[ag9,hlk,lH,hx,rP,Gj]⟩,rfl,cD⟩
 ·simp only[V0,seval,af,h]
  refine lX _ _ ?_
  simp only[V0,seval]
  exact hK _ _ _ _ _ (fun id=>by rw[hlk,gj Ω]) cD
end
def sh(k:Nat):IV->IV
 |.ptrM l i o=>.ptrM (l+k) i o
 |.ptrC cs o=>.ptrC (cs.map (sh k)) o
 |.slM l i off len cap sz t=>.slM (l+k) i off len cap sz t
 |.slC cs len sz t=>.slC (cs.map (sh k)) len sz t
 |.mapM l i=>.mapM (l+k) i
 |.eF ks vs=>.eF (ks.map (sh k)) (vs.map (sh k))
 |.fn f a b=>.fn f (a.map (sh k)) (b.map (sh k))
 |.agg cs=>.agg (cs.map (sh k))
 |.tuple cs=>.tuple (cs.map (sh k))
 |.bool b=>.bool b
 |.int kd n=>.int kd n
 |.str s=>.str s
 |.eo=>.eo
 |.nilsl=>.nilsl
 |.eT=>.eT
 |.l9=>.l9
def rI:Nat->IV->Bool
 |0,_=>false
 |n+1,v=>match v with
  |.ptrM ..=>false
  |.ptrC cs _=>cs.all (rI n)
  |.slM ..=>false
  |.slC cs _ _ _=>cs.all (rI n)
  |.mapM ..=>false
  |.eF ks vs=>ks.all (rI n)&&vs.all (rI n)
  |.fn _ a b=>a.all (rI n)&&b.all (rI n)
  |.agg cs=>cs.all (rI n)
  |.tuple cs=>cs.all (rI n)
  |_=>true
def U2(v:IV):Bool:=rI 5 v
def jE:bG->Bool
 |.const v=>U2 v
 |_=>true
def Rb:Option bG->Bool
 |some x=>jE x
 |none=>true
def aho:kA->Bool
 |.mov x=>jE x
 |.nilchk x=>jE x
 |.pick c a b=>jE c&&jE a&&jE b
 |.newv cs _=>cs.all U2
 |.box x _=>jE x
 |.build z ps=>z.all U2&&ps.all fun p=>jE p.2.2
 |.bslice z _ _ ps=>z.all U2&&ps.all fun p=>jE p.2.2
 |.mslice z _ _ ps _=>z.all U2&&ps.all fun p=>jE p.2.2
 |.load _ _ x=>jE x
 |.store _ x v=>jE x&&jE v
 |.bin _ x y=>jE x&&jE y
 |.eqagg _ _ x y=>jE x&&jE y
 |.eqb _ x y=>jE x&&jE y
 |.eqp _ x y=>jE x&&jE y
 |.eqs _ x y=>jE x&&jE y
 |.un _ x=>jE x
 |.conv _ x=>jE x
 |.cstr x=>jE x
 |.mkfn _ a b=>a.all jE&&b.all jE
 |.mkmap _=>true
 |.slice _ x lo hi mx=>jE x&&Rb lo&&Rb hi&&Rb mx
 |.sliceS x lo hi=>jE x&&Rb lo&&Rb hi
 |.faddr _ x=>jE x
 |.field _ _ _ x=>jE x
 |.iaddr _ x y=>jE x&&jE y
 |.iaddrA _ _ x y=>jE x&&jE y
 |.index _ _ _ x y=>jE x&&jE y
 |.indexS x y=>jE x&&jE y
 |.lookup z _ _ x y=>U2 z&&jE x&&jE y
 |.mapupd _ m a b=>jE m&&jE a&&jE b
 |.extract x _=>jE x
 |.call f az _=>jE f&&az.all jE
 |.append z _ _ a b _=>z.all U2&&jE a&&jE b
 |.len _ x=>jE x
 |.mx _ x y=>jE x&&jE y
 |.cap x=>jE x
 |.clr z _ x=>z.all U2&&jE x
 |.cpy _ x y=>jE x&&jE y
 |.mks z _ x y _=>z.all U2&&jE x&&jE y
 |.fail=>true
def Ey:IC->Bool
 |.seq a b=>Ey a&&Ey b
 |.cond c a b=>jE c&&Ey a&&Ey b
 |.block _ a=>Ey a
 |.loop a=>Ey a
 |.region _ _ ops _=>ops.all fun o=>aho o.op
 |_=>true
section
variable {k:Nat}
def R4(F:FuncId->Option jy):Prop:=∀ f i,F f=some i->Ey i.body=true
def R5(S:cZ):Prop:=∀ k f args,S f (args.map (sh k))=(S f args).map (sh k)
end
section
variable {S:cZ}
def kr(p:Pn)(v:Bool):Prop:=bif p.az.l.any (l6 p)then v=false else(NW p=[]/\v=true)∨∃(L:List (Int×Pt))(l:List Sg),(∀ id,jB L id=rq p.ns.l id)/\(l.map Sg.sp).Perm (NW p)/\Srt (fun s u=>uo s.w u.w) l 0 l.length/\Xt p L l v
theorem O7:Orders (fun(s u:Sg)=>uo s.w u.w):=by
 have h:∀ x y:Int,uo x y<0↔x<y:=fun x y=>by
  unfold uo;split
  ·simp[*]
  ·split<;>simp[*]
 constructor
 ·intro x y;simp only[up,h];omega
 ·intro x y z;simp only[up,h];omega
theorem F6(hS:bN S)(p:Pn)(hv:∀ a∈p.az.l,a.via.l.length<=64)(ha:p.az.l.length<=600):∃ N,∀ m,N<=m->∀ d ah aK aa id,∃ v:Bool,kr p v/\aM aR S m d ah aK aa id 66 [.agg p.c]=some (.r,.bool v,aa):=by
 obtain⟨Ns,hNs⟩:=Vb hS p hv Ω;refine⟨Ns+200000+p.ns.l.length,fun m hm d ah aK aa id=>?_⟩;obtain⟨m,rfl⟩:=me m 2;have main:∃ r,aM aR S (m+1+1) d ah aK aa id 66 [.agg p.c]=some r/\∃ v:Bool,kr p v/\r=(eV.r,.bool v,aa):=by
  refine yz (i:=i66) (ns hS) rfl Δ (lb rfl) fun t af=>?_;simp only[slotsOf,zb,zc,i66,Pn.c]at af;generalize(fun l=>if l=d then aK else ah l:bR)=cQ
  have hlv:∀(o:aU)(v:Bool),leave (m+1) d o aa id 0 (.bool v)=some (.r,.bool v,aa):=fun o v=>by simp[leave,freeze]
  have fin:∀ v t' O',kr p v->aN 117 t' [(2,.bool v)]->(Out.ret=.normal∨Out.ret=.ret)/\∃ w r,bP (d+1) cQ ⟨t',O'⟩ i66.res=some w/\leave (m+1) d O' aa id i66.mode w=some r/\∃ v:Bool,kr p v/\r=(eV.r,.bool v,aa):=fun v t' O' hpv ht=>by simp only[zb,zc]at ht;refine⟨.inr rfl,.bool v,_,?_,hlv _ _,v,hpv,rfl⟩;simp only[i66,V0,seval,ht]
  suffices kY:∀ K:fP,(∀ v t' O',kr p v->aN 117 t' [(2,.bool v)]->K .ret ⟨t',O'⟩)->Ex (aM aR S (m+1)) (d+1) cQ (m+1) i66.body K ⟨t,[]⟩from kY _ fin
  clear fin;intro K fin;have hM:=fun{D:Nat}(l:List Sg) L bs ck=>@TM S hS p l L bs ck (m+1) D cQ;have hN:=fun{D:Nat}=>@aat S (m+1) D cQ Ω;have hU:=fun{D:Nat}=>@aau S p (m+1) D cQ Ω;rw[show i66.body=.seq (i66.body.sub [0]) (.seq (i66.body.sub [1,0]) (.seq (i66.body.sub [1,1,0]) (.seq (i66.body.sub [1,1,1,0]) (.seq (i66.body.sub [1,1,1,1,0]) (.seq (i66.body.sub [1,1,1,1,1,0]) (i66.body.sub [1,1,1,1,1,1]))))))from rfl];generalize i66.body.sub [1,1,1,1,1,1]=T at hM hN ⊢;generalize i66.body.sub [1,1,1,1,0]=U at hU ⊢;have ag8:∀(x y:aO),([x,y,aO.map [] [] [] 0]:aU)=x::y::.map (eE []) (eG []) [] 0::[]:=fun _ _=>rfl;obtain⟨r,qm,hr2⟩:=hNs (m+1) Ω (d+1) cQ [aI [p.ns.v,p.az.v,p.fs.v],.free] [aI [p.ns.v,p.az.v,p.fs.v],.free] 1 rfl;simp only[Pn.c]at qm;rcases hr2 with⟨b,rfl,pe,hsp⟩|⟨l,hne,Nh,⟨pe,hsp⟩,rfl⟩
  ·cases b with
   |false =>
    simp only[i66,IC.sub,V0,seval,af,qm]
    exact fin false _ _ (by unfold kr;rw[pe];rfl) cD
   |true =>
    simp only[i66,IC.sub,V0,seval,af,qm]
    refine hU _ _ [] [] 0 [] .nilsl (fun id=>rfl) cD fun t' L' bs' iO O' hlk ht=>?_
    simp only[zb,zc]at ht
    obtain⟨J',hs⟩:=Ky (d:=d+1) (ah:=cQ) (aK:=aI [p.ns.v,p.az.v,p.fs.v]::.free::.map (eE L') (eG L') bs' iO::(O'++[.free])) (aa:=aI [p.ns.v,p.az.v,p.fs.v]::.free::.map (eE L') (eG L') bs' iO::(O'++[.free])) (fv:=.fn 105 [] []) hS (m:=m+1) Ω
    simp only[V0,seval,ht,hs]
    exact hN _ _ cD fun t' O' h=>fin true t' O' (by unfold kr;rw[pe];exact .inl ⟨hsp rfl,rfl⟩) h
  ·simp only[HI,SP]at qm;simp only[i66,IC.sub,V0,seval,af,qm];refine hU _ _ [] [] 0 [] (.slM (d+1) 1 0 l.length l.length 2 false) (fun id=>rfl) cD fun t' L' bs' iO O' hlk ht=>?_;simp only[zb,zc]at ht;have hb:1<(aO.cells [p.ns.v,p.az.v,p.fs.v]::aI (l.flatMap Sg.g)::.map (eE L') (eG L') bs' iO::(O'++[.free])).length:=by simp
   have hcmp:xH S (8) (d+1) cQ (aO.cells [p.ns.v,p.az.v,p.fs.v]::aI (l.flatMap Sg.g)::.map (eE L') (eG L') bs' iO::(O'++[.free])) 1 Sg.e 105 [] (fun s u=>uo s.w u.w):=fun m hm=>F7 hS m Ω;obtain⟨l2,hs,hp,hsr⟩:=S8 (d:=d+1) (ah:=cQ) (cp:=l.length) (tg:=false) O7 hS hb FN hcmp (n:=l.length) Ω (fun h=>hne (Fv h)) (m+1) (Nc:=8) Ω (aO.cells [p.ns.v,p.az.v,p.fs.v]::aI (l.flatMap Sg.g)::.map (eE L') (eG L') bs' iO::(O'++[.free])) l [] (fun _ _ _=>rfl) rfl;have jD:l2.length=l.length:=hp.length_eq;simp only[Bk,HI,SP,iL]at hs;simp only[V0,seval,ht,hs];refine hM (D:=d+1) l2 L' bs' iO Ω Ω _ [aI [p.ns.v,p.az.v,p.fs.v],aI (l2.flatMap Sg.g),.map (eE L') (eG L') bs' iO] (O'++[aO.free]) rfl rfl rfl ?_ fun v t' O' hres h=>fin v t' O' (by
    unfold kr;rw[pe];exact .inr ⟨L',l2,hlk,by rw [← hsp]; exact hp.map _,by rw [jD]; exact hsr,hres⟩) h
   rw[jD];simp only[V0,seval,ht]
 obtain⟨r,h1,v,hpv,rfl⟩:=main;exact⟨v,hpv,h1⟩
end
section
variable {S:cZ}
def mU(p:Pn):Bool:=decide ((256:Int)<(p.ns.l.length:Int))||(decide ((256:Int)<(p.az.l.length:Int))||decide ((64:Int)<(p.fs.l.length:Int)))
def nX(p:Pn):Bool:=p.az.l.any fun a=>decide ((64:Int)<(a.via.l.length:Int))
def q8(p:Pn):Bool:=dP (p.ns.l.map Nd.id)&&(dP (p.az.l.map Ac.id)&&dP p.fs.l)
def uX(p:Pn):Bool:=!((p.ns.l.map Nd.id).any iG)&&(!((p.az.l.map Ac.id).any iG)&&(!(p.fs.l.any iG)&&jc p))
def tL(p:Pn)(v:Bool):Int:=bif mU p||nX p then 3 else bif !q8 p then 10 else bif !uX p then 2 else bif lp p (p.ns.l.map Nd.id)==0 then(bif v then 0 else 11)else lp p (p.ns.l.map Nd.id)
end
theorem DX{n d:Nat}{aa:aU}{cs:List IV}{len sz:Nat}{tight:Bool}:bA (n+1) d aa (.slC cs len sz tight)=(cs.mapM (bA n d aa)).map (.slC · len sz tight):=dO rfl rfl
theorem zbt{n d sz:Nat}{aa:aU}{α:Type}{g:α->List IV}(q:aS sz g)(hg:∀ a,∀ x∈g a,bA n d aa x=some x):bA (n+1) d aa q.v=some q.v:=by
 have hh:∀(cs:List IV)(k:Nat)(v:IV),Sl sz cs k v->(∀ x∈cs,bA n d aa x=some x)->bA (n+1) d aa v=some v:=fun cs k v hs hc=>by
  cases hs with
  |nil=>rfl
  |row cs k tight hl=>rw[DX,zS hc];rfl
 refine hh _ _ _ q.ok fun x hx=>?_;obtain⟨a,_,hxa⟩:=qS.1 hx;exact hg a x hxa
theorem zdx(n d:Nat)(aa:aU)(q:aS 1 aL):bA (n+2) d aa q.v=some q.v:=zbt q fun a x hx=>by simp only[aL,zg,fF,j4,k7]at hx;rw[hx];rfl
def dF(z:Int):Int:=if aT .i64 (0-z)>z then aT .i64 (0-z)else z
def kZ(p:Pn)(z:Int):Bool:=!(z==0||z==-9223372036854775808)&&(mH p (dF z)).isSome
def eN(p:Pn)(z:Int):Int:=bif kZ p z then(bif decide (0<z)then(gI p (dF z)).l else(gI p (dF z)).r)else 0
section
variable {S:cZ}
theorem EF(hS:bN S)(p:Pn)(z:Int)(hv:bQ p):∃(a:Ac)(N:Nat),(kZ p z=true->a.id=(gI p (dF z)).id/\a.fr=(gI p (dF z)).fr/\a.to=(gI p (dF z)).to/\a.l=(gI p (dF z)).l/\a.r=(gI p (dF z)).r)/\aP S N 156 [.agg p.c,iv z] (.tuple [.agg a.c,.bool (kZ p z)]):=by
 obtain⟨q1,hq1,N1,h1⟩:=zcj hS p (dF z) (fun f hf=>by have:=hv f hf;omega);have hfz:∀(a:Ac)(b:Bool)(m d:Nat)(aa:aU),6<=m->freeze m d aa (.tuple [.agg a.c,.bool b])=some (.tuple [.agg a.c,.bool b]):=fun a b m d aa hm=>by
  obtain⟨m,rfl⟩:=me m 6;have:=z7 zfe a.via (m+4) Ω d aa;have hi:∀ z:Int,freeze (m+4) d aa (aG aH z)=some (aG aH z):=fun z=>rfl;have hb:freeze (m+5) d aa (.bool b)=some (.bool b):=rfl;have ha:freeze (m+5) d aa (.agg a.c)=some (.agg a.c):=by show(a.c.mapM (freeze (m+4) d aa)).map IV.agg=_;simp only[Ac.c,zg,rO,Cc,this,hi,tC,uG,jG,gH]
  exact wN ha hb
 by_cases hz:(z==0||z==-9223372036854775808)=true
 ·refine⟨tF,8,fun h=>?_,?_⟩
  ·unfold kZ at h;rw[hz]at h;simp at h
  ·have hd:kZ p z=false:=by unfold kZ;rw[hz];rfl
   rw[hd];refine sX i156 hS (7) fun m hm d ah t af=>?_;simp only[V2,i156,Pn.c]at af;cases z0:z==0
   ·have z1:(z==-9223372036854775808)=true:=by simpa[z0]using hz
    simp only[i156,V0,seval,af,z0,z1];exact⟨_,rfl,hfz tF false _ _ _ Ω⟩
   ·simp only[i156,V0,seval,af,z0];exact⟨_,rfl,hfz tF false _ _ _ Ω⟩
 ·have M9:(z==0||z==-9223372036854775808)=false:=by simpa using hz
  have hd:kZ p z=(mH p (dF z)).isSome:=by unfold kZ;rw[M9];rfl
  simp only[uQ]at M9;refine⟨{ gI p (dF z)with via:=q1 },N1+8,fun _=>⟨rfl,rfl,rfl,rfl,rfl⟩,?_⟩;rw[hd];refine sX i156 hS (N1+7) fun m hm d ah t af=>?_;simp only[V2,i156,Pn.c]at af;have c1:=fun dd oo aK aa id=>h1 m Ω dd oo aK aa id;have e1:((p.az.l.find? fun f=>f.id==dF z).getD tF)=gI p (dF z):=rfl;have e2:(p.az.l.find? fun f=>f.id==dF z).isSome=(mH p (dF z)).isSome:=rfl;simp only[e1,e2,zg,Pn.c,Ac.c]at c1;have aq:(if aT .i64 (0-z)>z then aT .i64 (0-z)else z)=dF z:=rfl
  simp only[eZ]at aq;simp only[i156,V0,seval,af,M9.1,M9.2,eZ,aq,c1];exact⟨_,rfl,hfz { gI p (dF z)with via:=q1 } _ _ _ _ Ω⟩
theorem Ru(hS:bN S)(p:Pn)(z:Int)(hv:bQ p):∃ N,aP S N 122 [.agg p.c,iv z] (aG aH (eN p z)):=by
 obtain⟨a,N,h1,h2⟩:=EF hS p z hv;refine⟨N+4,?_⟩;refine gv i122 hS (N+3) zn fun m hm d ah t af=>?_;simp only[V2,i122,Pn.c]at af;have c1:=fun dd oo aK aa id=>h2 m Ω dd oo aK aa id;simp only[zg,Pn.c,Ac.c]at c1;unfold eN;cases hd:kZ p z
 ·simp only[hd]at c1;simp only[i122,V0,seval,af,c1,bL]
 ·obtain⟨_,_,_,g4,g5⟩:=h1 hd;simp only[hd]at c1;rw[←g4,←g5];cases hz:decide (0<z)
  ·simp only[i122,V0,seval,af,c1,eZ,hz,bT,bL]
  ·simp only[i122,V0,seval,af,c1,eZ,hz,bT]
end
def sB(l:List Int)(z:Int):Int:=match l.findIdx? fun x=>z==x with
 |some i=>(l[(i+l.length-1)%l.length]?).getD 0
 |none=>0
def nY(l:List Ac)(id:Int):Nat:=(l.filter fun a=>a.fr==id).length+(l.filter fun a=>a.to==id).length
theorem JK(l:List Ac)(id:Int):nY l id<=2*l.length:=by unfold nY;have h1:=XH (fun a:Ac=>a.fr==id) l;have h2:=XH (fun a:Ac=>a.to==id) l;omega
theorem wZ{l:List Ac}{i:Nat}{x:Ac}{id:Int}(hx:l[i]?=some x):nY (l.take (i+1)) id=nY (l.take i) id+((if (x.fr==id)=true then 1 else 0)+(if (x.to==id)=true then 1 else 0)):=by unfold nY;rw[lH,hx,rP,E9,E9,eR,eR];cases h1:x.fr==id<;>cases h2:x.to==id<;>simp[h1,h2]<;>omega
section
variable {S:cZ}
theorem Vd(hS:bN S)(l:aS 1 aL)(z:Int)(hl:l.l.length<=1000000):aP S (l.l.length+8) 116 [l.v,iv z] (aG aH (sB l.l z)):=by
 refine gv i116 hS (l.l.length+7) zn fun m hm d ah t af=>?_;simp only[V2,i116]at af;have c1:=fun dd oo aK aa id=>ED hS l z m Ω dd oo aK aa id;simp only[zg]at c1;unfold sB;unfold fIdx at c1;cases hf:l.l.findIdx? fun x=>z==x with
 |none =>
  simp only[hf]at c1
  have h0:((-1:Int)<0)=True:=eq_true Δ
  simp only[i116,V0,seval,af,c1,h0]
 |some i =>
  obtain⟨hi,_,_⟩:=Kt.1 hf
  simp only[hf]at c1
  have h0:((i:Int)<0)=False:=eq_false Ω
  have e1:aT .i64 ((i:Int)+(l.l.length:Int))=((i+l.l.length:Nat):Int):=we
  have e2:aT .i64 (((i+l.l.length:Nat):Int)-1)=((i+l.l.length-1:Nat):Int):=we
  have e3:((l.l.length:Int)=0)=False:=eq_false Ω
  have e4:Int.tmod ((i+l.l.length-1:Nat):Int) (l.l.length:Int)=(((i+l.l.length-1)%l.l.length:Nat):Int):=(Int.ofNat_tmod _ _).symm
  have hj:(i+l.l.length-1)%l.l.length<l.l.length:=SM _ Ω
  obtain⟨x,hx⟩:=gx (l:=l.l) (i:=(i+l.l.length-1)%l.l.length) hj
  have hv:(l.l[(i+l.l.length-1)%l.l.length]?).getD 0=x:=by rw[hx];rfl
  have Nf:=hv
  generalize(i+l.l.length-1)%l.l.length=j at e4 hj hx hv
  have hrd:bM (l.l.flatMap aL) (j*1) 1=some [aG aH x]:=zd zf 0 1 hx Ω
  simp only[i116,V0,seval,af,c1,h0,e1,e2,e3,e4,za l hj,hrd]
  exact ep (fun w=>some (IV.int .i64 w)) Nf.symm
theorem MB(hS:bN S)(p:Pn)(id:Int)(ha:p.az.l.length<=1000000):aP S (p.az.l.length+4) 121 [.agg p.c,iv id] (aG aH (nY p.az.l id:Nat)):=by
 refine gv i121 hS (p.az.l.length+3) zn fun m hm d ah t af=>?_;simp only[V2,i121,Pn.c]at af;simp only[i121,V0,seval,af];refine ze (fun jj st=>∃(i:Nat)(O:aU),p.az.l.length-i<=jj/\i<=p.az.l.length/\st.aa=aI [p.ns.v,p.az.v,p.fs.v]::O/\aN 28 st.t [(1,iv id),(8,p.az.v),(9,iv (p.az.l.length:Nat)),(10,iv i),(4,iv (nY (p.az.l.take i) id:Nat))]) p.az.l.length Ω ⟨0,[],Ω,Ω,rfl,by simp only[V0,seval,af,eU,xI];rfl⟩ ?_;clear af;rintro jj ⟨t,aa⟩ KA ⟨i,O,hjj,hi,ho,af⟩ bV cS dA;dsimp only at ho af;subst ho;simp only[V3]at af;by_cases h:i<p.az.l.length
 ·obtain⟨x,hx⟩:=gx (l:=p.az.l) (i:=i) h;have hrd:bM (p.az.l.flatMap Ac.c) (i*6) 6=some [aG aH x.id,aG aH x.fr,aG aH x.to,x.via.v,aG aH x.l,aG aH x.r]:=(zd Ac.aZ 0 6 hx Ω).trans rfl;have hw:=zq i;have hd:=wZ (id:=id) hx;have hle:=JK (p.az.l.take i) id;rw[k8,qu Ω]at hle;generalize nY (p.az.l.take i) id=n0 at af hd hle;have w1:=zq n0;have w2:aT .i64 (((n0+1:Nat):Int)+1)=((n0+1+1:Nat):Int):=we;cases h1:x.fr==id<;>cases h2:x.to==id<;>rw[h1,h2]at hd<;>simp only[l7,if_false,if_true,sY,fO,Xb]at hd
  ·simp only[V0,seval,za p.az h, *];exact bV _ (p.az.l.length-(i+1)) Ω ⟨i+1,_,Ω,Ω,rfl,cD⟩
  ·simp only[V0,seval,za p.az h, *];exact bV _ (p.az.l.length-(i+1)) Ω ⟨i+1,_,Ω,Ω,rfl,cD⟩
  ·simp only[V0,seval,za p.az h, *];exact bV _ (p.az.l.length-(i+1)) Ω ⟨i+1,_,Ω,Ω,rfl,cD⟩
  ·simp only[V0,seval,za p.az h, *];exact bV _ (p.az.l.length-(i+1)) Ω ⟨i+1,_,Ω,Ω,rfl,cD⟩
 ·have hii:i=p.az.l.length:=Ω;subst hii;rw[E7]at af;simp only[V0,seval,af,h];refine cS _ _ ?_;simp only[V0,seval,af]
end
section
variable {S:cZ}
theorem aab(hS:bN S){m d:Nat}{ah:bR}(hm:4<=m)(z:Int)(y:Pt)(x0 x2 x3:aO)(L:List (Int×Pt))(bs:List Nat)(ck:Nat)(J:aU)(lv:IV)(xs:List Int)(hO:cg aL 1 d 6 J lv xs)(hx:xs.length<=1000000)(aK:aU) :
  ∃(dR:IV)(J':aU)(L':List (Int×Pt))(bs':List Nat)(iO:Nat),(∀ id,aM aR S m d ah aK (x0::aI [lv]::x2::x3::.map (eE L) (eG L) bs ck::aI [.mapM d 4]::J) id 151 [aG aH z,.agg [aG aH y.x,aG aH y.y],.ptrM d 1 0,.ptrM d 5 0]=some (.x,.tuple [],x0::aI [dR]::x2::x3::.map (eE L') (eG L') bs' iO::aI [.mapM d 4]::J'))/\cg aL 1 d 6 J' dR (xs++[z])/\∀(j:Nat)(x:aO),J[j]?=some x->x≠aO.cells (xs.flatMap aL)->J'[j]?=some x:=by
 obtain⟨m,rfl⟩:=me m 1
 obtain⟨L',bs',iO,_,DC⟩:=AV L bs ck z y
 obtain⟨e,dR,J2,b9,dX,hkeep⟩:=zcm (Pre:=[x0,aI [lv],x2,x3,.map (eE L) (eG L) bs ck,aI [.mapM d 4]]) (n0:=J.length+1+1+1+1+1+1+1) (slot:=0) (k:=1) (ah:=ah) (R:=[aI [aG aH y.x,aG aH y.y],.free]) zf hO (ys:=[z]) Ψ (by simp only[cu,dw];omega) (by simp only[cu,dw];omega) rfl rfl
 simp only[gQ,gM,fJ,lz,aL,zg,cu,dw,iL,fO]at b9
 obtain⟨v1,v2⟩:=dX.one
 have hy:J2[J.length]?=some (aI [aG aH y.x,aG aH y.y]):=hkeep J.length _ Ω Ψ (.inl (dz _))
 have main:∃ v aX,(∀ id,aM aR S (m+1) d ah aK (x0::aI [lv]::x2::x3::.map (eE L) (eG L) bs ck::aI [.mapM d 4]::J) id 151 [aG aH z,.agg [aG aH y.x,aG aH y.y],.ptrM d 1 0,.ptrM d 5 0]=some (.x,v,aX))/\(v=.tuple []/\aX=x0::aI [dR]::x2::x3::.map (eE L') (eG L') bs' iO::aI [.mapM d 4]::J2):=by refine yU (i:=i151) (ns hS) rfl rfl (lb rfl) fun t af=>?_;simp only[V2,Xb,i151]at af;have u7:=fun C n0 aK aa t a b c=>DC C d ah n0 4 aK aa t a b c;simp only[i151,V0,seval,rep,zh,zk,zo,zu,ZV,TC, *];exact⟨_,rfl,rfl⟩
 obtain⟨v,aX,h1,rfl,rfl⟩:=main
 refine⟨dR,J2,L',bs',iO,h1,dX,fun j x hj hne=>?_⟩
 have au:=(cU.1 hj).1
 exact hkeep j x Ω (by rw[gT au];exact hj) (.inr hne)
def Ew(n:Pt)(L:List (Int×Pt))(x y:Int):Int:=bif rj n (jB L x) (jB L y)then -1 else bif rj n (jB L y) (jB L x)then 1 else 0
theorem Hf(hS:bN S){m d:Nat}{ah:bR}(hm:12<=m)(x y:Int)(nd:Nd)(L:List (Int×Pt))(bs:List Nat)(ck:Nat)(aK aa:aU)(id:Nat)(h3:aK[3]?=some (aI nd.c))(h4:aK[4]?=some (.map (eE L) (eG L) bs ck))(h5:aK[5]?=some (aI [.mapM d 4])) :
  aM aR S m d ah aK aa id 153 [aG aH x,aG aH y,.ptrM d 3 0,.ptrM d 5 0]=some (.r,aG aH (Ew nd.at' L x y),aa):=by
 refine Yc (i:=i153) (ns hS) rfl rfl (lb rfl) (N:=11) Ω hm zn fun m hm t af=>?_
 simp only[V2,Xb,i153]at af
 have k3:((fun l=>if l=d then aK else ah l:bR) d)[3]?=some (aI nd.c):=by simpa using h3
 have k4:((fun l=>if l=d then aK else ah l:bR) d)[4]?=some (.map (eE L) (eG L) bs ck):=by simpa using h4
 have k5:((fun l=>if l=d then aK else ah l:bR) d)[5]?=some (aI [.mapM d 4]):=by simpa using h5
 generalize(fun l=>if l=d then aK else ah l:bR)=cQ at k3 k4 k5 ⊢
 simp only[Nd.c,zg]at k3
 have hne:(d=d+1)=False:=eq_false Ω
 have au:(d<d+1)=True:=eq_true Ω
 have ev:∀(z:Int)(C:Call)(n0:Nat)(aK aa:aU)(t:List IV)(a b:bG),ρ t a=.mapM d 4->ρ t b=aG aH z->cH C (d+1) cQ n0 aK aa t (.lookup (.agg [aG aH 0,aG aH 0]) (false,[1]) false a b)=some (.r,.agg [aG aH (jB L z).x,aG aH (jB L z).y],aa):=fun z C n0 aK aa t a b h1 h2=>by obtain⟨r,qm,hr2⟩:=zfd z L;rw[Zu];simp only[fV,h1,h2,look,bC (show ¬ (d=d+1) by omega),bt (show d<d+1 by omega),k4,qm,gH,hr2];rfl
 have evx:=ev x
 have evy:=ev y
 have cl:∀(o a b:Pt) dd oo aK aa i,aM aR S m dd oo aK aa i 154 [.agg [aG aH o.x,aG aH o.y],.agg [aG aH a.x,aG aH a.y],.agg [aG aH b.x,aG aH b.y]]=some (.r,.bool (rj o a b),aa):=fun o a b dd oo aK aa i=>Vh hS o a b m Ω dd oo aK aa i
 unfold Ew
 cases b1:rj nd.at' (jB L x) (jB L y)
 ·cases b2:rj nd.at' (jB L y) (jB L x)
  ·simp only[i153,V0,seval,b2,bL, *]
  ·simp only[i153,V0,seval,b2,bL,bT, *]
 ·simp only[i153,V0,seval,bT, *]
end
theorem Oz(xs:List Int):∀(i:Nat)(w:IV),(xs.flatMap aL)[i]?=some w->∃ n,w=aG aH n:=by
 induction xs with
 |nil=>intro i w h;simp at h
 |cons a l ih =>
  intro i w h
  rw[fJ]at h
  cases i with
  |zero=>simp[aL,zg]at h;exact⟨a,h.symm⟩
  |succ i=>simp[aL]at h;exact ih i w (by simpa[aL]using h)
theorem RC{x:Ac}{xs:List Int}:aO.cells [aG aH x.id,aG aH x.fr,aG aH x.to,x.via.v,aG aH x.l,aG aH x.r]≠aI (xs.flatMap aL):=by
 intro h;have h1:=aO.cells.inj h;have hh:∀(cs:List IV)(k:Nat)(v:IV),Sl 2 cs k v->∀ n:Int,v≠aG aH n:=fun cs k v hs n he=>by cases hs<;>cases he
 have h2:(xs.flatMap aL)[3]?=some x.via.v:=by rw[←h1];rfl
 obtain⟨n,hn⟩:=Oz xs _ _ h2;exact hh _ _ _ x.via.ok n hn
section
variable {β:Type} (u:β->IV)
def gK(L:List (Int×β)):List IV:=L.map fun kv=>aG aH kv.1
def gR(L:List (Int×β)):List IV:=L.map fun kv=>u kv.2
def kS(z:β)(L:List (Int×β))(id:Int):β:=((L.find? fun kv=>id==kv.1).map Prod.snd).getD z
def oP(L:List (Int×β))(id:Int)(y:β):List (Int×β):=match L.findIdx? fun kv=>id==kv.1 with
 |none=>L++[(id,y)]
 |some i=>L.set i (id,y)
variable {u}
theorem zbu(id:Int):∀(L:List (Int×β))(n:Nat),fL (false,[1]) (aG aH id) (gK L) n=some ((L.findIdx? fun kv=>id==kv.1).map (n+·))
 |[],n=>rfl
 |kv::L,n=>by
  have ih:=zbu id L (n+1);have e:Nl (false,[1]) (aG aH id) (aG aH kv.1)=some (id==kv.1):=by
   have:fM [1] [aG aH id] [aG aH kv.1]=some (id==kv.1):=by simp only[fM,eqv];cases h1:id==kv.1<;>simp[h1]
   exact this
  show(match Nl (false,[1]) (aG aH id) (aG aH kv.1)with|some true=>some (some n)|some false=>fL (false,[1]) (aG aH id) (gK L) (n+1)|none=>none)=_
  rw[e];cases h:id==kv.1
  ·simp only[ih,NF,h];cases L.findIdx? fun kv=>id==kv.1 with
   |none=>rfl
   |some j=>simp;omega
  ·simp[NF,h]
theorem JA(id:Int)(L:List (Int×β)):mh (false,[1]) (aG aH id) (gK L) (gR u L)=some ((L.find? fun kv=>id==kv.1).map fun kv=>u kv.2):=by
 have h0:(kL false (IV.int .i64 id)&&(IV.int .i64 id).cells.length==[1].length)=true:=rfl;unfold mh;rw[bt h0,zbu];cases h:L.findIdx? fun kv=>id==kv.1 with
 |none =>
  have h1:(L.find? fun kv=>id==kv.1)=none:=by rw[Ks]at h;rw[XD];intro x hx;simp[h x hx]
  simp[h1]
 |some j =>
  obtain⟨hj,hq,hmin⟩:=Kt.1 h
  have h1:(L.find? fun kv=>id==kv.1)=some L[j]:=by rw[zni];exact⟨hq,j,hj,rfl,fun k hk=>by simpa using hmin k hk⟩
  simp[gR,hj,h1]
theorem I9(z:β)(L:List (Int×β))(id:Int):((L.find? fun kv=>id==kv.1).map fun kv=>u kv.2).getD (u z)=u (kS z L id):=by unfold kS;cases L.find? fun kv=>id==kv.1<;>rfl
theorem YQ(z:β){L:List (Int×β)}{bs:List Nat}{ck:Nat}(id:Int){C:Call}{d n0 l j:Nat}{ah:bR}{aK aa:aU}{t:List IV}{a b:bG}{zv:IV}(hz:zv=u z)(h1:ρ t a=.mapM l j)(h2:ρ t b=aG aH id)(h3:look d ah aK l j=some (.map (gK L) (gR u L) bs ck)):cH C d ah n0 aK aa t (.lookup zv (false,[1]) false a b)=some (.r,u (kS z L id),aa):=by rw[Zu];subst hz;simp only[fV,h1,h2,h3,JA,gH,I9];rfl
theorem Ei(z:β){L:List (Int×β)}(id:Int){C:Call}{d n0:Nat}{ah:bR}{aK aa:aU}{t:List IV}{a b:bG}{zv:IV}(hz:zv=u z)(h1:ρ t a=.eF (gK L) (gR u L))(h2:ρ t b=aG aH id):cH C d ah n0 aK aa t (.lookup zv (false,[1]) false a b)=some (.p,u (kS z L id),aa):=by rw[Zu];subst hz;simp only[fV,h1,h2,JA,gH,I9];rfl
theorem AZ(z y:β)(L:List (Int×β))(id k:Int):kS z (oP L id y) k=if k=id then y else kS z L k:=by
 unfold oP;cases h:L.findIdx? fun kv=>id==kv.1 with
 |none =>
  rw[Ks]at h
  simp only[kS,zmn]
  by_cases hk:k=id
  ·subst hk
   have h1:(L.find? fun kv=>k==kv.1)=none:=by rw[XD];intro x hx;simp[h x hx]
   simp[h1]
  ·rw[bC hk]
   have h1:([(id,y)].find? fun kv=>k==kv.1)=none:=by simp[hk]
   rw[h1,Option.or_none]
 |some i =>
  obtain⟨hi,hq,hmin⟩:=Kt.1 h
  have he:id=L[i].1:=by simpa using hq
  have ad3:∀(M:List (Int×β))(i:Nat)(hi:i<M.length),id=M[i].1->(∀ j (hj:j<i),¬ id=(M[j]'Ω).1)->((M.set i (id,y)).find? fun kv=>k==kv.1)=if k=id then some (id,y)else M.find? fun kv=>k==kv.1:=by
   intro M;induction M with
   |nil=>intro i hi;simp at hi
   |cons x M ih =>
    intro i hi he hm
    cases i with
    |zero =>
     simp only[znc]at he
     simp only[SP,Ca]
     by_cases hk:k=id
     ·simp[hk]
     ·have h1:(k==id)=false:=by simpa using hk
      have h2:(k==x.1)=false:=by rw[←he];exact h1
      simp only[h1,h2,bC hk]
    |succ i =>
     simp only[HI,Ca]
     have hx:=hm 0 Ω
     simp only[znc]at hx
     have:=ih i (by simpa using hi) (by simpa using he) (fun j hj=>by simpa using hm (j+1) Ω)
     by_cases hk:k=id
     ·have h2:(k==x.1)=false:=by rw[hk];simpa using hx
      rw[bt hk]at this ⊢
      simp only[h2]
      exact this
     ·rw[bC hk]at this ⊢
      rw[this]
  have:=ad3 L i hi he (fun j hj=>by simpa using hmin j hj)
  unfold kS
  rw[this]
  by_cases hk:k=id
  ·simp[hk]
  ·simp[hk]
theorem HY(L:List (Int×β))(bs:List Nat)(ck:Nat)(id:Int)(y:β):∃(bs':List Nat)(iO:Nat),∀(C:Call)(D:Nat)(ah:bR)(n0 j:Nat)(aK aa:aU)(t:List IV)(a b c:bG),ρ t a=.mapM D j->ρ t b=aG aH id->ρ t c=u y->aa[j]?=some (.map (gK L) (gR u L) bs ck) ->
  cH C D ah n0 aK aa t (.mapupd (false,[1]) a b c)=some (.x,.tuple [],aa.set j (.map (gK (oP L id y)) (gR u (oP L id y)) bs' iO)):=by
 have hk:(kL false (IV.int .i64 id)&&(IV.int .i64 id).cells.length==[1].length)=true:=rfl
 unfold oP
 cases h:L.findIdx? fun kv=>id==kv.1 with
 |none =>
  refine⟨bs++[ck],ck+1,fun C D ah n0 j aK aa t a b c h1 h2 h3 h4=>?_⟩
  rw[Ya]
  simp only[gF,h1,h2,h3,h4,hk,Nx,if_true,zbu,h,NC,zi]
  simp[gK,gR]
 |some i =>
  obtain⟨hi,hq,_⟩:=Kt.1 h
  have he:id=L[i].1:=by simpa using hq
  refine⟨bs,ck,fun C D ah n0 j aK aa t a b c h1 h2 h3 h4=>?_⟩
  rw[Ya]
  simp only[gF,h1,h2,h3,h4,hk,Nx,if_true,zbu,h,gH,fO,zi]
  have hks:gK (L.set i (id,y))=gK L:=by
   unfold gK;rw[zoh];refine E8 fun k=>?_;by_cases hki:i=k
   ·subst hki;rw[oa (by rw[ig];exact hi)];simp[hi,he]
   ·rw[nr hki]
  have hvs:gR u (L.set i (id,y))=(gR u L).set i (u y):=by unfold gR;rw[zoh]
  rw[hks,hvs]
end
section
variable {S:cZ}
theorem abb(l:List Int):∀ n,(l.flatMap aL).all (rI (n+1))=true:=fun n=>by rw[ot];intro x hx;obtain⟨a,_,ha⟩:=qS.1 hx;simp only[aL,fF,j4,k7]at ha;subst ha;rfl
theorem Y6(q:aS 1 aL)(n:Nat):rI (n+2) q.v=true:=by
 have hh:∀(cs:List IV)(k:Nat)(v:IV),Sl 1 cs k v->cs.all (rI (n+1))=true->rI (n+2) v=true:=fun cs k v h hc=>by
  cases h with
  |nil=>rfl
  |row cs n tight hl=>exact hc
 exact hh _ _ _ q.ok (abb _ _)
end
def HA{α:Type}(g:α->List IV)(sz d k0 b0:Nat)(J:aU)(lv:IV)(xs:List α):Prop:=(xs=[]/\lv=.nilsl)∨∃ b,b0<=b/\xs≠[]/\lv=.slM d (k0+b) 0 xs.length xs.length sz false/\J[b]?=some (aI (xs.flatMap g))
theorem O5{α:Type}{g:α->List IV}{sz:Nat}(hs:∀ a,(g a).length=sz){d n0 slot k b0:Nat}{ah:bR}{Pre J R:aU}{lv:IV}{xs ys:List α}(h:HA g sz d Pre.length b0 J lv xs)(hb0:b0<=J.length)(hy:ys.length≠0)(hx:xs.length+ys.length<=1073741824)(hk:n0+slot=Pre.length+(J.length+k))(hf:R[k]?=some .free)
  (hsc:(ys.flatMap g).all IV.scalar=true) :
  ∃ e dR J2,bh d n0 (look d ah (Pre++(J++R))) (Pre++(J++R)) sz lv (ys.flatMap g) ys.length slot=some (e,dR,Pre++J2)/\HA g sz d Pre.length b0 J2 dR (xs++ys)/\(∀ j,j<b0->J2[j]?=(J++R)[j]?)/\J2.length=(J++R).length:=by
 have nP:k<R.length:=(cU.1 hf).1
 have fU:(J++R)[J.length+k]?=some .free:=by rw[jd Ω,B4];exact hf
 have au:J.length+k<(J++R).length:=by rw[eR];omega
 have hne:xs++ys≠[]:=by intro he;exact hy (by rw[(VO.1 he).2];rfl)
 rcases h with⟨rfl,rfl⟩|⟨b,j8,_,rfl,h2⟩
 ·rw[yT hy (by unfold bound;simp at hx;omega)]
  unfold dU
  rw[hk,zJ,fU]
  simp only[zi]
  rw[z8]
  refine⟨_,_,_,rfl,.inr ⟨J.length+k,Ω,hne,Ψ,?_⟩,fun j hj=>?_,by rw[s6]⟩
  ·rw[oa au]
   rfl
  ·rw[nr Ω]
 ·have hb:b<J.length:=(cU.1 h2).1
  have fG:(J++R)[b]?=some (aI (xs.flatMap g)):=by rw[gT hb];exact h2
  rw[zY hy hx (zl hs) hsc (by simp only[look,if_true,zJ];exact fG)]
  unfold kW
  rw[hk,zJ,fU]
  simp only[zi]
  rw[z8,z8]
  refine⟨_,_,_,rfl,.inr ⟨J.length+k,Ω,hne,Ψ,?_⟩,fun j hj=>?_,by rw[s6,s6]⟩
  ·rw[oa (by rw[s6];exact au)]
   simp
  ·rw[nr Ω,nr Ω]
theorem Lv{α:Type}{g:α->List IV}{sz:Nat}(hs:∀ a,(g a).length=sz){d n0 slot k b0 k0:Nat}{ah:bR}{Pre J R:aU}{lv:IV}{xs ys:List α}(hk0:Pre.length=k0)(h:HA g sz d k0 b0 J lv xs)(hb0:b0<=J.length)(hy:ys.length≠0)(hx:xs.length+ys.length<=1073741824)(hk:n0+slot=k0+(J.length+k))(hf:R[k]?=some .free)
  (hsc:(ys.flatMap g).all IV.scalar=true) :
  ∃ e dR J2,bh d n0 (look d ah (Pre++(J++R))) (Pre++(J++R)) sz lv (ys.flatMap g) ys.length slot=some (e,dR,Pre++J2)/\HA g sz d k0 b0 J2 dR (xs++ys)/\(∀ j,j<b0->J2[j]?=(J++R)[j]?)/\J2.length=(J++R).length:=by
 subst hk0
 exact O5 hs h hb0 hy hx hk hf hsc
section
variable {S:cZ}
theorem OP{β:Type}(L:List (Int×β))(id:Int)(y:β):(oP L id y).length<=L.length+1:=by unfold oP;cases L.findIdx? fun kv=>id==kv.1<;>simp
end
theorem Zv{lk:Nat->Nat->Option aO}{x:IV}{tight:Bool}:cB lk 1 (.slC [x] 1 1 tight)=some ([x],1):=by simp[cB,seg,zi]
theorem Lo{J0 J':aU}(h:∀ j,j<J0.length->J'[j]?=J0[j]?)(hl:J0.length<=J'.length):∃ R,J'=J0++R:=⟨J'.drop J0.length,by
 refine E8 fun j=>?_;by_cases hj:j<J0.length
 ·rw[h j hj,gT hj]
 ·rw[jd Ω,Sz];congr 1;omega⟩
theorem Lu{α:Type}{g:α->List IV}{sz:Nat}(hs:∀ a,(g a).length=sz){d n0 slot k k0:Nat}{ah:bR}{Pre J R:aU}{lv:IV}{xs ys:List α}(hk0:Pre.length=k0)(h:cg g sz d k0 J lv xs)(hy:ys.length≠0)(hx:xs.length+ys.length<=1073741824)(hk:n0+slot=k0+(J.length+k))(hf:R[k]?=some .free)
  (hsc:(ys.flatMap g).all IV.scalar=true) :
  ∃ e dR J2,bh d n0 (look d ah (Pre++(J++R))) (Pre++(J++R)) sz lv (ys.flatMap g) ys.length slot=some (e,dR,Pre++J2)/\cg g sz d k0 J2 dR (xs++ys)/\(∀ j x,j≠J.length+k->(J++R)[j]?=some x->x≠aI (xs.flatMap g)->J2[j]?=some x)/\J2.length=(J++R).length:=by
 subst hk0
 have nP:k<R.length:=(cU.1 hf).1
 have fU:(J++R)[J.length+k]?=some .free:=by rw[jd Ω,B4];exact hf
 have au:J.length+k<(J++R).length:=by rw[eR];omega
 have hne:xs++ys≠[]:=by intro he;exact hy (by rw[(VO.1 he).2];rfl)
 rcases h with⟨rfl,rfl⟩|⟨b,_,rfl,h2⟩
 ·rw[yT hy (by unfold bound;simp at hx;omega)]
  unfold dU
  rw[hk,zJ,fU]
  simp only[zi]
  rw[z8]
  refine⟨_,_,_,rfl,.inr ⟨J.length+k,hne,Ψ,?_⟩,fun j x hj hx2 _=>?_,by rw[s6]⟩
  ·rw[oa au]
   rfl
  ·rw[nr (uE hj)]
   exact hx2
 ·have hb:b<J.length:=(cU.1 h2).1
  have fG:(J++R)[b]?=some (aI (xs.flatMap g)):=by rw[gT hb];exact h2
  rw[zY hy hx (zl hs) hsc (by simp only[look,if_true,zJ];exact fG)]
  unfold kW
  rw[hk,zJ,fU]
  simp only[zi]
  rw[z8,z8]
  refine⟨_,_,_,rfl,.inr ⟨J.length+k,hne,Ψ,?_⟩,fun j x hj hx2 LP=>?_,by rw[s6,s6]⟩
  ·rw[oa (by rw[s6];exact au)]
   simp
  ·rw[nr (uE hj)]
   by_cases hjb:j=b
   ·subst hjb
    rw[fG]at hx2
    cases hx2
    exact absurd rfl LP
   ·rw[nr (uE hjb)]
    exact hx2
def SI(z:IV×List Int):List IV:=[z.1]
theorem JO(z:IV×List Int):(SI z).length=1:=rfl
def aeu(D k0 B:Nat)(xs:List Int)(J:aU)(L:List (IV×List Int)):Prop:=∀ z∈L,(∃ b,z.1=.slM D (k0+b) 0 z.2.length z.2.length 1 false/\J[b]?=some (aI (z.2.flatMap aL)))/\(∃ h r,z.2=h::r/\h∈xs)/\z.2.length<=B
theorem WZ{D k0 B:Nat}{xs:List Int}{J:aU}{L:List (IV×List Int)}(hL:aeu D k0 B xs J L){h:Int}{r:List Int}:aO.cells ((h::r).flatMap aL)≠aI (L.flatMap SI):=by
 intro he;cases L with
 |nil=>simp[aL]at he
 |cons z L =>
  obtain⟨⟨b,hb,_⟩,_⟩:=hL z (kB ..)
  have h1:=aO.cells.inj he
  rw[fJ,fJ]at h1
  simp only[aL,zg,SI,gQ,gM,znq,hb]at h1
  cases h1.1
def ia(q:aS 1 aL):List IV:=[q.v]
theorem zr(q:aS 1 aL):(ia q).length=1:=rfl
theorem UB{n D b len:Nat}{aa:aU}{c c':List IV}(hb:aa[b]?=some (aI c))(hc:c.length=len)(hm:c.mapM (freeze n D aa)=some c'):freeze (n+1) D aa (.slM D b 0 len len 1 false)=some (.slC c' len 1 false):=by
 have iP:seg c 0 (len*1)=some c:=by unfold seg;rw[zi,bt Ω,BV,gj Ω]
 simp only[freeze,if_true,hb,iP,jG,hm,gH,ew]
theorem abo{n D:Nat}{aa:aU}(hn:2<=n):∀{L:List (IV×List Int)},(∀ z∈L,(∃ b,z.1=.slM D b 0 z.2.length z.2.length 1 false/\aa[b]?=some (aI (z.2.flatMap aL)))/\z.2.length<9223372036854775808/\z.2≠[])->∃ cs:List (aS 1 aL),cs.map (·.l)=L.map Prod.snd/\(L.flatMap SI).mapM (freeze n D aa)=some (cs.flatMap ia)
 |[],_=>⟨[],rfl,rfl⟩
 |z::L,h=>by
  obtain⟨cs,h1,h2⟩:=abo hn (L:=L) fun x hx=>h x (nk _ hx);obtain⟨⟨b,hv,hb⟩,hl,hne⟩:=h z (kB ..);have hz:=yK (g:=aL) (Pre:=[]) (J:=aa) (d:=D) (m:=n) (lv:=z.1) (xs:=z.2) zf (fun a x hx=>by
   simp only[aL,fF,j4,k7]at hx;subst hx;exact zn) hn hl (.inr ⟨b,hne,by rw [hv]; simp,hb⟩)
  rw[gM]at hz;refine⟨eX zf z.2 hl::cs,by rw[nK,nK,h1,yg],?_⟩;simp only[fJ,SI,ia,gQ,gM,rO,hz,tC,uG,jG];rw[h2];rfl
theorem Q3(q:aS 1 ia)(n:Nat):rI (n+3) q.v=true:=by
 have hh:∀(cs:List IV)(k:Nat)(v:IV),Sl 1 cs k v->cs.all (rI (n+2))=true->rI (n+3) v=true:=fun cs k v h hc=>by
  cases h with
  |nil=>rfl
  |row cs n tight hl=>exact hc
 refine hh _ _ _ q.ok ?_;rw[ot];intro x hx;obtain⟨a,_,ha⟩:=qS.1 hx;simp only[ia,fF,j4,k7]at ha;subst ha;exact Y6 a n
theorem TX{β:Type}{z:β}{L:List (Int×β)}{id:Int}:kS z L id=z∨kS z L id∈L.map Prod.snd:=by
 unfold kS;cases h:L.find? fun kv=>id==kv.1 with
 |none=>exact .inl rfl
 |some kv=>exact .inr (HJ (VS h))
def af7(m d:Nat)(ah:bR)(rs:List nZ)(Q:IV->Prop)(o:Out)(st:St):Prop:=(o=.normal∨o=.ret)/\∃ v w,bP d ah st rs=some v/\freeze m d st.aa v=some w/\Q w
section
variable {m d:Nat} {ah:bR} {rs:List nZ} {Q:IV->Prop} {st:St}
theorem yV:af7 m d ah rs Q .ret st=∃ v w,bP d ah st rs=some v/\freeze m d st.aa v=some w/\Q w:=propext ⟨fun h=>h.2,fun h=>⟨.inr rfl,h⟩⟩
end
theorem ZG{S:cZ}{f:FuncId}{i:jy}{args:List IV}{m d:Nat}{ah:bR}{aK aa:aU}{id:Nat}{Q:IV->Prop}(hS:S f args=none)(hi:aR f=some i)(hm:i.mode=0)(hl:args.length<=i.ntmps)
  (h:∀ t,aN i.ntmps t (slotsOf 0 args)->Ex (aM aR S m) (d+1) (fun l=>if l=d then aK else ah l) m i.body (af7 m (d+1) (fun l=>if l=d then aK else ah l) i.res Q) ⟨t,[]⟩):∃ v,aM aR S (m+1) d ah aK aa id f args=some (.r,v,aa)/\Q v:=by
 have main:∃ r,aM aR S (m+1) d ah aK aa id f args=some r/\∃ v,r=(eV.r,v,aa)/\Q v:=by refine yz hS hi (by rw[hm];decide) hl fun t ht=>(h t ht).mono ?_;rintro o st ⟨h1,v,w,h2,h3,h4⟩;exact⟨h1,v,_,h2,by rw[hm];simp[leave,h3],w,rfl,h4⟩
 obtain⟨r,h1,v,rfl,h2⟩:=main
 exact⟨v,h1,h2⟩
theorem yN{p:Pn}(h:bQ p)(id:Int):2<=(eH p id).length/\(eH p id).length<=100002:=by have:=aec h id;unfold eH;simp only[cu,eR,dw];omega
section
variable {S:cZ}
theorem GU(hS:bN S)(p:Pn)(iz:bQ p)(z:Int):∃ N,∀ m,N<=m->∃(a:Ac)(q':aS 2 Pt.c),(dJ p (dF z)=true->q'.l=eH p (dF z))/\(∀ d ah aK aa id,aM aR S m d ah aK aa id 156 [.agg p.c,iv z]=some (.r,.tuple [.agg a.c,.bool (kZ p z)],aa)) /\
  ∀ d ah aK aa id,aM aR S m d ah aK aa id 38 [.agg p.c,iv (dF z)]=some (.r,.tuple [q'.v,iv (bif dJ p (dF z)then 0 else 7)],aa):=by
 obtain⟨a,N1,_,h1⟩:=EF hS p z iz
 obtain⟨q',h2,N2,h3⟩:=Yr hS p (dF z) iz
 exact⟨N1+N2,fun m hm=>⟨a,q',h2,h1 m Ω,h3 m Ω⟩⟩
end
def mY(q:aS 2 Pt.c):IV:=q.v
def rY:aS 2 Pt.c:=lP _ _
theorem OS(q:aS 2 Pt.c)(n:Nat):rI (n+2) q.v=true:=by
 have hh:∀(cs:List IV)(k:Nat)(v:IV),Sl 2 cs k v->cs.all (rI (n+1))=true->rI (n+2) v=true:=fun cs k v h hc=>by
  cases h with
  |nil=>rfl
  |row cs n tight hl=>exact hc
 refine hh _ _ _ q.ok ?_;rw[ot];intro x hx;obtain⟨a,_,ha⟩:=qS.1 hx;simp only[Pt.c,fF,j4,k7]at ha;rcases ha with rfl|rfl<;>rfl
theorem OY(L:List (Int×aS 2 Pt.c))(n:Nat):rI (n+3) (.eF (gK L) (gR mY L))=true:=by
 simp only[rI,gJ,ot];refine⟨fun x hx=>?_,fun x hx=>?_⟩
 ·obtain⟨a,_,rfl⟩:=jA.1 hx;rfl
 ·obtain⟨a,_,rfl⟩:=jA.1 hx;exact OS _ _
theorem OX{n D:Nat}{aa:aU}(hn:4<=n){i:Nat}{L:List (Int×aS 2 Pt.c)}{bs:List Nat}{ck:Nat}(h:aa[i]?=some (.map (gK L) (gR mY L) bs ck)):freeze n D aa (.mapM D i)=some (.eF (gK L) (gR mY L)):=by
 obtain⟨n,rfl⟩:=me n 1;have h1:(gK L).mapM (freeze n D aa)=some (gK L):=zS fun x hx=>by obtain⟨a,_,rfl⟩:=jA.1 hx;exact zn n Ω _ _
 have h2:(gR mY L).mapM (freeze n D aa)=some (gR mY L):=zS fun x hx=>by obtain⟨a,_,rfl⟩:=jA.1 hx;exact z7 zfe a.2 n Ω _ _
 simp only[freeze,if_true,h,h1,h2]
theorem vZ:∀(L:List (Int×aS 2 Pt.c)),∃ B,∀ kv∈L,kv.2.l.length<=B
 |[]=>⟨0,fun _ h=>by simp at h⟩
 |x::L=>by
  obtain⟨B,hB⟩:=vZ L;refine⟨B+x.2.l.length,fun kv h=>?_⟩;rcases fF.1 h with rfl|h
  ·omega
  ·have:=hB kv h;omega
section
variable {S:cZ}
theorem yO{f:FuncId}{i:jy}{args:List IV}{m d:Nat}{ah:bR}{aK ac7 aa:aU}{id id':Nat}(hS:S f args=none)(hi:aR f=some i)(hm:i.mode=2):aM aR S m d ah aK aa id f args=aM aR S m d ah ac7 aa id' f args:=by
 cases m with
 |zero=>rfl
 |succ m=>simp only[aM,hS,hi,hm,if_true]
end
def pI(a b c d:Pt):Int:=aT .i64 (aT .i64 (aT .i64 (b.x-a.x)*aT .i64 (d.y-c.y))-aT .i64 (aT .i64 (b.y-a.y)*aT .i64 (d.x-c.x)))
def Mg(a b c d:Pt):Int:=aT .i64 (aT .i64 (aT .i64 (b.x-a.x)*aT .i64 (d.x-c.x))+aT .i64 (aT .i64 (b.y-a.y)*aT .i64 (d.y-c.y)))
section
variable {S:cZ}
theorem BH(hS:bN S)(l:List Pt)(hl:l.length<=1000):aP S (l.length+4) 205 [.slC (l.flatMap Pt.c) l.length 2 true] (.bool (l.all bl)):=by
 refine gv i205 hS (l.length+3) zj fun m hm d ah t af=>?_;simp only[slotsOf,zb,zc,i205]at af;simp only[i205,V0,seval];refine ze (fun jj st=>∃(i:Nat)(O:aU),l.length-i<=jj/\i<=l.length/\(l.take i).all bl=true/\st.aa=O/\aN 40 st.t [(0,.slC (l.flatMap Pt.c) l.length 2 true),(3,iv i)]) l.length Ω ⟨0,[],Ω,Ω,Ψ,rfl,by simp only[V0,seval,af,eU]⟩ ?_;rintro jj ⟨t,aa⟩ K ⟨i,O,hjj,hi,ha,ho,af⟩ hn he hr;dsimp only at ho af;subst ho;simp only[V3]at af;by_cases h:i<l.length
 ·have hx:l[i]?=some l[i]:=cK h;have hmem:l[i]∈l:=gU h;generalize l[i]=x at hx hmem;have sE:bM (l.flatMap Pt.c) (i*2) 1=some [aG aH x.x]:=(zd (sz:=2) (fun _=>rfl) 0 1 hx Ω).trans rfl;have qm:bM (l.flatMap Pt.c) (i*2+1) 1=some [aG aH x.y]:=(zd (sz:=2) (fun _=>rfl) 1 1 hx Ω).trans rfl;have hw:=zq i;have fin:bl x=false->l.all bl=false:=fun hf=>by rw[zlz];exact⟨x,hmem,by rw[hf];decide⟩
  cases h1:decide (x.x < -2097152)
  ·cases h2:decide (2097152<x.x)
   ·cases h3:decide (x.y < -2097152)
    ·cases h4:decide (2097152<x.y)
     ·simp only[V0,seval,zA,eZ, *];refine hn _ (l.length-(i+1)) Ω ⟨i+1,_,Ω,Ω,?_,rfl,cD⟩;rw[lH,hx,rP,Xy,ha];simp[bl,h1,h2,h3,h4]
     ·simp only[V0,seval,zA,eZ, *];refine hr _ ?_;simp only[V0,seval,af,fin (by simp[bl,h1,h2,h3,h4])]
    ·simp only[V0,seval,zA,eZ, *];refine hr _ ?_;simp only[V0,seval,af,fin (by simp[bl,h1,h2,h3])]
   ·simp only[V0,seval,zA,eZ, *];refine hr _ ?_;simp only[V0,seval,af,fin (by simp[bl,h1,h2])]
  ·simp only[V0,seval,af,h,zA,sE,h1];refine hr _ ?_;simp only[V0,seval,af,fin (by simp[bl,h1])]
 ·simp only[V0,seval,af,h];refine he _ _ ?_;have hall:l.all bl=true:=by rw[←gj (l:=l) (i:=i) Ω];exact ha
  simp only[V0,seval,af,hall]
theorem zff(hS:bN S)(a b c d:Pt):aP S 2 206 [.agg a.c,.agg b.c,.agg c.c,.agg d.c] (aG aH (pI a b c d)):=by refine gv i206 hS 1 zn fun m hm d ah t af=>?_;simp only[V2,Xb,i206,Pt.c]at af;simp only[i206,V0,seval,af,pI]
theorem abz(hS:bN S)(a b c d:Pt):aP S 2 207 [.agg a.c,.agg b.c,.agg c.c,.agg d.c] (aG aH (Mg a b c d)):=by refine gv i207 hS 1 zn fun m hm d ah t af=>?_;simp only[V2,Xb,i207,Pt.c]at af;simp only[i207,V0,seval,af,Mg]
theorem RM(hS:bN S)(a b:Pt):aP S 2 234 [.agg a.c,.agg b.c] (.bool (decide (a.x<b.x)||(a.x==b.x&&decide (a.y<b.y)))):=by
 refine gv i234 hS 1 zj fun m hm d ah t af=>?_;simp only[V2,i234,Pt.c]at af;cases h1:decide (a.x<b.x)
 ·cases h2:a.x==b.x
  ·simp only[i234,V0,seval,af,h1,h2,iS,ew]
  ·simp only[i234,V0,seval,af,h1,h2,iS]
 ·simp only[i234,V0,seval,af,h1,iY]
def qP(a b p:Pt):Bool:=[a,b,p].all bl&&(pI a b a p==0&&decide (Mg a p b p<=0))
theorem RH(hS:bN S)(a b p:Pt):aP S 8 159 [.agg a.c,.agg b.c,.agg p.c] (.bool (qP a b p)):=by
 refine gv i159 hS (7) zj fun m hm d ah t af=>?_;simp only[V2,Xb,i159,Pt.c]at af;have c0:=fun d ah aK aa i=>BH hS [a,b,p] Ψ m (by simp;omega) d ah aK aa i;simp only[fJ,lz,Pt.c,gQ,gM,zg,cu,dw,fO,Xb]at c0;have c1:=fun dd ah aK aa i=>zff hS a b a p m Ω dd ah aK aa i;have c2:=fun dd ah aK aa i=>abz hS a p b p m Ω dd ah aK aa i;simp only[Pt.c,zg]at c1 c2;unfold qP;cases hb:[a,b,p].all bl
 ·simp only[hb]at c0;simp only[i159,V0,seval,af,Zl,c0,ew]
 ·simp only[hb]at c0;cases h0:pI a b a p==0
  ·simp only[i159,V0,seval,af,Zl,c0,c1,h0,l8,ew]
  ·cases h1:decide (Mg a p b p<=0)
   ·simp only[i159,V0,seval,Zl,l8, *]
   ·simp only[i159,V0,seval,Zl, *]
theorem ME(hS:bN S)(a b c d:Pt):aP S 4 208 [.agg a.c,.agg b.c,.agg c.c,.agg d.c] (aG aH (dQ a b c d)):=by
 refine gv i208 hS (3) zn fun m hm dd ah t af=>?_;simp only[V2,Xb,i208,Pt.c]at af;have cb:∀(u v:Pt) dd ah aK aa i,aM aR S m dd ah aK aa i 234 [.agg [aG aH u.x,aG aH u.y],.agg [aG aH v.x,aG aH v.y]]=some (.r,.bool (jN u v),aa):=fun u v dd ah aK aa i=>RM hS u v m Ω dd ah aK aa i;unfold dQ;obtain⟨p1,p2,hp,hs1⟩:∃ p1 p2:Pt,je a b=(p1,p2)/\True:=⟨_,_,rfl,trivial⟩;obtain⟨q1,q2,hq,hs2⟩:∃ q1 q2:Pt,je c d=(q1,q2)/\True:=⟨_,_,rfl,trivial⟩;simp only[hp,hq];have fin:∀(K:fP)(t:List IV),aN 33 t [(4,.ptrM dd 0 0),(5,.ptrM dd 1 0),(6,.ptrM dd 2 0),(7,.ptrM dd 3 0)] ->
   (∀ t' O',aN 33 t' [(8,aG aH (let f:=bif jN p1 q1 then q1 else p1;let l:=bif jN q2 p2 then q2 else p2;bif eO f l then 1 else bif jN f l then 2 else 0))]->K .ret ⟨t',O'⟩) ->
   Ex (aM aR S m) dd ah m (i208.body.sub [1,1,1]) K ⟨t,aI [aG aH p1.x,aG aH p1.y]::aI [aG aH p2.x,aG aH p2.y]::aI [aG aH q1.x,aG aH q1.y]::aI [aG aH q2.x,aG aH q2.y]::[.free,.free]⟩:=by
  intro K t af hK
  simp only[zb,zc]at af
  cases h1:jN p1 q1<;>cases h2:jN q2 p2
  ·cases h3:eO p1 p2
   ·cases h4:jN p1 p2
    ·have h3':=h3
     unfold eO at h3'
     simp only[i208,IC.sub,V0,seval,zP,j3, *]
     exact hK _ _ (by simp only[V0,seval,bL, *])
    ·have h3':=h3
     unfold eO at h3'
     simp only[i208,IC.sub,V0,seval,zP,j3, *]
     exact hK _ _ (by simp only[V0,seval,bT,bL, *])
   ·have h3':=h3
    unfold eO at h3'
    simp only[i208,IC.sub,V0,seval,zP,j3, *]
    exact hK _ _ (by simp only[V0,seval,af,h1,h2,h3,bT,bL])
  ·cases h3:eO p1 q2
   ·cases h4:jN p1 q2
    ·have h3':=h3
     unfold eO at h3'
     simp only[i208,IC.sub,V0,seval,zP,j3, *]
     exact hK _ _ (by simp only[V0,seval,bT,bL, *])
    ·have h3':=h3
     unfold eO at h3'
     simp only[i208,IC.sub,V0,seval,zP,j3, *]
     exact hK _ _ (by simp only[V0,seval,bT,bL, *])
   ·have h3':=h3
    unfold eO at h3'
    simp only[i208,IC.sub,V0,seval,zP,j3, *]
    exact hK _ _ (by simp only[V0,seval,af,h1,h2,h3,bT,bL])
  ·cases h3:eO q1 p2
   ·cases h4:jN q1 p2
    ·have h3':=h3
     unfold eO at h3'
     simp only[i208,IC.sub,V0,seval,zP,j3, *]
     exact hK _ _ (by simp only[V0,seval,bT,bL, *])
    ·have h3':=h3
     unfold eO at h3'
     simp only[i208,IC.sub,V0,seval,zP,j3, *]
     exact hK _ _ (by simp only[V0,seval,bT,bL, *])
   ·have h3':=h3
    unfold eO at h3'
    simp only[i208,IC.sub,V0,seval,zP,j3, *]
    exact hK _ _ (by simp only[V0,seval,af,h1,h2,h3,bT,bL])
  ·cases h3:eO q1 q2
   ·cases h4:jN q1 q2
    ·have h3':=h3
     unfold eO at h3'
     simp only[i208,IC.sub,V0,seval,zP,j3, *]
     exact hK _ _ (by simp only[V0,seval,bT,bL, *])
    ·have h3':=h3
     unfold eO at h3'
     simp only[i208,IC.sub,V0,seval,zP,j3, *]
     exact hK _ _ (by simp only[V0,seval,bT,bL, *])
   ·have h3':=h3
    unfold eO at h3'
    simp only[i208,IC.sub,V0,seval,zP,j3, *]
    exact hK _ _ (by simp only[V0,seval,af,h1,h2,h3,bT])
 have hsw:∀ u v:Pt,je u v=bif jN v u then(v,u)else(u,v):=fun _ _=>rfl
 rw[show i208.body=.seq (i208.body.sub [0]) (.seq (i208.body.sub [1,0]) (.seq (i208.body.sub [1,1,0]) (i208.body.sub [1,1,1])))from rfl];generalize hB:i208.body.sub [1,1,1]=B at fin ⊢;rw[hsw]at hp hq;cases h1:jN b a<;>cases h2:jN d c
 ·rw[h1]at hp;rw[h2]at hq;simp only[bL,qN]at hp hq;obtain⟨rfl,rfl⟩:=hp;obtain⟨rfl,rfl⟩:=hq;simp only[i208,IC.sub,V0,seval,af,cb,h1,h2];refine fin _ _ cD fun t' O' ht=>?_;simp only[zb,zc]at ht;simp only[V0,seval,ht]
 ·rw[h1]at hp;rw[h2]at hq;simp only[bT,bL,qN]at hp hq;obtain⟨rfl,rfl⟩:=hp;obtain⟨rfl,rfl⟩:=hq;simp only[i208,IC.sub,V0,seval,af,cb,h1,h2];refine fin _ _ cD fun t' O' ht=>?_;simp only[zb,zc]at ht;simp only[V0,seval,ht]
 ·rw[h1]at hp;rw[h2]at hq;simp only[bT,bL,qN]at hp hq;obtain⟨rfl,rfl⟩:=hp;obtain⟨rfl,rfl⟩:=hq;simp only[i208,IC.sub,V0,seval,af,cb,h1,h2];refine fin _ _ cD fun t' O' ht=>?_;simp only[zb,zc]at ht;simp only[V0,seval,ht]
 ·rw[h1]at hp;rw[h2]at hq;simp only[bT,qN]at hp hq;obtain⟨rfl,rfl⟩:=hp;obtain⟨rfl,rfl⟩:=hq;simp only[i208,IC.sub,V0,seval,af,cb,h1,h2];refine fin _ _ cD fun t' O' ht=>?_;simp only[zb,zc]at ht;simp only[V0,seval,ht]
end
def lM(o p:Pt):Int:=bif decide (0<aT .i64 (p.x-o.x))&&decide (0<=aT .i64 (p.y-o.y))then 0 else bif decide (aT .i64 (p.x-o.x)<=0)&&decide (0<aT .i64 (p.y-o.y))then 1 else bif decide (aT .i64 (p.x-o.x)<0)then 2 else 3
def gu(o a b:Pt):Bool:=([o,a,b].all bl&&(!eO a o&&!eO b o))&&(decide (lM o a<lM o b)||(lM o a==lM o b&&decide (0<pI o a o b)))
section
variable {S:cZ}
theorem Hh(hS:bN S)(o p:Pt):aP S 2 242 [.agg o.c,.agg p.c] (aG aH (lM o p)):=by
 refine gv i242 hS 1 zn fun m hm d ah t af=>?_;simp only[V2,i242,Pt.c,zg]at af;unfold lM;generalize hx:aT .i64 (p.x-o.x)=x;generalize hy:aT .i64 (p.y-o.y)=y;cases h1:decide (0<x)
 ·cases h3:decide (x<=0)
  ·exfalso;simp at h1 h3;omega
  ·cases h4:decide (0<y)
   ·cases h5:decide (x<0)
    ·simp only[i242,V0,seval,eZ,ew,bL, *]
    ·simp only[i242,V0,seval,eZ,ew,bL,bT, *]
   ·simp only[i242,V0,seval,eZ,ew,bL,bT, *]
 ·cases h2:decide (0<=y)
  ·have h3:decide (x<=0)=false:=by simp at h1 ⊢;omega
   have h5:decide (x<0)=false:=by simp at h1 ⊢;omega
   simp only[i242,V0,seval,eZ,mM,ew,bL, *]
  ·simp only[i242,V0,seval,eZ,mM,bT, *]
theorem Vy(hS:bN S)(o a b:Pt):aP S 10 236 [.agg o.c,.agg a.c,.agg b.c] (.bool (gu o a b)):=by
 refine gv i236 hS 9 zj fun m hm d ah t af=>?_;simp only[V2,Xb,i236,Pt.c,zg]at af;have c0:=fun d ah aK aa i=>BH hS [o,a,b] Ψ m (by simp;omega) d ah aK aa i;simp only[fJ,lz,Pt.c,gQ,gM,zg,cu,dw,fO,Xb]at c0;have cq:∀(u v:Pt) d ah aK aa i,aM aR S m d ah aK aa i 242 [.agg [aG aH u.x,aG aH u.y],.agg [aG aH v.x,aG aH v.y]]=some (.r,aG aH (lM u v),aa):=fun u v d ah aK aa i=>Hh hS u v m Ω d ah aK aa i;have cc:∀(u v w z:Pt) d ah aK aa i,aM aR S m d ah aK aa i 206 [.agg [aG aH u.x,aG aH u.y],.agg [aG aH v.x,aG aH v.y],.agg [aG aH w.x,aG aH w.y],.agg [aG aH z.x,aG aH z.y]]=some (.r,aG aH (pI u v w z),aa):=fun u v w z d ah aK aa i=>zff hS u v w z m Ω d ah aK aa i;have e1:∀ u v:Pt,fM [1,1] [aG aH u.x,aG aH u.y] [aG aH v.x,aG aH v.y]=some (eO u v):=fun u v=>by simp only[fM,eqv,eO];cases h1:u.x==v.x<;>cases h2:u.y==v.y<;>simp[h1,h2]
 have fne:∀ b:Bool,(false != b)=b:=fun b=>by cases b<;>rfl
 unfold gu;cases hb:[o,a,b].all bl
 ·simp only[hb]at c0;simp only[i236,V0,seval,af,Zl,c0,ew]
 ·simp only[hb]at c0;cases h1:eO a o
  ·cases h2:eO b o
   ·generalize hqa:lM o a=qa at *;generalize hqb:lM o b=qb at *;cases g1:decide (qa<qb)
    ·cases g2:qa==qb
     ·simp only[i236,V0,seval,Zl,fne,ew,iS, *]
     ·simp only[i236,V0,seval,Zl,fne,eZ,iS, *]
    ·simp only[i236,V0,seval,Zl,fne,iY, *]
   ·simp only[i236,V0,seval,Zl,fne,l8,ew, *]
  ·simp only[i236,V0,seval,af,Zl,c0,e1,h1,fne,l8,ew]
end
structure jF where
 tw:Int
 oc:aS 1 aL
 iv:IV
 ic:List (aS 1 aL)
 av:IV
 al:List Int
def jx(a:jF):List IV:=[aG aH a.tw,a.oc.v,a.iv,a.av]
theorem ye(a:jF):(jx a).length=4:=rfl
theorem Di{S:cZ}{f:FuncId}{i:jy}{args:List IV}{m d:Nat}{ah:bR}{aK aa:aU}{id id':Nat}(hS:S f args=none)(hi:aR f=some i)(hm:i.mode=0):aM aR S m d ah aK aa id f args=aM aR S m d ah aK aa id' f args:=by
 cases m with
 |zero=>rfl
 |succ m =>
  have h2:¬ (0=2):=by decide
  have h1:¬ (0=1):=by decide
  have h3:¬ (0=3):=by decide
  have h4:¬ (4<=0):=by decide
  simp only[aM,hS,hi,hm,bC h2,bC h3,bC h4,leave,bC h1]
def eC{α:Type}(g:α->List IV)(sz d k0:Nat)(B:Nat->Nat)(τ:Nat)(J:aU)(lv:IV)(xs:List α):Prop:=(xs=[]/\lv=.nilsl)∨∃ b,xs≠[]/\lv=.slM d (k0+b) 0 xs.length xs.length sz false/\J[b]?=some (aI (xs.flatMap g))/\B b=τ
section
variable {α:Type} {g:α->List IV} {sz d k0 τ:Nat} {B:Nat->Nat} {J:aU} {lv:IV} {xs:List α}
theorem eC.more(h:eC g sz d k0 B τ J lv xs)(r:aU):eC g sz d k0 B τ (J++r) lv xs:=by
 rcases h with h|⟨b,hne,h1,h2,h3⟩
 ·exact .inl h
 ·exact .inr ⟨b,hne,h1,by rw[gT (cU.1 h2).1];exact h2,h3⟩
theorem eC.len(h:eC g sz d k0 B τ J lv xs){D:Nat}{ah:bR}{aK aa:aU}:jL D ah aK aa 1 lv=some (.p,aG aH (xs.length:Nat),aa):=by rcases h with⟨rfl,rfl⟩|⟨b,_,rfl,_⟩<;>rfl
theorem eC.tJ(h:eC g sz d k0 B τ J lv xs):lv.scalar=true:=by rcases h with⟨_,rfl⟩|⟨b,_,rfl,_⟩<;>rfl
theorem eC.cells(h:eC g sz d k0 B τ J lv xs):lv.cells=[lv]:=by rcases h with⟨_,rfl⟩|⟨b,_,rfl,_⟩<;>rfl
def C4(B:Nat->Nat)(nb τ:Nat):Nat->Nat:=fun j=>if j=nb then τ else B j
theorem yB(hs:∀ a,(g a).length=sz){n0 slot k:Nat}{Pre R:aU}{ys:List α}(hk0:Pre.length=k0)(h:eC g sz d k0 B τ J lv xs)(hy:ys.length≠0)(hx:xs.length+ys.length<=1073741824)(hk:n0+slot=k0+(J.length+k))(hf:R[k]?=some .free)(hsc:(ys.flatMap g).all IV.scalar=true) :
  ∃ e dR J2,(∀ lk:Nat->Nat->Option aO,(∀ j x,j<k0+J.length->(Pre++(J++R))[j]?=some x->lk d j=some x)->bh d n0 lk (Pre++(J++R)) sz lv (ys.flatMap g) ys.length slot=some (e,dR,Pre++J2))/\(e=.a∨∃ i s,e=.k i s)/\eC g sz d k0 (C4 B (J.length+k) τ) τ J2 dR (xs++ys)/\J2.length=(J++R).length /\
   ∀{β:Type}{g':β->List IV}{sz' τ':Nat}{sP:IV}{zs:List β},τ'≠τ->eC g' sz' d k0 B τ' J sP zs->eC g' sz' d k0 (C4 B (J.length+k) τ) τ' J2 sP zs:=by
 subst hk0
 have nP:k<R.length:=(cU.1 hf).1
 have fU:(J++R)[J.length+k]?=some .free:=by rw[jd Ω,B4];exact hf
 have au:J.length+k<(J++R).length:=by rw[eR];omega
 have hne:xs++ys≠[]:=by intro he;exact hy (by rw[(VO.1 he).2];rfl)
 rcases h with⟨rfl,rfl⟩|⟨b,_,rfl,h2,h3⟩
 ·refine⟨.a,.slM d (n0+slot) 0 ys.length ys.length sz false,(J++R).set (J.length+k) (aI (ys.flatMap g)),fun lk _=>?_,.inl rfl,.inr ⟨J.length+k,hne,by rw[hk];simp,?_,bt rfl⟩,by rw[s6],fun{β g' sz' τ' sP zs} hτ hO=>?_⟩
  ·rw[yT hy (by unfold bound;simp at hx;omega)]
   unfold dU
   rw[hk,zJ,fU]
   simp only[zi]
   rw[z8]
  ·rw[oa au]
   rfl
  ·rcases hO with hO|⟨b,hne,h1,h2,h3⟩
   ·exact .inl hO
   ·have hb:=(cU.1 h2).1
    refine .inr ⟨b,hne,h1,?_,?_⟩
    ·rw[nr Ω,gT hb]
     exact h2
    ·unfold C4
     rw[bC Ω]
     exact h3
 ·have hb:b<J.length:=(cU.1 h2).1
  have fG:(J++R)[b]?=some (aI (xs.flatMap g)):=by rw[gT hb];exact h2
  refine⟨.k (Pre.length+b) (n0+slot),.slM d (n0+slot) 0 (xs.length+ys.length) (xs.length+ys.length) sz false,((J++R).set b .gone).set (J.length+k) (aI (xs.flatMap g++ys.flatMap g)),fun lk hlk=>?_,.inr ⟨_,_,rfl⟩,.inr ⟨J.length+k,hne,by rw[hk];simp,?_,bt rfl⟩,by rw[s6,s6],fun{β g' sz' τ' sP zs} hτ hO=>?_⟩
  ·rw[zY hy hx (zl hs) hsc (hlk _ _ Ω (by rw[zJ];exact fG))]
   unfold kW
   rw[hk,zJ,fU]
   simp only[zi]
   rw[z8,z8]
  ·rw[oa (by rw[s6];exact au)]
   simp
  ·rcases hO with hO|⟨b',hne,h1,h2',h3'⟩
   ·exact .inl hO
   ·have hb':=(cU.1 h2').1
    have oq:b≠b':=fun he=>hτ (by rw[←h3',←he,h3])
    refine .inr ⟨b',hne,h1,?_,?_⟩
    ·rw[nr Ω,nr oq,gT hb']
     exact h2'
    ·unfold C4
     rw[bC Ω]
     exact h3'
theorem eC.gD{β:Type}{g':β->List IV}{sz' τ' b:Nat}{sP:IV}{zs:List β}{o:aO}(hb:B b=τ)(hτ:τ'≠τ)(hO:eC g' sz' d k0 B τ' J sP zs):eC g' sz' d k0 B τ' (J.set b o) sP zs:=by
 rcases hO with hO|⟨b',hne,h1,h2,h3⟩
 ·exact .inl hO
 ·have oq:b≠b':=fun he=>hτ (by rw[←h3,←he,hb]);exact .inr ⟨b',hne,h1,by rw[nr oq];exact h2,h3⟩
end
theorem zfg{α:Type}{g:α->List IV}{sz:Nat}(hs:∀ a,(g a).length=sz){n D b:Nat}{aa:aU}{xs:List α}{c':List IV}(hf:(xs.flatMap g).mapM (freeze n D aa)=some c')(hb:aa[b]?=some (aI (xs.flatMap g))):freeze (n+1) D aa (.slM D b 0 xs.length xs.length sz false)=some (.slC c' xs.length sz false):=by
 have iP:seg (xs.flatMap g) 0 (xs.length*sz)=some (xs.flatMap g):=by unfold seg;rw[zi,zl hs,bt Ω,BV,gj (by rw[zl hs];omega)]
 simp only[freeze,if_true,hb,iP,jG,hf,gH,ew]
theorem ZW{α:Type}{g:α->List IV}{sz:Nat}(hs:∀ a,(g a).length=sz){n D k0 τ:Nat}{B:Nat->Nat}{Pre J:aU}{lv:IV}{xs:List α}(hk0:Pre.length=k0)(hf:∀ a,∀ x∈g a,Fz n x)(hx:xs.length<9223372036854775808)(h:eC g sz D k0 B τ J lv xs):freeze (n+1) D (Pre++J) lv=some (eX hs xs hx).v:=by
 subst hk0;rcases h with⟨rfl,rfl⟩|⟨b,hne,rfl,h2,_⟩
 ·exact Zb _ Ω _ _
 ·have hm:(xs.flatMap g).mapM (freeze n D (Pre++J))=some (xs.flatMap g):=zS fun x hx=>by obtain⟨a,_,ha⟩:=qS.1 hx;exact hf a x ha n (dz _) _ _
  rw[zfg hs hm (by rw[zJ];exact h2)];cases xs with
  |nil=>exact absurd rfl hne
  |cons x xs=>rfl
theorem Ch:∀{vs a b:List IV}{k:Nat},k+vs.length<=a.length->gV (a++b) k vs=gV a k vs++b
 |[],_,_,_,_=>rfl
 |v::vs,a,b,k,h=>by simp only[cu]at h;simp only[gV];rw[List.set_append_left _ _ Ω];exact Ch (by rw[s6];omega)
theorem vC:∀{vs a b:List IV}{k:Nat},gV (a++b) (a.length+k) vs=a++gV b k vs
 |[],_,_,_=>rfl
 |v::vs,a,b,k=>by simp only[gV];rw[Fc _ _ Ω,B4,uO];exact vC
theorem ZH{α:Type}{g:α->List IV}{sz:Nat}(hs:∀ a,(g a).length=sz):∀{xs:List α}{i k:Nat}{x x':α}{vs:List IV},xs[i]?=some x->k+vs.length<=sz->g x'=gV (g x) k vs->gV (xs.flatMap g) (i*sz+k) vs=(xs.set i x').flatMap g
 |[],i,k,x,x',vs,h,_,_=>by simp at h
 |y::xs,0,k,x,x',vs,h,hk,he=>by simp only[qU,fZ]at h;subst h;rw[SP,fJ,fJ,he,qw,fO,Ch (by rw[hs];exact hk)]
 |y::xs,i+1,k,x,x',vs,h,hk,he=>by simp only[jP]at h;rw[HI,fJ,fJ,←ZH hs h hk he,show(i+1)*sz+k=(g y).length+(i*sz+k) by rw[hs,NB];omega,vC]
def lQ:aS 1 aL:=lP _ _
structure jr(D:Nat)(U:List (aS 1 aL))(n1 n2 n3:Nat)(J:aU)(B:Nat->Nat)(lv:IV)(A:List jF)(rv:IV)(rc:List (aS 1 aL)):Prop where
 l:eC jx 4 D 1 B 0 J lv A
 ne:A≠[]
 len:A.length<=n1+1
 r:eC ia 1 D 1 B 1 J rv rc
 rl:rc.length<=n1
 rU:∀ c∈rc,c∈U
 el:∀ i a,A[i]?=some a->eC ia 1 D 1 B (2+2*i) J a.iv a.ic/\eC aL 1 D 1 B (3+2*i) J a.av a.al/\a.ic.length<=n2/\a.al.length<=n3/\(∀ c∈a.ic,c∈U)/\(0<i->a.oc∈U)/\a.oc∈lQ::U
section
variable {D n1 n2 n3:Nat} {U:List (aS 1 aL)} {J:aU} {B:Nat->Nat} {lv rv:IV} {A:List jF} {rc:List (aS 1 aL)}
theorem jr.more(h:jr D U n1 n2 n3 J B lv A rv rc)(r:aU):jr D U n1 n2 n3 (J++r) B lv A rv rc :=
 ⟨h.l.more r,h.ne,h.len,h.r.more r,h.rl,h.rU,fun i a ha=>by
  obtain⟨h1,h2,h3⟩:=h.el i a ha;exact ⟨h1.more r,h2.more r,h3⟩⟩
theorem jr.blk(h:jr D U n1 n2 n3 J B lv A rv rc):∃ b,lv=.slM D (1+b) 0 A.length A.length 4 false/\J[b]?=some (aI (A.flatMap jx))/\B b=0:=by
 rcases h.l with⟨h0,_⟩|⟨b,_,h1,h2,h3⟩
 ·exact absurd h0 h.ne
 ·exact⟨b,h1,h2,h3⟩
theorem jr.set{m2 m3:Nat}{J2:aU}{B2:Nat->Nat}{b i:Nat}{a a':jF}(h:jr D U n1 n2 n3 J B lv A rv rc)(hl:lv=.slM D (1+b) 0 A.length A.length 4 false)(hb:J2[b]?=some (aI (A.flatMap jx)))(hB:B2 b=0)(ha:A[i]?=some a)(Wz:a'.oc=a.oc)
  (hr:eC ia 1 D 1 B2 1 J2 rv rc) (hm2:n2<=m2) (Jn:n3<=m3)
  (hel:∀ j x,A[j]?=some x->j≠i->eC ia 1 D 1 B2 (2+2*j) J2 x.iv x.ic/\eC aL 1 D 1 B2 (3+2*j) J2 x.av x.al)
  (h1:eC ia 1 D 1 B2 (2+2*i) J2 a'.iv a'.ic) (h2:eC aL 1 D 1 B2 (3+2*i) J2 a'.av a'.al) (h3:a'.ic.length<=m2) (h4:a'.al.length<=m3) (h5:∀ c∈a'.ic,c∈U) :
  jr D U n1 m2 m3 (J2.set b (aI ((A.set i a').flatMap jx))) B2 lv (A.set i a') rv rc:=by
 have hil:=(cU.1 ha).1
 have sW:=(cU.1 hb).1
 refine⟨.inr ⟨b,fun he=>h.ne (by have:=ep List.length he;simpa using this),by rw[hl,s6],oa sW,hB⟩,fun he=>h.ne (by have:=ep List.length he;simpa using this),by rw[s6];exact h.len,eC.gD hB Ω hr,h.rl,h.rU,fun j x hx=>?_⟩
 by_cases hj:j=i
 ·subst hj
  rw[oa hil]at hx
  cases hx
  obtain⟨_,_,_,_,_,h6,h7⟩:=h.el j a ha
  exact⟨eC.gD hB Ω h1,eC.gD hB Ω h2,h3,h4,h5,by rw[Wz];exact h6,by rw[Wz];exact h7⟩
 ·rw[nr (uE hj)]at hx
  obtain⟨_,_,g3,g4,g5⟩:=h.el j x hx
  obtain⟨g1,g2⟩:=hel j x hx hj
  exact⟨eC.gD hB Ω g1,eC.gD hB Ω g2,Ω,Ω,g5⟩
end
theorem BJ{A:List jF}{k j:Nat}{a:jF}(ha:A[k]?=some a)(hj:j+1<=4):bM (A.flatMap jx) (k*4+j) 1=bM (jx a) j 1:=zd ye j 1 ha hj
theorem jr.oc{D n1 n2 n3:Nat}{U:List (aS 1 aL)}{J:aU}{B:Nat->Nat}{lv rv:IV}{A:List jF}{rc:List (aS 1 aL)}(h:jr D U n1 n2 n3 J B lv A rv rc):∀ a∈A,a.oc∈lQ::U:=fun a ha=>by obtain⟨i,hi⟩:=pY ha;exact(h.el i a hi).2.2.2.2.2.2
structure Ar where
 tw:Int
 oc:aS 1 aL
 ic:aS 1 ia
 al:aS 1 aL
def lq(a:Ar):List IV:=[aG aH a.tw,a.oc.v,a.ic.v,a.al.v]
theorem Zs(a:Ar):(lq a).length=4:=rfl
def BT(U:List (aS 1 aL))(l:List Ar):Prop:=l≠[]/\l.length<=U.length+1/\∀ i a,l[i]?=some a->a.ic.l.length<=U.length/\(∀ c∈a.ic.l,c∈U)/\(0<i->a.oc∈U)/\a.oc∈lQ::U
theorem EH{f:IV->Option IV}{Q:jF->Ar->Prop}:∀{A:List jF},(∀ a∈A,∃ a',Q a a'/\(jx a).mapM f=some (lq a'))->∃ As:List Ar,As.length=A.length/\(∀(i:Nat)(a:jF),A[i]?=some a->∃ a',As[i]?=some a'/\Q a a')/\(A.flatMap jx).mapM f=some (As.flatMap lq)
 |[],_=>⟨[],rfl,fun i a h=>by simp at h,rfl⟩
 |a::A,h=>by
  obtain⟨As,h1,h2,h3⟩:=EH (A:=A) fun x hx=>h x (nk _ hx);obtain⟨a',hq,hm⟩:=h a (kB ..);refine⟨a'::As,by simp[h1],fun i x hx=>?_,?_⟩
  ·cases i with
   |zero=>simp only[qU,fZ]at hx;subst hx;exact⟨a',rfl,hq⟩
   |succ i=>exact h2 i x (by simpa using hx)
  ·rw[fJ,fJ,zoc,hm,h3];rfl
theorem ab4{i h:Int}(h1:1<=i)(h2:i<=4611686018427387904)(hh:h=i∨h=aT .i64 (0-i)):dF h=i:=by
 have w1:aT .i64 (0-i)=-i:=zD Ω Ω Ω;rcases hh with rfl|rfl
 ·unfold dF;rw[w1,bC Ω]
 ·unfold dF;rw[w1,show aT .i64 (0 - -i)=i from zD Ω Ω Ω,bt Ω]
theorem Rz(q:aS 4 lq)(n:Nat):rI (n+4) q.v=true:=by
 have hh:∀(cs:List IV)(k:Nat)(v:IV),Sl 4 cs k v->cs.all (rI (n+3))=true->rI (n+4) v=true:=fun cs k v h hc=>by
  cases h with
  |nil=>rfl
  |row cs n tight hl=>exact hc
 refine hh _ _ _ q.ok ?_;rw[ot];intro x hx;obtain⟨a,_,ha⟩:=qS.1 hx;simp only[lq,fF,j4,k7]at ha;rcases ha with rfl|rfl|rfl|rfl
 ·rfl
 ·exact Y6 _ _
 ·exact Q3 _ _
 ·exact Y6 _ _
section
variable {S:cZ}
theorem Hx(hS:bN S)(a:Ar)(ha:a.ic.l.length<=65536):∃ q:aS 1 ia,q.l=a.oc::a.ic.l/\aP S 10 123 [.agg (lq a)] q.v:=by
 have Wz:Fz 3 a.oc.v:=z7 (fun a x hx=>by
  simp only[aL,fF,j4,k7]at hx;subst hx;exact zn) a.oc
 by_cases h0:a.ic.l.length=0
 ·refine⟨iV zr [a.oc] 1 true rfl Ω,by rw[sr.1 h0];rfl,sX i123 hS 9 fun m hm d ah t af=>?_⟩;simp only[slotsOf,zb,zc,i123,lq]at af;have hap:∀ n0 lk (aa:aU),bh d n0 lk aa 1 (.slC [a.oc.v] 1 1 true) (a.ic.l.flatMap ia) a.ic.l.length 0=some (.r,.slC [a.oc.v] 1 1 true,aa):=fun n0 lk aa=>by unfold bh;rw[bt h0]
  simp only[i123,V0,seval,af,rep,zh,zk,zo,zw,hap];refine⟨_,rfl,?_⟩;exact Bb (k:=3) (fun x hx=>by
   simp only[fF,j4,k7]at hx;subst hx;exact Wz) m Ω _ _
 ·have hlen:(a.oc::a.ic.l).length=1+a.ic.l.length:=by rw[cu];omega
  refine⟨iV zr (a.oc::a.ic.l) (1+a.ic.l.length) false hlen Ω,rfl,sX i123 hS 9 fun m hm d ah t af=>?_⟩;simp only[slotsOf,zb,zc,i123,lq]at af;have hap:∀ lk (b:aO),bh d 1 lk [b,.free] 1 (.slC [a.oc.v] 1 1 true) (a.ic.l.flatMap ia) a.ic.l.length 0=some (.a,.slM d 1 0 (1+a.ic.l.length) (1+a.ic.l.length) 1 false,[b,aI ((a.oc::a.ic.l).flatMap ia)]):=fun lk b=>by unfold bh;rw[bC h0];simp only;rw[bt ⟨by unfold bound;omega,trivial⟩];simp[seg,zi,dU,ia]
  simp only[i123,V0,seval,af,rep,zh,zk,zo,zw,hap];refine⟨_,rfl,?_⟩;have:=yi (k:=3) (m:=m) (d:=d) (i:=1) (n:=1+a.ic.l.length) (aa:=[aI (lq a),aI ((a.oc::a.ic.l).flatMap ia)]) (tight:=false) (g:=ia) (fun c x hx=>by
   simp only[ia,fF,j4,k7]at hx;subst hx;exact z7 (fun a x hx=>by
    simp only[aL,fF,j4,k7]at hx;subst hx;exact zn) c) Ω hlen zr rfl
  exact this
end
theorem SD:∀{n:Nat}{v:IV},rI n v=true->Fz n v
 |0,v,h=>by simp[rI]at h
 |n+1,v,h=>fun m hm lv aa=>by obtain⟨m,rfl⟩:=me m 1;have ih:∀{cs:List IV},cs.all (rI n)=true->cs.mapM (freeze m lv aa)=some cs:=fun h=>zS fun c hc=>SD (ot.1 h c hc) m Ω lv aa;cases v<;>simp only[rI,gJ,l7]at h<;>simp only[freeze]<;>first|rfl|(rw[ih h];rfl)|(rw[ih h.1,ih h.2])
def jg(z:Int):Int:=aT .i64 (0-z)
def e8(p:Pn)(z:Int):Int:=bif decide (0<z)then(gI p z).l else bif decide (0<jg z)then(gI p (jg z)).r else 0
def bJ(p:Pn)(z:Int):List Pt:=bif decide (0<z)then eH p z else(eH p (jg z)).reverse
def iw(p:Pn)(z:Int):Prop:=if 0<z then dJ p z=true else dJ p (jg z)=true
theorem zt{α:Type}{l:List α}{i:Nat}{x:α}(h:l[i]?=some x):l.take (i+1)=l.take i++[x]:=by rw[lH,h];rfl
section
variable {S:cZ}
theorem J7(hS:bN S)(p:Pn)(z:Int)(hv:bQ p):∃ N,aP S N 91 [.agg p.c,aG aH z] (aG aH (e8 p z)):=by
 obtain⟨q1,hq1,N1,h1⟩:=Yq hS p z (fun f hf=>by have:=hv f hf;omega);obtain⟨q2,lG,N2,h2⟩:=Yq hS p (jg z) (fun f hf=>by have:=hv f hf;omega);refine⟨N1+N2+11,gv i91 hS (N1+N2+10) zn fun m hm d ah t af=>?_⟩;simp only[V2,i91,Pn.c]at af;have c1:=h1 m Ω;have c2:=h2 m Ω;simp only[Pn.c,zg,Ac.c,jg]at c1 c2;unfold e8;cases g1:decide (0<z)
 ·cases g2:decide (0<jg z)
  ·unfold jg at g2;simp only[i91,V0,Xa,Xe,af,eZ,g1,g2,bL]
  ·unfold jg at g2;simp only[i91,V0,Xa,Xb,Xe,af,eZ,g1,g2,c2,bg,bL,bT];simp only[jg,gI,mH]
 ·simp only[i91,V0,Xa,Xb,Xe,af,eZ,g1,c1,bg,bT];simp only[gI,mH]
theorem EK(hS:bN S)(p:Pn)(z:Int)(hv:bQ p)(hok:iw p z):∃ q:aS 2 Pt.c,q.l=bJ p z/\∃ N,aP S N 169 [.agg p.c,aG aH z] q.v:=by
 unfold iw at hok;unfold bJ;by_cases g1:0<z
 ·rw[bt g1]at hok;obtain⟨q,hq,N,h1⟩:=YN hS p z hv;rw[hok]at h1;have hd:decide (0<z)=true:=decide_eq_true g1;refine⟨q,by rw[hd];exact hq hok,N+11,sX i169 hS (N+10) fun m hm d ah t af=>?_⟩;simp only[V2,i169,Pn.c]at af;have c1:=h1 m Ω;simp only[Pn.c,zg]at c1;simp only[i169,V0,Xa,Xb,Xe,af,eZ,g1,c1,bg];exact⟨_,rfl,z7 ZD q m Ω _ _⟩
 ·rw[bC g1]at hok;obtain⟨q,hq,N,h1⟩:=YN hS p (jg z) hv;rw[hok]at h1;have hq:=hq hok;have pU:=yN hv (jg z);rw[←hq]at pU;have hd:decide (0<z)=false:=decide_eq_false g1;have qD:(q.l.reverse).length<9223372036854775808:=by rw[uF];omega
  refine⟨eX Pt.aZ q.l.reverse qD,by rw[hd,yg,hq];rfl,N+q.l.length+11,sX i169 hS (N+q.l.length+10) fun m hm d ah t af=>?_⟩;simp only[V2,i169,Pn.c]at af;have c1:=h1 m Ω;simp only[Pn.c,zg,jg]at c1;have hw0:aT .i64 (((q.l.length:Nat):Int)-1)=((q.l.length:Nat):Int)-1:=zD rfl Ω Ω;simp only[i169,V0,Xa,Xb,Xe,af,eZ,g1,c1,bg,hw0];refine ze (fun jj st=>∃(i:Nat)(J:aU)(lv:IV),q.l.length-i<=jj/\i<=q.l.length/\cg Pt.c 2 d 2 J lv (q.l.reverse.take i)/\st.aa=aI [p.ns.v,p.az.v,p.fs.v]::.free::J/\aN 42 st.t [(7,q.v),(9,lv),(10,aG aH (((q.l.length:Nat):Int)-1-(i:Int)))]) q.l.length Ω ⟨0,[],.nilsl,Ω,Ω,.inl ⟨rfl,rfl⟩,rfl,by simp only[V0,Xa,Xe,af,eU,zoi]⟩ ?_;clear af;rintro jj ⟨t,aa⟩ KA ⟨i,J,lv,hjj,hi,hO,ho,af⟩ bV cS dA;dsimp only at ho af;subst ho;simp only[zb,zc]at af;by_cases h:i<q.l.length
  ·have hk:q.l.length-1-i<q.l.length:=Ω;obtain⟨x,hx⟩:=gx (l:=q.l) (i:=q.l.length-1-i) hk;have Wp:q.l.reverse[i]?=some x:=by rw[XN h];exact hx
   have hrd:bM (q.l.flatMap Pt.c) ((q.l.length-1-i)*2) 2=some [aG aH x.x,aG aH x.y]:=(zd Pt.aZ 0 2 hx Ω).trans rfl;have e1:((q.l.length:Nat):Int)-1-(i:Int)=((q.l.length-1-i:Nat):Int):=Ω;have hge:(0<=((q.l.length-1-i:Nat):Int))=True:=eq_true Ω;have hw:aT .i64 (((q.l.length-1-i:Nat):Int)-1)=((q.l.length:Nat):Int)-1-((i+1:Nat):Int):=zD Ω Ω Ω;have au:(q.l.reverse.take i).length=i:=by rw[k8,uF,qu Ω]
   obtain⟨e,dR,J2,b9,dX⟩:=zM (Pre:=[aI [p.ns.v,p.az.v,p.fs.v],.free]) (n0:=J.length+1+1) (slot:=0) (k:=0) (ah:=ah) (R:=[.free]) Pt.aZ hO (ys:=[x]) Ψ (by simp only[au,cu,dw];omega) (by simp only[cu,dw];omega) rfl rfl;simp only[gQ,gM,fJ,lz,Pt.c,zg,cu,dw,iL,fO]at b9;rw[←zt Wp]at dX;have cI2:∀(lk:Nat->Nat->Option aO)(a b:IV),cB lk 2 (.slC [a,b] 1 2 true)=some ([a,b],1):=fun lk a b=>rfl;rw[e1]at af;simp only[V0,Xa,Xb,Xe,af,mM,hge,za q hk,hrd,rep,zh,zk,zo,cI2,b9,hw];exact bV _ (q.l.length-(i+1)) Ω ⟨i+1,J2,dR,Ω,Ω,dX,rfl,by simp only[V0,Xa,Xe,af]⟩
  ·obtain rfl:i=q.l.length:=Ω;have hge:(0<=((q.l.length:Nat):Int)-1-((q.l.length:Nat):Int))=False:=eq_false Ω;simp only[V0,Xa,af,mM,hge];refine cS _ _ ?_;have e:q.l.reverse.take q.l.length=q.l.reverse:=gj Ψ;rw[e]at hO;simp only[V0,Xa,Xe,af];exact⟨_,rfl,yK (Pre:=[_,_]) Pt.aZ ZD Ω qD hO⟩
def fS(p:Pn)(z:Int):Pt:=((bJ p z)[1]?).getD ⟨0,0⟩
theorem MF(hS:bN S)(p:Pn)(z:Int)(hv:bQ p)(hok:iw p z):∃ N,aP S N 235 [.agg p.c,aG aH z] (.agg (fS p z).c):=by
 obtain⟨q,hq,N,h1⟩:=EK hS p z hv hok;have h2:2<=q.l.length:=by
  rw[hq];unfold bJ;cases decide (0<z)
  ·rw[bL,uF];exact(yN hv _).1
  ·exact(yN hv _).1
 have qD:=q.gC;have hx:q.l[1]?=some q.l[1]:=cK Ω;have LN:fS p z=q.l[1]:=by unfold fS;rw[←hq,hx];rfl
 rw[LN];generalize q.l[1]=x at hx;have hrd:bM (q.l.flatMap Pt.c) 2 2=some [aG aH x.x,aG aH x.y]:=(zd (i:=1) Pt.aZ 0 2 hx Ω).trans rfl;refine⟨N+11,sX i235 hS (N+10) fun m hm d ah t af=>?_⟩;simp only[V2,i235,Pn.c]at af;have c1:=h1 m Ω;simp only[Pn.c]at c1;have au:(((q.l.length:Nat):Int)<2)=False:=eq_false Ω;have qg:∀ aa,dD aa 2 q.v (aG aH 1)=some (.p,.ptrC (q.l.flatMap Pt.c) 2,aa):=fun aa=>za q (i:=1) Ω;simp only[i235,V0,Xa,Xb,Xe,af,c1,au,qg,hrd];exact⟨_,rfl,SD (n:=2) rfl m Ω _ _⟩
end
def cV(node:Int)(a:Ac):List Int:=(if (a.fr==node)=true then[a.id]else[])++(if (a.to==node)=true then[jg a.id]else[])
def bB(p:Pn)(node:Int):List Int:=p.az.l.flatMap (cV node)
def MV{α:Type}(g:α->List IV)(sz d:Nat)(Q:aU)(lv:IV)(xs:List α):Prop:=(xs=[]/\lv=.nilsl)∨∃ b,xs≠[]/\lv=.slM d b 0 xs.length xs.length sz false/\Q[b]?=some (aI (xs.flatMap g))
section
variable {α:Type} {g:α->List IV} {sz d:Nat} {Q:aU} {lv:IV} {xs:List α}
theorem MV.more(h:MV g sz d Q lv xs)(R:aU):MV g sz d (Q++R) lv xs:=by
 rcases h with h|⟨b,h1,h2,h3⟩
 ·exact .inl h
 ·exact .inr ⟨b,h1,h2,by rw[gT (cU.1 h3).1];exact h3⟩
theorem zfh{Pre J:aU}(h:cg g sz d Pre.length J lv xs):MV g sz d (Pre++J) lv xs:=by
 rcases h with h|⟨b,h1,h2,h3⟩
 ·exact .inl h
 ·exact .inr ⟨_,h1,h2,by rw[zJ];exact h3⟩
theorem MV.len(h:MV g sz d Q lv xs){D:Nat}{ah:bR}{aK aa:aU}:jL D ah aK aa 1 lv=some (.p,aG aH (xs.length:Nat),aa):=by
 rcases h with⟨rfl,rfl⟩|⟨b,h1,rfl,h3⟩
 ·exact zbg
 ·exact Zd
theorem OM{b:Nat}{o:aO}(h:Q[b]?=some o)(R:aU):(Q++R)[b]?=some o:=by rw[gT (cU.1 h).1];exact h
theorem Ys{b:Nat}{o:aO}(h:Q[b]?=some o)(vis:List Nat)(k:Nat)(R:aU):(b7 vis (Q.length+k) (Q++R))[b]?=some o:=by have hb:=(cU.1 h).1;rw[zp,OM h,gH];have:decide (b<Q.length+k)=true:=decide_eq_true Ω;rw[this,iY];rfl
theorem Yt{b:Nat}{o:aO}(h:Q[b]?=some o)(vis:List Nat)(R:aU):(b7 vis Q.length (Q++R))[b]?=some o:=Ys h vis 0 R
end
section
variable {S:cZ}
theorem MM(hS:bN S)(p:Pn)(hl:p.az.l.length<=100000)(node:Int){m d:Nat}{ah:bR}(hm:p.az.l.length+10<=m){K:fP}(t:List IV)(O1 O2:aO)(af:aN 127 t [(1,aG aH node),(2,.ptrM d 0 0),(5,.ptrM d 2 0),(7,.nilsl)])
  (hK:∀ t' J lv,cg aL 1 d 3 J lv (bB p node)->aN 127 t' [(2,.ptrM d 0 0),(5,.ptrM d 2 0),(7,lv)]->K .normal ⟨t',aI [p.ns.v,p.az.v,p.fs.v]::O1::O2::J⟩) :
  Ex (aM aR S m) d ah m (i209.body.sub [1,1,1,1,0]) K ⟨t,[aI [p.ns.v,p.az.v,p.fs.v],O1,O2]⟩:=by
 simp only[zb,zc]at af
 simp only[i209,IC.sub,V0,Xb]
 refine ze (fun jj st=>∃(i:Nat)(J:aU)(lv:IV),p.az.l.length-i<=jj/\i<=p.az.l.length/\cg aL 1 d 3 J lv ((p.az.l.take i).flatMap (cV node))/\st.aa=aI [p.ns.v,p.az.v,p.fs.v]::O1::O2::J/\aN 127 st.t [(1,aG aH node),(2,.ptrM d 0 0),(5,.ptrM d 2 0),(7,lv),(8,iv i)]) p.az.l.length Ω ⟨0,[],.nilsl,Ω,Ω,.inl ⟨rfl,rfl⟩,rfl,by simp only[V0,Xa,Xe,af,eU]⟩ ?_
 clear af
 rintro jj ⟨t,aa⟩ KA ⟨i,J,lv,hjj,hi,hO,ho,af⟩ bV cS dA
 dsimp only at ho af
 subst ho
 simp only[V3]at af
 by_cases h:i<p.az.l.length
 rotate_left
 ·simp only[V0,Xa,Xe,af,h]
  refine cS _ _ ?_
  simp only[V0]
  rw[gj Ω]at hO
  exact hK _ J lv hO (by simp only[V0,Xe,af])
 obtain⟨x,hx⟩:=gx (l:=p.az.l) (i:=i) h
 have sE:bM (p.az.l.flatMap Ac.c) (i*6) 1=some [aG aH x.id]:=(zd Ac.aZ 0 1 hx Ω).trans rfl
 have qm:bM (p.az.l.flatMap Ac.c) (i*6+1) 1=some [aG aH x.fr]:=(zd Ac.aZ 1 1 hx Ω).trans rfl
 have hr2:bM (p.az.l.flatMap Ac.c) (i*6+2) 1=some [aG aH x.to]:=(zd Ac.aZ 2 1 hx Ω).trans rfl
 have hw:=zq i
 have sS:(p.az.l.take (i+1)).flatMap (cV node)=(p.az.l.take i).flatMap (cV node)++cV node x:=by rw[zt hx,B6];simp
 have qD:((p.az.l.take i).flatMap (cV node)).length<=2*i:=by
  have:∀ l:List Ac,(l.flatMap (cV node)).length<=2*l.length:=fun l=>by
   induction l with
   |nil=>simp
   |cons a l ih =>
    rw[fJ,eR,cu]
    have:(cV node a).length<=2:=by unfold cV;split<;>split<;>simp
    omega
  have h1:=this (p.az.l.take i);rw[k8]at h1;omega
 have one:∀(z:Int)(J R:aU)(lv:IV)(xs:List Int)(n0:Nat),cg aL 1 d 3 J lv xs->xs.length<=300000->n0=J.length+R.length+1+1+1->∃ e dR J2,bh d n0 (look d ah (aI [p.ns.v,p.az.v,p.fs.v]::O1::O2::(J++(R++[.free])))) (aI [p.ns.v,p.az.v,p.fs.v]::O1::O2::(J++(R++[.free]))) 1 lv [aG aH z] 1 0=some (e,dR,aI [p.ns.v,p.az.v,p.fs.v]::O1::O2::J2)/\cg aL 1 d 3 J2 dR (xs++[z]):=fun z J R lv xs n0 hO hx hn=>by have:=zM (Pre:=[aI [p.ns.v,p.az.v,p.fs.v],O1,O2]) (n0:=n0) (slot:=0) (k:=R.length) (ah:=ah) (R:=R++[.free]) zf hO (ys:=[z]) Ψ (by simp only[cu,dw];omega) (by simp only[cu,dw];omega) (by rw[jd (dz _),rM];rfl) rfl;simp only[gQ,gM,fJ,lz,aL,zg,cu,dw,iL,fO]at this;exact this
 have step:∀(t:List IV)(J:aU)(lv:IV),cg aL 1 d 3 J lv ((p.az.l.take (i+1)).flatMap (cV node))->aN 127 t [(1,aG aH node),(2,.ptrM d 0 0),(5,.ptrM d 2 0),(7,lv),(8,aG aH ((i+1:Nat):Int))]->KA .normal ⟨t,aI [p.ns.v,p.az.v,p.fs.v]::O1::O2::J⟩:=fun t J lv hO ht=>bV _ (p.az.l.length-(i+1)) Ω ⟨i+1,J,lv,Ω,Ω,hO,rfl,ht⟩
 rw[sS]at step
 cases g1:x.fr==node
 ·cases g2:x.to==node
  ·have Uo:cV node x=[]:=by simp[cV,g1,g2]
   rw[Uo]at step
   simp only[V0,Xa,Xe,za p.az h, *]
   exact step _ J lv (by simpa using hO) (by simp only[V0,Xa,Xe,af])
  ·have Uo:cV node x=[jg x.id]:=by simp[cV,g1,g2]
   rw[Uo]at step
   obtain⟨e,dR,J2,b9,dX⟩:=one (jg x.id) J [] lv _ (J.length+1+1+1) hO Ω Ψ
   simp only[gM,jg]at b9
   simp only[V0,Xa,Xe,za p.az h,rep,zh,zk,zo,zu, *]
   exact step _ J2 dR (by simpa using dX) (by simp only[V0,Xa,Xe,af])
 ·obtain⟨e,dR,J2,b9,dX⟩:=one x.id J [] lv _ (J.length+1+1+1) hO Ω Ψ
  simp only[gM]at b9
  cases g2:x.to==node
  ·have Uo:cV node x=[x.id]:=by simp[cV,g1,g2]
   rw[Uo]at step
   simp only[V0,Xa,Xe,za p.az h,rep,zh,zk,zo,zu, *]
   exact step _ J2 dR (by simpa using dX) (by simp only[V0,Xa,Xe,af])
  ·have Uo:cV node x=[x.id,jg x.id]:=by simp[cV,g1,g2]
   rw[Uo]at step
   obtain⟨e2,uH,J3,ad8,Ur⟩:=one (jg x.id) J2 [] dR _ (J2.length+1+1+1) dX (by rw[eR,cu,dw];omega) Ψ
   simp only[gM,jg]at ad8
   simp only[V0,Xa,Xe,za p.az h,rep,zh,zk,zo,zu, *]
   exact step _ J3 uH (by simpa using Ur) (by simp only[V0,Xa,Xe,af])
end
def u6(n s t:Int):Int:=bif decide (0<=s)&&(decide (s<=n)&&(decide (0<=t)&&decide (t<=n)))then 1 else 0
def tO(a b c d:Pt):Int:=bif pI a b c d==0 then(bif (pI a b a c != 0)||((pI a b a d != 0)||((pI c d c a != 0)||(pI c d c b != 0)))then 0 else dQ a b c d)else
 bif decide (pI a b c d<0)then u6 (aT .i64 (0-pI a b c d)) (aT .i64 (0-pI a c c d)) (aT .i64 (0-pI a c a b))else u6 (pI a b c d) (pI a c c d) (pI a c a b)
def dH(a b c d:Pt):Int:=bif [a,b,c,d].all bl then(bif eO a b&&(eO c d&&!eO a c)then 0 else tO a b c d)else 0
section
variable {S:cZ}
theorem RJ(hS:bN S)(a b c d:Pt){m dd:Nat}{ah:bR}(hm:8<=m){K:fP}(t:List IV)(af:aN 108 t [(4,.ptrM dd 0 0),(5,.ptrM dd 1 0),(6,.ptrM dd 2 0),(7,.ptrM dd 3 0)])
  (hK:∀ t' O',aN 108 t' [(8,aG aH (tO a b c d))]->K .ret ⟨t',O'⟩) :
  Ex (aM aR S m) dd ah m (i160.body.sub [1,1,1]) K ⟨t,aI [aG aH a.x,aG aH a.y]::aI [aG aH b.x,aG aH b.y]::aI [aG aH c.x,aG aH c.y]::aI [aG aH d.x,aG aH d.y]::[.free]⟩:=by
 simp only[zb,zc]at af
 have jw:∀ z:Int,(z != 0)=!(z==0):=fun z=>rfl
 have cc:∀(u v w z:Pt) dd ah aK aa i,aM aR S m dd ah aK aa i 206 [.agg [aG aH u.x,aG aH u.y],.agg [aG aH v.x,aG aH v.y],.agg [aG aH w.x,aG aH w.y],.agg [aG aH z.x,aG aH z.y]]=some (.r,aG aH (pI u v w z),aa):=fun u v w z dd ah aK aa i=>zff hS u v w z m Ω dd ah aK aa i
 have ch:=fun dd ah aK aa i=>ME hS a b c d m Ω dd ah aK aa i
 simp only[Pt.c,zg]at ch
 unfold tO at hK
 cases h0:pI a b c d==0
 ·rw[h0]at hK
  simp only[bL]at hK
  cases h1:decide (pI a b c d<0)
  ·rw[h1]at hK
   simp only[bL]at hK
   generalize hn:pI a b c d=n at *
   generalize hs:pI a c c d=s at *
   generalize ht:pI a c a b=w at *
   cases g1:decide (0<=s)
   ·simp only[i160,IC.sub,V0,seval,mM, *]
    exact hK _ _ (by simp only[V0,seval,af,u6,g1,ew,bL])
   ·cases g2:decide (s<=n)
    ·simp only[i160,IC.sub,V0,seval,mM, *]
     exact hK _ _ (by simp only[V0,seval,af,u6,g1,g2,ew,bL])
    ·cases g3:decide (0<=w)
     ·simp only[i160,IC.sub,V0,seval,mM, *]
      exact hK _ _ (by simp only[V0,seval,af,u6,g1,g2,g3,ew,bL])
     ·cases g4:decide (w<=n)
      ·simp only[i160,IC.sub,V0,seval,mM, *]
       exact hK _ _ (by simp only[V0,seval,u6,bL, *])
      ·simp only[i160,IC.sub,V0,seval,mM, *]
       exact hK _ _ (by simp only[V0,seval,u6,bT, *])
  ·rw[h1]at hK
   simp only[bT]at hK
   generalize hn:pI a b c d=n at *
   generalize hs:pI a c c d=s at *
   generalize ht:pI a c a b=w at *
   generalize hn2:aT .i64 (0-n)=n2 at *
   generalize hs2:aT .i64 (0-s)=s2 at *
   generalize ht2:aT .i64 (0-w)=w2 at *
   cases g1:decide (0<=s2)
   ·simp only[i160,IC.sub,V0,seval,mM, *]
    exact hK _ _ (by simp only[V0,seval,af,u6,g1,ew,bL])
   ·cases g2:decide (s2<=n2)
    ·simp only[i160,IC.sub,V0,seval,mM, *]
     exact hK _ _ (by simp only[V0,seval,af,u6,g1,g2,ew,bL])
    ·cases g3:decide (0<=w2)
     ·simp only[i160,IC.sub,V0,seval,mM, *]
      exact hK _ _ (by simp only[V0,seval,af,u6,g1,g2,g3,ew,bL])
     ·cases g4:decide (w2<=n2)
      ·simp only[i160,IC.sub,V0,seval,mM, *]
       exact hK _ _ (by simp only[V0,seval,u6,bL, *])
      ·simp only[i160,IC.sub,V0,seval,mM, *]
       exact hK _ _ (by simp only[V0,seval,u6,bT, *])
 ·rw[h0]at hK
  simp only[bT,jw]at hK
  cases g1:pI a b a c==0
  ·simp only[i160,IC.sub,V0,seval, *]
   exact hK _ _ (by simp only[V0,seval,af,g1,iY,bT])
  ·cases g2:pI a b a d==0
   ·simp only[i160,IC.sub,V0,seval, *]
    exact hK _ _ (by simp only[V0,seval,af,g1,g2,iS,iY,bT])
   ·cases g3:pI c d c a==0
    ·simp only[i160,IC.sub,V0,seval, *]
     exact hK _ _ (by simp only[V0,seval,af,g1,g2,g3,iS,iY,bT])
    ·cases g4:pI c d c b==0
     ·simp only[i160,IC.sub,V0,seval, *]
      exact hK _ _ (by simp only[V0,seval,iS,bT, *])
     ·simp only[i160,IC.sub,V0,seval, *]
      exact hK _ _ (by simp only[V0,seval,iS,bL, *])
theorem J9(hS:bN S)(a b c d:Pt):aP S 14 160 [.agg a.c,.agg b.c,.agg c.c,.agg d.c] (aG aH (dH a b c d)):=by
 refine gv i160 hS (13) zn fun m hm dd ah t af=>?_;simp only[V2,Xb,i160,Pt.c]at af;have c0:=fun dd ah aK aa i=>BH hS [a,b,c,d] Ψ m (by simp;omega) dd ah aK aa i;simp only[fJ,lz,Pt.c,gQ,gM,zg,cu,dw,fO,Xb]at c0;have fin:=fun(K:fP) t=>RJ hS a b c d (m:=m) (dd:=dd) (ah:=ah) Ω (K:=K) t;have q1:(true != false)=true:=rfl;have q2:(true != true)=false:=rfl;rw[show i160.body=.seq (i160.body.sub [0]) (.seq (i160.body.sub [1,0]) (.seq (i160.body.sub [1,1,0]) (i160.body.sub [1,1,1])))from rfl];generalize hB:i160.body.sub [1,1,1]=B at fin ⊢;unfold dH;cases hb:[a,b,c,d].all bl
 ·simp only[hb]at c0;simp only[i160,IC.sub,V0,seval,af,YO,c0,bL]
 ·simp only[hb]at c0;cases h1:eO a b
  ·have h1':(a.x==b.x&&a.y==b.y)=false:=h1;simp only[i160,IC.sub,V0,seval,af,YO,c0,zP,h1',j3];refine fin _ _ cD fun t' O' ht=>?_;simp only[zb,zc]at ht;simp only[V0,seval,ht,ew,bL,bT]
  ·have h1':(a.x==b.x&&a.y==b.y)=true:=h1;cases h2:eO c d
   ·have h2':(c.x==d.x&&c.y==d.y)=false:=h2;simp only[i160,IC.sub,V0,seval,af,YO,c0,zP,h1',h2',j3];refine fin _ _ cD fun t' O' ht=>?_;simp only[zb,zc]at ht;simp only[V0,seval,ht,ew,bL,bT]
   ·have h2':(c.x==d.x&&c.y==d.y)=true:=h2;cases h3:eO a c
    ·have h3':(a.x==c.x&&a.y==c.y)=false:=h3;simp only[i160,IC.sub,V0,seval,YO,zP,j3,bT, *]
    ·have h3':(a.x==c.x&&a.y==c.y)=true:=h3;simp only[i160,IC.sub,V0,seval,YO,zP,j3, *];refine fin _ _ cD fun t' O' ht=>?_;simp only[zb,zc]at ht;simp only[V0,seval,ht,bL,bT]
end
section
variable {S:cZ}
theorem RE(hS:bN S)(p:Pt):aP S 2 126 [.agg p.c] (.bool (!fC p)):=by
 refine gv i126 hS (1) zj fun m hm d ah t af=>?_;simp only[slotsOf,zb,zc,i126,Pt.c]at af;have hle:∀ a b:Int,decide (a<b)=!decide (b<=a):=fun a b=>by rw[←decide_not];exact decide_eq_decide.2 Int.not_le.symm
 have e:fC p=!(decide (-1048576<=p.x)&&(decide (p.x<=1048576)&&(decide (-1048576<=p.y)&&decide (p.y<=1048576)))):=by unfold fC;simp only[hle,Bool.not_and]
 rw[e,Bool.not_not];cases h1:decide (-1048576<=p.x)
 ·simp only[i126,V0,seval,af,mM,h1,ew]
 ·cases h2:decide (p.x<=1048576)
  ·simp only[i126,V0,seval,af,mM,h1,h2,ew]
  ·cases h3:decide (-1048576<=p.y)
   ·simp only[i126,V0,seval,af,mM,h1,h2,h3,ew]
   ·simp only[i126,V0,seval,af,mM,h1,h2,h3]
theorem Hp(hS:bN S)(l:aS 1 aL):aP S (l.l.length+4) 83 [l.v] (.bool (dP l.l)):=by
 refine wJ (i:=i83) (ns hS) rfl (by first|exact .inl rfl|exact .inr rfl) (lb rfl) (l.l.length+3) Ω zj (fun _=>rfl) (fun d aa=>by simp only[rO,Cc,zdx 10 d aa l,tC,uG,jG]) fun m hm d ah t af=>?_
 simp only[slotsOf,zb,zc,i83]at af;have hlf:=l.gC;simp only[i83,V0,seval];refine ze (fun jj st=>∃(i:Nat)(O:aU),l.l.length-i<=jj/\(1<=i/\i<=l.l.length+1)/\rK l.l i/\st.aa=O/\aN 20 st.t [(0,l.v),(3,iv i)]) l.l.length Ω ⟨1,[],Ω,Ω,fun i x y h _ _=>by omega,rfl,by simp only[V0,seval,af,Xx]⟩ ?_;rintro jj ⟨t,aa⟩ K ⟨i,O,hjj,hi,ha,ho,af⟩ hn he hr;dsimp only at ho af;subst ho;simp only[V3]at af;by_cases h:i<l.l.length
 ·obtain⟨x,hx⟩:=gx (l:=l.l) (i:=i) h;have h0:i-1<l.l.length:=Ω;obtain⟨y,hy⟩:=gx (l:=l.l) (i:=i-1) h0;have kM:bM (l.l.flatMap aL) (i*1) 1=some [aG aH x]:=zd zf 0 1 hx Ω;have va:bM (l.l.flatMap aL) ((i-1)*1) 1=some [aG aH y]:=zd zf 0 1 hy Ω;have hw:=zq i;have hv:aT .i64 ((i:Int)-1)=((i-1:Nat):Int):=we;by_cases hb:x<=y
  ·simp only[V0,seval,za l h,za l h0,mM,hb, *];refine hr _ ?_;have hf:dP l.l=false:=by rw[←sZ];intro hc;have:=yx.1 hc (i-1) y x Ω hy (by rw[show i-1+1=i by omega];exact hx);omega
   simp only[V0,seval,af,hf]
  ·simp only[V0,seval,za l h,za l h0,mM,hb, *];refine hn _ (l.l.length-(i+1)) Ω ⟨i+1,_,Ω,Ω,?_,rfl,cD⟩;intro j u v hj hu hv;by_cases hj2:j+1<i
   ·exact ha j u v hj2 hu hv
   ·have e:j=i-1:=Ω;subst e;rw[show i-1+1=i by omega]at hv;rw[hy]at hu;rw[hx]at hv;cases hu;cases hv;omega
 ·simp only[V0,seval,af,h];refine he _ _ ?_;have hf:dP l.l=true:=yx.2 fun j u v hj hu hv=>ha j u v Ω hu hv;simp only[V0,seval,af,hf]
theorem xA(hS:bN S)(p:Pn):aP S (p.az.l.length+4) 82 [.agg p.c] (.bool (mU p||nX p)):=by
 refine gv i82 hS (p.az.l.length+3) zj fun m hm d ah t af=>?_;simp only[slotsOf,zb,zc,i82,Pn.c]at af;have Qf:=p.az.gC;simp only[i82,V0,seval,af];refine ze (fun jj st=>∃(i:Nat)(O:aU),p.az.l.length-i<=jj/\i<=p.az.l.length/\(p.az.l.take i).any (fun a=>decide ((64:Int)<(a.via.l.length:Int)))=false/\st.aa=aI [p.ns.v,p.az.v,p.fs.v]::O/\aN 35 st.t [(1,.ptrM d 0 0),(3,iv i)]) p.az.l.length Ω ⟨0,[],Ω,Ω,Ψ,rfl,by simp only[V0,seval,af,eU]⟩ ?_;clear af;rintro jj ⟨t,aa⟩ KA ⟨i,O,hjj,hi,ha,ho,af⟩ bV cS dA;dsimp only at ho af;subst ho;simp only[V3]at af;by_cases h:i<p.az.l.length
 ·obtain⟨x,hx⟩:=gx (l:=p.az.l) (i:=i) h;have hrd:bM (p.az.l.flatMap Ac.c) (i*6+3) 1=some [x.via.v]:=(zd Ac.aZ 3 1 hx Ω).trans rfl;have hw:=zq i;cases hq:decide ((64:Int)<(x.via.l.length:Int))
  ·simp only[V0,seval,za p.az h,eZ, *];exact bV _ (p.az.l.length-(i+1)) Ω ⟨i+1,_,Ω,Ω,zF hx ha hq,rfl,cD⟩
  ·have hlv:nX p=true:=zZ (q:=fun a:Ac=>decide ((64:Int)<(a.via.l.length:Int))) hx hq;simp only[V0,seval,af,h,za p.az h,hrd,eZ,hq];refine dA _ ?_;simp only[V0,seval,af,hlv,Kq]
 ·have hlv:nX p=false:=by unfold nX;rw[←gj (l:=p.az.l) (i:=i) Ω];exact ha
  simp only[V0,seval,af,h];refine cS _ _ ?_;unfold mU;rw[hlv,M5];cases l1:decide ((256:Int)<(p.ns.l.length:Int))
  ·cases l2:decide ((256:Int)<(p.az.l.length:Int))
   ·simp only[V0,seval,af,eZ,l1,l2,iS]
   ·simp only[V0,seval,af,eZ,l1,l2,iS,iY]
  ·simp only[V0,seval,af,eZ,l1,iY]
theorem VB(hS:bN S)(p:Pn)(n:Int):aP S (p.fs.l.length+4) 88 [.agg p.c,iv n] (.bool (qh p.fs.l n||n==0)):=by
 refine gv i88 hS (p.fs.l.length+3) zj fun m hm d ah t af=>?_;simp only[V2,i88,Pn.c,zg]at af;have Qf:=p.fs.gC;simp only[i88,V0,seval,af];refine ze (fun jj st=>∃(i:Nat)(O:aU),p.fs.l.length-i<=jj/\i<=p.fs.l.length/\(p.fs.l.take i).any (fun x=>n==x)=false/\st.aa=aI [p.ns.v,p.az.v,p.fs.v]::O/\aN 22 st.t [(1,iv n),(2,.ptrM d 0 0),(5,iv i)]) p.fs.l.length Ω ⟨0,[],Ω,Ω,Ψ,rfl,by simp only[V0,seval,af,eU]⟩ ?_;clear af;rintro jj ⟨t,aa⟩ KA ⟨i,O,hjj,hi,ha,ho,af⟩ bV cS dA;dsimp only at ho af;subst ho;simp only[V3]at af;by_cases h:i<p.fs.l.length
 ·obtain⟨x,hx⟩:=gx (l:=p.fs.l) (i:=i) h;have hrd:bM (p.fs.l.flatMap aL) (i*1) 1=some [aG aH x]:=zd zf 0 1 hx Ω;have hw:=zq i;have hsw:(n==x)=(x==n):=by rw[nU];simp only[n9];exact eq_comm
  cases hq:x==n
  ·simp only[V0,seval,za p.fs h, *];exact bV _ (p.fs.l.length-(i+1)) Ω ⟨i+1,_,Ω,Ω,zF hx ha (hsw.trans hq),rfl,cD⟩
  ·have hh:qh p.fs.l n=true:=zZ (q:=fun x=>n==x) hx (hsw.trans hq);simp only[V0,seval,af,h,za p.fs h,hrd,hq];refine dA _ ?_;simp only[V0,seval,af,hh,iY]
 ·have hh:qh p.fs.l n=false:=by unfold qh;rw[←gj (l:=p.fs.l) (i:=i) Ω];exact ha
  simp only[V0,seval,af,h];refine cS _ _ ?_;simp only[V0,seval,af,hh,iS]
def afy(a:Ac)(id:Int):Bool:=a.fr==id||a.to==id
theorem Ka(hS:bN S)(a:Ac)(id:Int):aP S 2 161 [.agg a.c,iv id] (.bool (afy a id)):=by
 refine gv i161 hS (1) zj fun m hm d ah t af=>?_;simp only[V2,i161,Ac.c,zg]at af;unfold afy;cases h1:a.fr==id
 ·simp only[i161,V0,seval,af,h1,iS]
 ·simp only[i161,V0,seval,af,h1,iY]
theorem RF(hS:bN S)(p:Pn):aP S (2*p.ns.l.length+8) 86 [.agg p.c] (.bool (kP p.ns.l)):=by
 refine gv i86 hS (2*p.ns.l.length+7) zj fun m hm d ah t af=>?_;simp only[slotsOf,zb,zc,i86,Pn.c]at af;have hnf:=p.ns.gC;simp only[i86,V0,seval,af];refine ze (fun jj st=>∃(i:Nat)(O:aU),p.ns.l.length-i<=jj/\i<=p.ns.l.length/\(p.ns.l.zipIdx.take i).any (fun ni=>(p.ns.l.take ni.2).any fun m=>eO ni.1.at' m.at')=false/\st.aa=aI [p.ns.v,p.az.v,p.fs.v]::O/\aN 30 st.t [(1,.ptrM d 0 0),(3,iv i)]) p.ns.l.length Ω ⟨0,[],Ω,Ω,Ψ,rfl,by simp only[V0,seval,af,eU]⟩ ?_;rintro jj ⟨t,aa⟩ KA ⟨i,O,hjj,hi,ha,ho,af⟩ bV cS dA;dsimp only at ho af;subst ho;simp only[V3]at af;by_cases h:i<p.ns.l.length
 ·obtain⟨x,hx⟩:=gx (l:=p.ns.l) (i:=i) h;have hxz:p.ns.l.zipIdx[i]?=some (x,i):=by rw[znn,hx];simp
  have hrd:bM (p.ns.l.flatMap Nd.c) (i*3+1) 2=some [aG aH x.at'.x,aG aH x.at'.y]:=(zd Nd.aZ 1 2 hx Ω).trans rfl;have hw:=zq i;simp only[V0,seval,af,h];refine ze (fun jj st=>∃(k:Nat)(R:aU),i-k<=jj/\k<=i/\(p.ns.l.take k).any (fun m=>eO x.at' m.at')=false/\st.aa=aI [p.ns.v,p.az.v,p.fs.v]::R/\aN 30 st.t [(1,.ptrM d 0 0),(3,iv i),(4,iv k)]) i Ω ⟨0,_,Ω,Ω,Ψ,rfl,by simp only[V0,seval,af,eU]⟩ ?_;clear af;rintro jj2 ⟨t,aa⟩ KB ⟨k,R,hjk,hk,hb,ho,af⟩ jo lX mE;dsimp only at ho af;subst ho;simp only[V3]at af;by_cases h2:k<i
  ·have nP:k<p.ns.l.length:=Ω;obtain⟨y,hy⟩:=gx (l:=p.ns.l) (i:=k) nP;have va:bM (p.ns.l.flatMap Nd.c) (k*3+1) 2=some [aG aH y.at'.x,aG aH y.at'.y]:=(zd Nd.aZ 1 2 hy Ω).trans rfl;have hwk:=zq k;cases hq:eO x.at' y.at'
   ·have tU:=hq;unfold eO at tU;simp only[V0,seval,za p.ns h,za p.ns nP,zP,j3, *];exact jo _ (i-(k+1)) Ω ⟨k+1,_,Ω,Ω,zF hy hb hq,rfl,cD⟩
   ·have tU:=hq;unfold eO at tU;simp only[V0,seval,za p.ns h,za p.ns nP,zP,j3, *];refine mE _ ?_;simp only[V0,seval];refine dA _ ?_;have hf:kP p.ns.l=true:=by refine zZ hxz ?_;show(p.ns.l.take i).any (fun m=>eO x.at' m.at')=true;exact zZ (q:=fun m=>eO x.at' m.at') (show(p.ns.l.take i)[k]?=some y by rw[Fq,bt h2];exact hy) hq
    simp only[V0,seval,af,hf]
  ·simp only[V0,seval,af,h2];refine lX _ _ ?_;simp only[V0,seval,af,hw];have hki:k=i:=Ω;subst hki;exact bV _ (p.ns.l.length-(k+1)) Ω ⟨k+1,_,Ω,Ω,zF hxz ha hb,rfl,cD⟩
 ·have hdup:kP p.ns.l=false:=by unfold kP;rw[←gj (l:=p.ns.l.zipIdx) (i:=i) (by rw[zn2];omega)];exact ha
  simp only[V0,seval,af,h];refine cS _ _ ?_;simp only[V0,seval,af,hdup]
end
def Sk(xs:List Int)(d id:Nat)(aa:aU)(r:eV×IV×aU):Prop:=(xs=[]/\r=(.r,.nilsl,aa))∨(xs≠[]/\r=(.a,.slM d id 0 xs.length xs.length 1 false,aa.set id (aI (xs.flatMap aL))))
theorem Dv{n d:Nat}{o:aU}:∀ xs:List Int,(xs.flatMap aL).mapM (freeze (n+1) d o)=some (xs.flatMap aL)
 |[]=>rfl
 |x::xs=>by have ih:=Dv (n:=n) (d:=d) (o:=o) xs;have f:freeze (n+1) d o (iv x)=some (iv x):=rfl;rw[fJ];simp only[aL,gQ,gM,rO,f,ih,tC,uG,jG]
theorem Gh{n d id:Nat}{Pre J aa:aU}{lv:IV}{xs:List Int}(h:cg aL 1 (d+1) Pre.length J lv xs)(hid:aa[id]?=some .free):∃ r,leave (n+1) d (Pre++J) aa id 1 lv=some r/\Sk xs d id aa r:=by
 rcases h with⟨rfl,rfl⟩|⟨b,hne,rfl,h2⟩
 ·exact⟨_,rfl,.inl ⟨rfl,rfl⟩⟩
 ·have iP:seg (xs.flatMap aL) 0 (xs.length*1)=some (xs.flatMap aL):=by unfold seg;rw[zi,zl zf,bt Ω,BV,gj (by rw[zl zf];exact dz _)]
  refine⟨_,?_,.inr ⟨hne,rfl⟩⟩;unfold leave;simp only[if_true,handed,zJ,h2,iP,Dv,dU,hid,zi]
section
variable {S:cZ}
def iD(p:Pn)(jR:Bool):List Int:=bif jR then p.az.l.map Ac.id else p.ns.l.map Nd.id
theorem RL(hS:bN S)(p:Pn)(h1:p.ns.l.length<=1000000)(h2:p.az.l.length<=1000000)(jR:Bool){m d id:Nat}{ah:bR}{aK aa:aU}(hm:p.ns.l.length+p.az.l.length+10<=m)(hid:aa[id]?=some .free):∃ r,aM aR S m d ah aK aa id 84 [.agg p.c,.bool jR]=some r/\Sk (iD p jR) d id aa r:=by
 obtain⟨m,rfl⟩:=me m 2;refine yz (i:=i84) (ns hS) rfl Δ (lb rfl) fun t af=>?_;simp only[V2,i84,Pn.c]at af;generalize(fun l=>if l=d then aK else ah l:bR)=cQ
 have fin:∀(t':List IV)(J:aU)(lv:IV),cg aL 1 (d+1) 1 J lv (iD p jR)->aN 48 t' [(4,lv)]->(Out.ret=.normal∨Out.ret=.ret)/\∃ v r,bP (d+1) cQ ⟨t',aI [p.ns.v,p.az.v,p.fs.v]::J⟩ i84.res=some v/\leave (m+1) d (aI [p.ns.v,p.az.v,p.fs.v]::J) aa id i84.mode v=some r/\Sk (iD p jR) d id aa r:=fun t' J lv hO ht=>by simp only[zb,zc]at ht;obtain⟨r,qm,hr2⟩:=Gh (n:=m) (Pre:=[aI [p.ns.v,p.az.v,p.fs.v]]) hO hid;refine⟨.inr rfl,lv,r,?_,qm,hr2⟩;simp only[i84,V0,seval,ht]
 suffices kY:∀ K:fP,(∀(t':List IV)(J:aU)(lv:IV),cg aL 1 (d+1) 1 J lv (iD p jR)->aN 48 t' [(4,lv)]->K .ret ⟨t',aI [p.ns.v,p.az.v,p.fs.v]::J⟩)->Ex (aM aR S (m+1)) (d+1) cQ (m+1) i84.body K ⟨t,[]⟩from kY _ fin
 clear fin;intro K fin;simp only[i84,V0,seval,af];refine ze (fun jj st=>∃(i:Nat)(J:aU)(lv:IV),p.ns.l.length-i<=jj/\i<=p.ns.l.length/\(jR=true->i=0)/\cg aL 1 (d+1) 1 J lv ((p.ns.l.take i).map Nd.id)/\st.aa=aI [p.ns.v,p.az.v,p.fs.v]::J/\aN 48 st.t [(1,.bool jR),(2,.ptrM (d+1) 0 0),(5,lv),(6,iv i)]) p.ns.l.length Ω ⟨0,[],.nilsl,Ω,Ω,fun _=>rfl,.inl ⟨Ψ,rfl⟩,rfl,by simp only[V0,seval,af,eU]⟩ ?_;clear af;rintro jj ⟨t,bO⟩ KA ⟨i,J,lv,hjj,hi,qg,hO,ho,af⟩ bV cS dA;dsimp only at ho af;subst ho;simp only[V3]at af;have next:∀(t:List IV)(J:aU)(lv:IV),cg aL 1 (d+1) 1 J lv (if jR=true then[]else p.ns.l.map Nd.id)->aN 48 t [(1,.bool jR),(2,.ptrM (d+1) 0 0),(5,lv),(6,iv i)]->KA (.exit 0) ⟨t,aI [p.ns.v,p.az.v,p.fs.v]::J⟩:=by
  clear af hO lv J t bV dA;intro t J lv hO af;simp only[V3]at af;refine cS _ _ ?_;simp only[V0,seval];refine ze (fun jj st=>∃(i:Nat)(J:aU)(lv:IV),p.az.l.length-i<=jj/\i<=p.az.l.length/\(jR=false->i=0)/\cg aL 1 (d+1) 1 J lv (if jR=true then(p.az.l.take i).map Ac.id else p.ns.l.map Nd.id)/\st.aa=aI [p.ns.v,p.az.v,p.fs.v]::J/\aN 48 st.t [(1,.bool jR),(2,.ptrM (d+1) 0 0),(5,lv),(7,iv i)]) p.az.l.length Ω ⟨0,J,lv,Ω,Ω,fun _=>rfl,by cases jR<;>simpa using hO,rfl,by simp only[V0,seval,af,eU]⟩ ?_
  clear af hO lv J t cS;rintro jj ⟨t,bO⟩ KB ⟨i,J,lv,hjj,hi,qg,hO,ho,af⟩ jo lX mE;dsimp only at ho af;subst ho;simp only[V3]at af;cases jR with
  |false =>
   by_cases h:i<p.az.l.length
   ·simp only[V0,seval,af,h]
    refine lX _ _ ?_
    simp only[V0,seval,af]
    exact fin _ _ lv hO cD
   ·simp only[V0,seval,af,h]
    refine lX _ _ ?_
    simp only[V0,seval,af]
    exact fin _ _ lv hO cD
  |true =>
   by_cases h:i<p.az.l.length
   ·obtain⟨x,hx⟩:=gx (l:=p.az.l) (i:=i) h
    have hrd:bM (p.az.l.flatMap Ac.c) (i*6) 1=some [aG aH x.id]:=(zd Ac.aZ 0 1 hx Ω).trans rfl
    have hw:=zq i
    rw[bt rfl]at hO
    have au:((p.az.l.take i).map Ac.id).length=i:=by rw[ig,k8,qu Ω]
    obtain⟨e,dR,J2,b9,dX⟩:=zM (Pre:=[aI [p.ns.v,p.az.v,p.fs.v]]) (n0:=J.length+1) (slot:=0) (k:=0) (ah:=cQ) (R:=[.free]) zf hO (ys:=[x.id]) Ψ (by simp only[au,cu,dw];omega) (by simp only[cu,dw];omega) rfl rfl
    simp only[gQ,gM,fJ,lz,aL,zg,cu,dw,iL,fO]at b9
    rw[←map_take (f:=Ac.id) hx]at dX
    simp only[V0,seval,za p.az h,rep,zh,zk,zo,zu, *]
    exact jo _ (p.az.l.length-(i+1)) Ω ⟨i+1,J2,dR,Ω,Ω,fun h=>by(cases h),by rw[bt rfl];exact dX,rfl,cD⟩
   ·simp only[V0,seval,af,h]
    refine lX _ _ ?_
    simp only[V0,seval,af]
    rw[bt rfl,gj Ω]at hO
    exact fin _ _ lv hO cD
 cases jR with
 |true =>
  have wG:cg aL 1 (d+1) 1 J lv (if true=true then[]else p.ns.l.map Nd.id):=by rw[qg rfl]at hO;simpa using hO
  by_cases h:i<p.ns.l.length
  ·simp only[V0,seval,af,h]
   exact next _ _ lv wG cD
  ·simp only[V0,seval,af,h]
   exact next _ _ lv wG cD
 |false =>
  by_cases h:i<p.ns.l.length
  ·obtain⟨x,hx⟩:=gx (l:=p.ns.l) (i:=i) h
   have hrd:bM (p.ns.l.flatMap Nd.c) (i*3) 1=some [aG aH x.id]:=(zd Nd.aZ 0 1 hx Ω).trans rfl
   have hw:=zq i
   have au:((p.ns.l.take i).map Nd.id).length=i:=by rw[ig,k8,qu Ω]
   obtain⟨e,dR,J2,b9,dX⟩:=zM (Pre:=[aI [p.ns.v,p.az.v,p.fs.v]]) (n0:=J.length+1) (slot:=0) (k:=0) (ah:=cQ) (R:=[.free]) zf hO (ys:=[x.id]) Ψ (by simp only[au,cu,dw];omega) (by simp only[cu,dw];omega) rfl rfl
   simp only[gQ,gM,fJ,lz,aL,zg,cu,dw,iL,fO]at b9
   rw[←map_take (f:=Nd.id) hx]at dX
   simp only[V0,seval,za p.ns h,rep,zh,zk,zo,zu, *]
   exact bV _ (p.ns.l.length-(i+1)) Ω ⟨i+1,J2,dR,Ω,Ω,fun h=>by(cases h),dX,rfl,cD⟩
  ·simp only[V0,seval,af,h]
   rw[gj Ω]at hO
   exact next _ _ lv (by simpa using hO) cD
theorem DY{n d i off len cap sz:Nat}{t:Bool}{aa:aU}{c:List IV}(h:aa[i]?=some (aI c)):bA (n+1) d aa (.slM d i off len cap sz t)=((seg c off (len*sz)).bind fun s=>s.mapM (bA n d aa)).map (IV.slC · len sz false):=by
 show (if d=d then match aa[i]? with
    |some (aI c)=>((seg c off (len*sz)).bind fun s=>s.mapM (bA n d aa)).map (IV.slC · len sz false)
    |_=>none
   else none)=_
 rw[bt rfl,h]
theorem J4(hS:bN S){xs:List Int}(hx:xs.length<9223372036854775808){m d b:Nat}{ah:bR}{aK aa:aU}{id:Nat}(hm:xs.length+4<=m)(hb:aK[b]?=some (aI (xs.flatMap aL))):aM aR S m d ah aK aa id 83 [.slM d b 0 xs.length xs.length 1 false]=some (.r,.bool (dP xs),aa):=by
 have iP:seg (xs.flatMap aL) 0 (xs.length*1)=some (xs.flatMap aL):=by unfold seg;rw[zi,zl zf,bt Ω,BV,gj (by rw[zl zf];exact dz _)]
 have hfz:∀ ys:List Int,(ys.flatMap aL).mapM (bA 11 d aK)=some (ys.flatMap aL):=fun ys=>by
  induction ys with
  |nil=>rfl
  |cons y ys ih =>
   have f:bA 11 d aK (iv y)=some (iv y):=rfl
   rw[fJ]
   simp only[aL,gQ,gM,rO,f,ih,tC,uG,jG]
 have Gu:[IV.slM d b 0 xs.length xs.length 1 false].mapM (bA 12 d aK)=[(iV zf xs xs.length false rfl hx).v].mapM (bA 12 d aK):=by
  have h1:bA 12 d aK (.slM d b 0 xs.length xs.length 1 false)=some (iV zf xs xs.length false rfl hx).v:=by rw[DY hb,iP,jG,hfz];rfl
  have h2:bA 12 d aK (iV zf xs xs.length false rfl hx).v=some (iV zf xs xs.length false rfl hx).v:=zdx 10 d aK _;simp only[rO,Cc,h1,h2]
 rw[TV (ns hS) (ns hS) (i:=i83) rfl rfl Gu];exact Hp hS (iV zf xs xs.length false rfl hx) m hm d ah aK aa id
theorem Vp(hS:bN S){m d:Nat}{ah:bR}{aK aa:aU}{id:Nat}(hm:4<=m):aM aR S m d ah aK aa id 83 [.nilsl]=some (.r,.bool true,aa):=Hp hS (lP 1 aL) m hm d ah aK aa id
end
section
variable {α:Type} {g:α->List IV} {sz:Nat}
theorem Gf{d n0 b:Nat}{ah:bR}{vis:List Nat}{aa:aU}(h:b<n0):look d ah (b7 vis n0 aa) d b=aa[b]?:=by
 unfold look;rw[bt rfl,zp];have hc:decide (b<n0)=true:=decide_eq_true h;cases aa[b]? with
 |none=>rfl
 |some o=>simp only[gH,hc,iY,if_true]
theorem Lt(hs:∀ a,(g a).length=sz){d n0 slot k:Nat}{ah:bR}{vis:List Nat}{Pre J R:aU}{lv:IV}{xs ys:List α}(h:cg g sz d Pre.length J lv xs)(hy:ys.length≠0)(hx:xs.length+ys.length<=1073741824)(hn:n0=Pre.length+J.length)(hk:slot=k)(hf:R[k]?=some .free)
  (hsc:(ys.flatMap g).all IV.scalar=true) :
  ∃ e dR J2,bh d n0 (look d ah (b7 vis n0 (Pre++(J++R)))) (Pre++(J++R)) sz lv (ys.flatMap g) ys.length slot=some (e,dR,Pre++J2)/\cg g sz d Pre.length J2 dR (xs++ys)/\(∀ l o n,comm (.rl d l o n) e=true->True):=by
 subst hn hk
 obtain⟨e,dR,J2,h1,h2⟩:=zM (n0:=Pre.length+J.length) (slot:=slot) (k:=slot) (ah:=ah) hs h hy hx Ω hf hsc
 refine⟨e,dR,J2,?_,h2,fun _ _ _ _=>trivial⟩
 rw[←h1]
 rcases h with⟨rfl,rfl⟩|⟨b,hne,rfl,hb⟩
 ·unfold bh
  simp only[bC hy]
 ·have sW:=(cU.1 hb).1
  have e1:look d ah (b7 vis (Pre.length+J.length) (Pre++(J++R))) d (Pre.length+b)=look d ah (Pre++(J++R)) d (Pre.length+b):=by rw[Gf Ω];unfold look;rw[bt rfl]
  unfold bh
  simp only[e1]
end
section
variable {S:cZ}
theorem Hg(hS:bN S)(p:Pn)(ds:List Int)(hl:ds.length<=300000){m d:Nat}{ah:bR}(hm:ds.length+10<=m)(LN:∀ z∈ds,∀ d ah aK aa id,aM aR S m d ah aK aa id 235 [.agg [p.ns.v,p.az.v,p.fs.v],aG aH z]=some (.r,.agg [aG aH (fS p z).x,aG aH (fS p z).y],aa)){K:fP}(t:List IV)(Q:aU)(dv:IV)(pV:Q[0]?=some (aI [p.ns.v,p.az.v,p.fs.v]))(hD:MV aL 1 d Q dv ds)(af:aN 127 t [(2,.ptrM d 0 0),(5,.ptrM d 2 0),(7,dv)])
  (hK:∀ t' J lv,cg Pt.c 2 d Q.length J lv (ds.map (fS p))->aN 127 t' [(2,.ptrM d 0 0),(5,.ptrM d 2 0),(7,dv),(9,lv)]->K .normal ⟨t',Q++J⟩) :
  Ex (aM aR S m) d ah m (.seq (i209.body.sub [1,1,1,1,1,0]) (i209.body.sub [1,1,1,1,1,1,0])) K ⟨t,Q⟩:=by
 simp only[zb,zc]at af
 simp only[i209,IC.sub,V0]
 refine ze (fun jj st=>∃(i:Nat)(J:aU)(lv:IV),ds.length-i<=jj/\i<=ds.length/\cg Pt.c 2 d Q.length J lv ((ds.take i).map (fS p))/\st.aa=Q++J/\aN 127 st.t [(2,.ptrM d 0 0),(5,.ptrM d 2 0),(7,dv),(9,lv),(10,iv i)]) ds.length Ω ⟨0,[],.nilsl,Ω,Ω,.inl ⟨Ψ,rfl⟩,Ψ,by simp only[V0,Xa,Xe,af,eU]⟩ ?_
 clear af
 rintro jj ⟨t,aa⟩ KA ⟨i,J,lv,hjj,hi,hO,ho,af⟩ bV cS dA
 dsimp only at ho af
 subst ho
 simp only[V3]at af
 have hlen:=fun{D:Nat}{ah:bR}{aK aa:aU}=>hD.len (D:=D) (ah:=ah) (aK:=aK) (aa:=aa)
 by_cases h:i<ds.length
 rotate_left
 ·simp only[V0,Xa,Xe,af,hlen,h]
  refine cS _ _ ?_
  simp only[V0]
  rw[gj Ω]at hO
  exact hK _ J lv hO (by simp only[V0,Xe,af])
 rcases hD with⟨rfl,rfl⟩|⟨b,hne,rfl,hb⟩
 ·simp at h
 have hx:ds[i]?=some ds[i]:=cK h
 have cz:=LN _ (gU h)
 generalize ds[i]=z at hx cz
 have kM:bM (ds.flatMap aL) (i*1) 1=some [aG aH z]:=zd zf 0 1 hx Ω
 have hw:=zq i
 have au:((ds.take i).map (fS p)).length=i:=by rw[ig,k8,qu Ω]
 obtain⟨e,dR,J2,b9,dX,-⟩:=Lt (n0:=Q.length+J.length) (slot:=1) (k:=1) (ah:=ah) (vis:=[0]) (R:=[.free,.free]) Pt.aZ hO (ys:=[fS p z]) Ψ (by simp only[au,cu,dw];omega) rfl rfl rfl rfl
 simp only[fJ,lz,Pt.c,zg,cu,dw,iL,fO]at b9
 rw[show(ds.take i).map (fS p)++[fS p z]=(ds.take (i+1)).map (fS p) by rw[zt hx,E6];rfl]at dX
 have cI2:∀(lk:Nat->Nat->Option aO)(a b:IV),cB lk 2 (.slC [a,b] 1 2 true)=some ([a,b],1):=fun lk a b=>rfl
 simp only[V0,Xa,Xb,Xe,zm,Ys pV,Ys hb,rep,zh,zk,zo, *]
 exact bV _ (ds.length-(i+1)) Ω ⟨i+1,J2,dR,Ω,Ω,dX,rfl,by simp only[V0,Xa,Xe,af]⟩
end
def qB{α:Type}(lt:α->α->Bool)(l:List α)(x:α)(n:Nat):Nat:=((l.take n).filter fun y=>lt y x).length
theorem La{α:Type}{lt:α->α->Bool}{l:List α}{x y:α}{n:Nat}(h:l[n]?=some y):qB lt l x (n+1)=qB lt l x n+(if lt y x=true then 1 else 0):=by unfold qB;rw[zt h,E9,eR];cases hh:lt y x<;>simp[hh]
theorem Tz{α:Type}{lt:α->α->Bool}{l:List α}{x:α}{n:Nat}:qB lt l x n<=n:=by unfold qB;have:=XH (fun y=>lt y x) (l.take n);rw[k8]at this;omega
def s7{α:Type}(lt:α->α->Bool)(l:List α):List Nat:=l.map fun x=>qB lt l x l.length
def pick{β:Type}(ds:List β)(rk:List Nat)(r:Nat):Option β:=(rk.findIdx? fun x=>x==r).bind fun i=>ds[i]?
def kD{β:Type}(ds:List β)(rk:List Nat):Nat->Option (List β)
 |0=>some []
 |r+1=>(kD ds rk r).bind fun l=>(pick ds rk r).map fun x=>l++[x]
theorem vM{β:Type}{ds:List β}{rk:List Nat}:∀{r:Nat}{l:List β},kD ds rk r=some l->l.length=r
 |0,l,h=>by simp only[kD,fZ]at h;subst h;rfl
 |r+1,l,h=>by
  simp only[kD]at h;cases h1:kD ds rk r with
  |none=>rw[h1]at h;simp at h
  |some l0 =>
   rw[h1,jG]at h
   cases h2:pick ds rk r with
   |none=>rw[h2]at h;simp at h
   |some x =>
    rw[h2]at h
    simp only[gH,fZ]at h
    subst h
    rw[eR,vM h1]
    rfl
theorem zfi{β:Type}{ds:List β}{rk:List Nat}{r:Nat}(h:kD ds rk r=none):∀ k,kD ds rk (r+k)=none
 |0=>h
 |k+1=>by have ih:=zfi h k;rw[←uO];simp only[kD,ih,Option.bind_none]
def Ak{β:Type}(ds:List β)(rk:List Nat):List β:=(kD ds rk ds.length).getD []
section
variable {S:cZ}
theorem J8(hS:bN S)(c:Pt)(to:List Pt)(hl:to.length<=300000){m d:Nat}{ah:bR}(hm:to.length+12<=m){K:fP}(t:List IV)(Q J:aU)(tv dv lv:IV)(ds:List Int)(hdl:ds.length=to.length)(i:Nat)(x:Pt)(hx:to[i]?=some x)(n0:Int)
  (Qh:Q[2]?=some (aI [aG aH n0,aG aH c.x,aG aH c.y])) (hD:MV aL 1 d Q dv ds) (hT:MV Pt.c 2 d Q tv to) (af:aN 127 t [(5,.ptrM d 2 0),(7,dv),(9,tv),(11,lv),(12,iv i)])
  (hK:∀ t' R,aN 127 t' [(5,.ptrM d 2 0),(7,dv),(9,tv),(11,lv),(12,iv i),(13,iv (qB (gu c) to x to.length:Nat))]->K .normal ⟨t',Q++(J++R)⟩) :
  Ex (aM aR S m) d ah m (.seq (i209.body.sub [1,1,1,1,1,1,1,1,0,0,0,1,0,1,0,0,1,0,0,0]) (i209.body.sub [1,1,1,1,1,1,1,1,0,0,0,1,0,1,0,0,1,0,0,1,0])) K ⟨t,Q++J⟩:=by
 simp only[V3]at af
 simp only[i209,IC.sub,V0]
 refine ze (fun jj st=>∃(k:Nat)(R:aU),to.length-k<=jj/\k<=to.length/\st.aa=Q++(J++R)/\aN 127 st.t [(5,.ptrM d 2 0),(7,dv),(9,tv),(11,lv),(12,iv i),(13,iv (qB (gu c) to x k:Nat)),(14,iv k)]) to.length Ω ⟨0,[],Ω,Ω,Ψ,by simp only[V0,Xa,Xe,af,eU];rfl⟩ ?_
 clear af
 rintro jj ⟨t,aa⟩ KA ⟨k,R,hjj,hk,ho,af⟩ bV cS dA
 dsimp only at ho af
 subst ho
 simp only[V3]at af
 have hlen:=fun{D:Nat}{ah:bR}{aK aa:aU}=>hD.len (D:=D) (ah:=ah) (aK:=aK) (aa:=aa)
 rw[hdl]at hlen
 by_cases h:k<to.length
 rotate_left
 ·simp only[V0,Xa,Xe,af,hlen,h]
  refine cS _ _ ?_
  obtain rfl:k=to.length:=Ω
  simp only[V0]
  exact hK _ R (by simp only[V0,Xe,af])
 have hii:=(cU.1 hx).1
 rcases hT with⟨rfl,rfl⟩|⟨b,hne,rfl,hb⟩
 ·simp at h
 obtain⟨y,hy⟩:=gx (l:=to) (i:=k) h
 have qm:bM (to.flatMap Pt.c) (i*2) 2=some [aG aH x.x,aG aH x.y]:=(zd Pt.aZ 0 2 hx Ω).trans rfl
 have hr2:bM (to.flatMap Pt.c) (k*2) 2=some [aG aH y.x,aG aH y.y]:=(zd Pt.aZ 0 2 hy Ω).trans rfl
 have hw:=zq k
 have hrk:=Tz (lt:=gu c) (l:=to) (x:=x) (n:=k)
 have hst:=La (lt:=gu c) (x:=x) hy
 have cl:=Vy hS c y x m Ω
 simp only[Pt.c,zg]at cl
 cases g:gu c y x
 ·rw[g,bC Δ,sY]at hst
  simp only[V0,Xa,Xe,zm,Ys Qh,Ys hb, *]
  exact bV _ (to.length-(k+1)) Ω ⟨k+1,R++[.free],Ω,Ω,Ψ,by simp only[V0,Xa,Xe,af,hst]⟩
 ·rw[g,bt rfl]at hst
  have hw2:aT .i64 (((qB (gu c) to x k:Nat):Int)+1)=((qB (gu c) to x k+1:Nat):Int):=we
  simp only[V0,Xa,Xe,zm,Ys Qh,Ys hb, *]
  exact bV _ (to.length-(k+1)) Ω ⟨k+1,R++[.free],Ω,Ω,Ψ,by simp only[V0,Xa,Xe,af,hst]⟩
end
end
section
variable {α β:Type} {lt:α->α->Bool} {s:β->α}
theorem TJ:∀{A B:List β}{x:β},(∀ a∈A,lt (s a) (s x)=true)->(∀ b∈B,lt (s b) (s x)=false)->lt (s x) (s x)=false->((A++x::B).filter fun y=>lt (s y) (s x)).length=A.length:=fun{A B x} hA hB hx=>by rw[E9,BX,hx,bC Δ,eR,zmw.2 hA,znb.2 (fun b hb=>by rw[hB b hb];decide)];rfl
theorem OA{ds:List β}{i:Nat}{x:β}(hx:ds[i]?=some x):(s7 lt (ds.map s))[i]?=some ((ds.filter fun y=>lt (s y) (s x)).length):=by unfold s7;rw[k9,k9,hx];show some (qB lt (ds.map s) (s x) (ds.map s).length)=_;unfold qB;rw[E7,List.filter_map,ig];rfl
theorem FO{ds L:List β}(hp:L.Perm ds)(hP:L.Pairwise fun a b=>lt (s a) (s b)=true)(asy:∀ a∈ds,∀ b∈ds,lt (s a) (s b)=true->lt (s b) (s a)=false)(irr:∀ a∈ds,lt (s a) (s a)=false):Ak ds (s7 lt (ds.map s))=L:=by
 have Jk:∀(r:Nat)(x:β),L[r]?=some x->(ds.filter fun y=>lt (s y) (s x)).length=r:=fun r x hx=>by
  have hr:=(cU.1 hx).1;have afh:L=L.take r++x::L.drop (r+1):=by
   rw[←Fu r L];congr 1
   ·rw[Fu]
   ·rw[Fu,HM hr,(cU.1 hx).2]
  rw[←(hp.filter _).length_eq];rw[afh]at hP hp;rw[VM,Cb]at hP;obtain⟨_,⟨h1,_⟩,h2⟩:=hP;have tS:x∈ds:=hp.mem_iff.1 Ψ;have:=TJ (lt:=lt) (s:=s) (A:=L.take r) (B:=L.drop (r+1)) (x:=x) (fun a ha=>h2 a ha x (kB ..)) (fun b hb=>asy x tS b (hp.mem_iff.1 (by simp[hb])) (h1 b hb)) (irr x tS);rw[←afh]at this;rw[this,k8];omega
 have DG:∀(r:Nat)(x:β),L[r]?=some x->pick ds (s7 lt (ds.map s)) r=some x:=fun r x hx=>by
  have tS:x∈ds:=hp.mem_iff.1 (j5 hx);obtain⟨i0,WG⟩:=pY tS;have hk0:=OA (lt:=lt) (s:=s) WG;rw[Jk r x hx]at hk0;unfold pick;cases hf:(s7 lt (ds.map s)).findIdx? (fun x=>x==r)with
  |none =>
   have:=Ks.1 hf r (j5 hk0)
   simp at this
  |some i =>
   rw[jG]
   obtain⟨hil,hi,_⟩:=Kt.1 hf
   have hlen:(s7 lt (ds.map s)).length=ds.length:=by unfold s7;rw[ig,ig]
   have hid:i<ds.length:=Ω
   have hy:=cK hid
   have hk:=OA (lt:=lt) (s:=s) hy
   rw[cK hil,fZ]at hk
   rw[hk]at hi
   have hym:ds[i]∈L:=hp.mem_iff.2 (gU hid)
   obtain⟨j,hj⟩:=pY hym
   have hjr:=Jk j _ hj
   have hrj:j=r:=by have:=eq_of_beq hi;omega
   rw[hrj,hx]at hj
   rw[hy]
   exact hj.symm
 have hsel:∀ r,r<=L.length->kD ds (s7 lt (ds.map s)) r=some (L.take r):=fun r=>by
  induction r with
  |zero=>intro _;rfl
  |succ r ih =>
   intro h
   have hx:=cK (show r<L.length by omega)
   show((kD ds (s7 lt (ds.map s)) r).bind fun l=>(pick ds (s7 lt (ds.map s)) r).map fun x=>l++[x])=_
   rw[ih Ω,jG,DG r _ hx,lH,hx]
   rfl
 unfold Ak;rw[←hp.length_eq,hsel _ (dz _),E7];rfl
end
end Go.Proofs.YtdacpmgnhkmnkaaGreatDoor
end
