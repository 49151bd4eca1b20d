/-
  A part of the proof: the small machine, its simulation and its walks.
-/
import Derived.Test.YtdacpmgnhkmnkaaGreatDoorPDb
import Derived.Test.YtdacpmgnhkmnkaaGreatDoorPDc
set_option linter.unusedVariables false
set_option linter.unusedSimpArgs false
set_option linter.unusedSectionVars false
set_option linter.defProp false
set_option maxRecDepth 1000000
set_option maxHeartbeats 3200000
open Nat renaming reduceLT → Xa, reduceAdd → Xb, reduceMul → Xc, reduceLeDiff → Xd, reduceEqDiff → Xe
open Go.Proofs.YtdacpmgnhkmnkaaGreatDoor.IV renaming int → aG
open Go.Proofs.YtdacpmgnhkmnkaaGreatDoor.aO renaming cells → aI
open Go.IntKind renaming i64 → aH
noncomputable section
namespace Go.Proofs.YtdacpmgnhkmnkaaGreatDoor
def sm{α:Type}(f:α->Int):List α->Int
 |[]=>0
 |x::l=>f x+sm f l
section
variable {α:Type} {f g:α->Int} {l r:List α}
theorem zC:sm f (l++r)=sm f l+sm f r:=by
 induction l with
 |nil=>simp[sm]
 |cons x l ih=>simp only[gQ,sm,ih];omega
theorem xT:sm f l.reverse=sm f l:=by
 induction l with
 |nil=>rfl
 |cons x l ih=>simp only[List.reverse_cons,zC,sm,ih];omega
theorem Zn{β:Type}{h:β->α}{l:List β}:sm f (l.map h)=sm (fun x=>f (h x)) l:=by
 induction l with
 |nil=>rfl
 |cons x l ih=>simp only[nK,sm,ih]
theorem ZX(h:∀ x∈l,f x=0):sm f l=0:=by
 induction l with
 |nil=>rfl
 |cons x l ih=>simp only[sm,h x (kB ..),ih fun y hy=>h y (nk _ hy)];rfl
theorem zH(h:∀ x∈l,f x=g x):sm f l=sm g l:=by
 induction l with
 |nil=>rfl
 |cons x l ih=>simp only[sm,h x (kB ..),ih fun y hy=>h y (nk _ hy)]
theorem xU:sm (fun x=>f x+g x) l=sm f l+sm g l:=by
 induction l with
 |nil=>rfl
 |cons x l ih=>simp only[sm,ih];omega
theorem y5:sm (fun x=>f x-g x) l=sm f l-sm g l:=by
 induction l with
 |nil=>rfl
 |cons x l ih=>simp only[sm,ih];omega
end
structure Dt(S:Type) where
 s:S
 up:Bool
def Dt.rev{S:Type}(x:Dt S):Dt S:=⟨x.s,!x.up⟩
structure cI(S:Type) where
 L:Int->List S
 P:Int->List S
 D:Int->List S
 U:Int->List S
 Q:Int->List S
 lo:S->Int
 hi:S->Int
 below:∀ m,L (m-1)=P m++(D m++Q m)
 above:∀ m,L m=P m++(U m++Q m)
 nodup:∀ m,(L m).Nodup
 lt:∀ s,lo s<hi s
 mem:∀ m s,s∈L m↔lo s<=m/\m<hi s
 ends:∀ m s,s∈D m↔hi s=m
 qz:∀ m s,s∈U m↔lo s=m
section
variable {S:Type} [DecidableEq S] {T:cI S} {σ:S->Int} {m:Int} {s t:S}
def Fo(σ:S->Int)(s:S):List S->Int
 |[]=>0
 |x::l=>if x=s then sm σ l else Fo σ s l
theorem MS{l r:List S}(h:s ∉ l):Fo σ s (l++s::r)=sm σ r:=by
 induction l with
 |nil=>simp[Fo]
 |cons x l ih =>
  simp only[fF,not_or]at h
  simp only[gQ,Fo,bC (uE h.1),ih h.2]
theorem Yd{l r:List S}(h:s ∉ l):Fo σ s (l++r)=Fo σ s r:=by
 induction l with
 |nil=>rfl
 |cons x l ih =>
  simp only[fF,not_or]at h
  simp only[gQ,Fo,bC (uE h.1),ih h.2]
theorem RZ{l r:List S}(h:s∈l):Fo σ s (l++r)=Fo σ s l+sm σ r:=by
 induction l with
 |nil=>cases h
 |cons x l ih =>
  simp only[gQ,Fo]
  by_cases hx:x=s
  ·simp only[bt hx,zC]
  ·simp only[bC hx]
   exact ih (by rcases fF.1 h with h|h;exact absurd h.symm hx;exact h)
def cI.ring(T:cI S)(m:Int):List (Dt S):=(T.U m).reverse.map (⟨·,true⟩)++(T.D m).map (⟨·,false⟩)
def cI.VH(T:cI S)(σ:S->Int):Prop:=∀ m,sm σ (T.D m)=sm σ (T.U m)
def cI.UR(T:cI S)(σ:S->Int)(s:S):Int:=Fo σ s (T.L (T.lo s))
theorem cI.step(hF:T.VH σ)(h1:T.lo s<m)(h2:m<T.hi s):Fo σ s (T.L m)=Fo σ s (T.L (m-1)):=by
 have hd:s ∉ T.D m:=fun h=>by have:=(T.ends m s).1 h;omega
 have hu:s ∉ T.U m:=fun h=>by have:=(T.qz m s).1 h;omega
 have hm:s∈T.L m:=(T.mem m s).2 ⟨Ω,h2⟩;rw[T.above]at hm;rw[T.above,T.below];have hf:=hF m;by_cases hp:s∈T.P m
 ·rw[RZ hp,RZ hp,zC,zC,hf]
 ·rw[Yd hp,Yd hp,Yd hd,Yd hu]
theorem cI.Bl(hF:T.VH σ)(h1:T.lo s<=m)(h2:m<T.hi s):Fo σ s (T.L m)=T.UR σ s:=by
 obtain⟨k,rfl⟩:∃ k:Nat,m=T.lo s+k:=⟨(m-T.lo s).toNat,Ω⟩;induction k with
 |zero=>unfold cI.UR;simp
 |succ k ih =>
  rw[cI.step hF Ω h2,show T.lo s+((k+1:Nat):Int)-1=T.lo s+(k:Int) by omega]
  exact ih Ω Ω
structure cI.M0(T:cI S)(f:Dt S->Bool):Prop where
 aex:∀ m (A B:List (Dt S)) x y,T.ring m=A++x::y::B->f y.rev=f x
 wrap:∀ m (B:List (Dt S)) x y,T.ring m=y::B->(T.ring m).getLast?=some x->f y.rev=f x
def b2(b:Bool):Int:=if b then 1 else 0
def sg(f:Dt S->Bool)(s:S):Int:=b2 (f ⟨s,true⟩)-b2 (f ⟨s,false⟩)
theorem vL{α:Type}{p q:α->Int}:∀(B:List α)(y:α),(∀ A C x z,y::B=A++x::z::C->q z=p x)->∀ x,(y::B).getLast?=some x->sm q B+p x=sm p (y::B)
 |[],y,_,x,h=>by simp only[List.getLast?_singleton,fZ]at h;subst h;simp[sm]
 |z::B,y,hc,x,h=>by have ih:=vL B z (fun A C x w e=>hc (y::A) C x w (by rw[e];rfl)) x (by rw[←h,zod]);have h1:=hc [] B y z rfl;simp only[sm]at ih ⊢;omega
variable {f:Dt S->Bool}
theorem CJ{h:Dt S->Int}:sm h (T.ring m)=sm (fun s=>h ⟨s,true⟩) (T.U m)+sm (fun s=>h ⟨s,false⟩) (T.D m):=by unfold cI.ring;rw[zC,Zn,Zn,xT]
theorem cI.M0.LW(h:T.M0 f):T.VH (sg f):=fun m=>by
 have key:sm (fun x=>b2 (f x)) (T.ring m)=sm (fun x=>b2 (f x.rev)) (T.ring m):=by
  cases hr:T.ring m with
  |nil=>rfl
  |cons y B =>
   obtain⟨x,hx⟩:∃ x,(y::B).getLast?=some x:=⟨_,List.getLast?_eq_some_getLast Ψ⟩
   have h1:=vL (p:=fun x=>b2 (f x)) (q:=fun x=>b2 (f x.rev)) B y (fun A C x z e=>by simp only[h.aex m A C x z (hr.trans e)]) x hx
   have h2:b2 (f y.rev)=b2 (f x):=by rw[h.wrap m B x y hr (by rw[hr];exact hx)]
   simp only[sm]at h1 ⊢
   omega
 rw[CJ,CJ]at key;simp only[Dt.rev,vA,BW]at key;have e1:sm (sg f) (T.D m)=sm (fun s=>b2 (f ⟨s,true⟩)) (T.D m)-sm (fun s=>b2 (f ⟨s,false⟩)) (T.D m):=y5;have e2:sm (sg f) (T.U m)=sm (fun s=>b2 (f ⟨s,true⟩)) (T.U m)-sm (fun s=>b2 (f ⟨s,false⟩)) (T.U m):=y5;omega
def cI.p9(T:cI S)(f:Dt S->Bool)(s:S):Int:=T.UR (sg f) s-b2 (f ⟨s,false⟩)
theorem LA{A B C:List S}(h:(A++(B++C)).Nodup):(∀ x∈B,x ∉ A)/\B.Nodup:=by rw[M3,M3]at h;exact⟨fun x hx ha=>h.2.2 x ha x (SA _ hx) rfl,h.2.1.1⟩
theorem zde{A B:List S}(h:(A++s::B).Nodup):s ∉ A:=fun ha=>by rw[M3]at h;exact h.2.2 s ha s (kB ..) rfl
theorem Er{A P Q:List S}{B:List S}(h:(P++(A++s::B++Q)).Nodup):Fo σ s (P++(A++s::B++Q))=sm σ B+sm σ Q:=by obtain⟨h1,h2⟩:=LA h;rw[Yd (h1 s Ψ),kR,Yd (zde h2),gQ];simp only[Fo,if_true,zC]
theorem zfj(h:T.M0 f){A B:List (Dt S)}{x:Dt S}(e:T.ring m=A++x::B):T.p9 f x.s=sm (sg f) (T.Q m)+sm (fun y=>b2 (f y)-b2 (f y.rev)) A-b2 (f x.rev):=by
 have hF:=h.LW;unfold cI.ring at e;have down:∀ A2,A=(T.U m).reverse.map (⟨·,true⟩)++A2->(T.D m).map (⟨·,false⟩)=A2++x::B->T.p9 f x.s=sm (sg f) (T.Q m)+sm (fun y=>b2 (f y)-b2 (f y.rev)) A-b2 (f x.rev):=fun A2 hA hB=>by
  rw[hA];obtain⟨D1,D2',hD,rfl,hx⟩:=List.map_eq_append_iff.1 hB;obtain⟨d,D2,rfl,rfl,rfl⟩:=List.map_eq_cons_iff.1 hx;have hn:=T.nodup (m-1);rw[T.below,hD]at hn;have hhi:=(T.ends m d).1 (by rw[hD];simp);have au:=T.lt d;have he:=T.Bl hF (s:=d) (m:=m-1) Ω Ω;rw[T.below,hD,Er hn]at he;have hf:=hF m;rw[hD,zC]at hf;rw[zC,Zn,Zn,xT];simp only[cI.p9,Dt.rev,vA,BW,←he];have e1:sm (fun s=>b2 (f ⟨s,true⟩)-b2 (f ⟨s,false⟩)) (T.U m)=sm (sg f) (T.U m):=rfl;have e2:sm (fun s=>b2 (f ⟨s,false⟩)-b2 (f ⟨s,true⟩)) D1=- sm (sg f) D1:=by have a1:sm (fun s=>b2 (f ⟨s,false⟩)-b2 (f ⟨s,true⟩)) D1=_:=y5;have a2:sm (sg f) D1=sm (fun s=>b2 (f ⟨s,true⟩)) D1-sm (fun s=>b2 (f ⟨s,false⟩)) D1:=y5;omega
  have e3:sg f d=b2 (f ⟨d,true⟩)-b2 (f ⟨d,false⟩):=rfl;simp only[sm]at hf;omega
 rcases zn5.1 e with⟨A2,hA,hB⟩|⟨C,hA,hB⟩
 ·exact down A2 hA hB
 ·cases C with
  |nil =>
   simp only[iL,gM]at hA hB
   exact down [] (by simp[hA]) (by simp[hB])
  |cons y C =>
   obtain⟨rfl,rfl⟩:=znk hB
   obtain⟨A',C',hU,rfl,hx⟩:=List.map_eq_append_iff.1 hA
   obtain⟨u,B',rfl,rfl,rfl⟩:=List.map_eq_cons_iff.1 hx
   have hU:T.U m=B'.reverse++u::A'.reverse:=by rw[←zno (T.U m),hU];simp
   have hn:=T.nodup m
   rw[T.above,hU]at hn
   have hlo:=(T.qz m u).1 (by rw[hU];simp)
   have au:=T.lt u
   have he:=T.Bl hF (s:=u) (m:=m) Ω Ω
   rw[T.above,hU,Er hn,xT]at he
   rw[Zn]
   simp only[cI.p9,Dt.rev,vA,←he]
   have e1:sm (fun s=>b2 (f ⟨s,true⟩)-b2 (f ⟨s,false⟩)) A'=sm (sg f) A':=rfl
   omega
theorem Po(h:T.M0 f){A B:List (Dt S)}{x y:Dt S}(e:T.ring m=y::(A++x::B)):T.p9 f x.s=T.p9 f y.s:=by
 have h1:=zfj h (A:=y::A) e;have h2:=zfj h (A:=[]) (x:=y) e;have aga:∀(A:List (Dt S))(y:Dt S),(∀ A' C w z,y::(A++x::B)=A'++w::z::C->f z.rev=f w)->sm (fun y=>b2 (f y)-b2 (f y.rev)) (y::A)=b2 (f x.rev)-b2 (f y.rev):=by
  intro A;induction A with
  |nil =>
   intro y hc
   simp only[sm,hc [] B y x rfl]
   omega
  |cons z A ih =>
   intro y hc
   have h1:=ih z fun A' C w v e=>hc (y::A') C w v (by rw[gQ,e];rfl)
   have h2:=hc [] (A++x::B) y z rfl
   simp only[sm,h2]at h1 ⊢
   omega
 have h3:=aga A y fun A' C w z e'=>h.aex m A' C w z (e.trans e');simp only[sm]at h2;omega
theorem Jf(h:T.M0 f)(hs:s∈T.U m∨s∈T.D m)(ht:t∈T.U m∨t∈T.D m):T.p9 f s=T.p9 f t:=by
 have hm:∀ s,s∈T.U m∨s∈T.D m->∃ x∈T.ring m,x.s=s:=fun s hs=>by
  unfold cI.ring;rcases hs with h|h
  ·exact⟨⟨s,true⟩,by simp[h],rfl⟩
  ·exact⟨⟨s,false⟩,by simp[h],rfl⟩
 obtain⟨x,hx,rfl⟩:=hm s hs;obtain⟨z,hz,rfl⟩:=hm t ht;cases hr:T.ring m with
 |nil=>rw[hr]at hx;cases hx
 |cons y R =>
  have one:∀ x∈T.ring m,T.p9 f x.s=T.p9 f y.s:=fun x hx=>by
   rw[hr]at hx;rcases fF.1 hx with rfl|hx
   ·rfl
   ·obtain⟨A,B,rfl⟩:=zmc hx;exact Po h hr
  rw[one x hx,one z hz]
def cI.Joined(T:cI S)(K:S->Prop):Prop:=∀ F:S->Int,(∀ m s t,(s∈T.U m∨s∈T.D m)->(t∈T.U m∨t∈T.D m)->F s=F t)->∀ s t,K s->K t->F s=F t
theorem ZI{K:S->Prop}(hK:T.Joined K)(h:T.M0 f)(hs:K s)(ht:K t):T.p9 f s=T.p9 f t:=hK _ (fun _ _ _ h1 h2=>Jf h h1 h2) s t hs ht
def ou(f:Dt S->Bool)(B:List S):Int:=sm (sg f) B
theorem FM{K:S->Prop}(hf:∀ x,f x=true->K x.s){s:S}(h:¬ K s):sg f s=0:=by
 have h1:∀ b,f ⟨s,b⟩=false:=fun b=>by
  cases hb:f ⟨s,b⟩
  ·rfl
  ·exact absurd (hf _ hb) h
 simp[sg,h1]
theorem ZJ(h:T.M0 f){A B:List S}(e:T.L m=A++s::B):T.UR (sg f) s=ou f B:=by have hm:=(T.mem m s).1 (by rw[e];simp);have hn:=T.nodup m;rw[e]at hn;rw[←T.Bl h.LW hm.1 hm.2,e,MS (zde hn)];rfl
theorem Ze{K:S->Prop}(hf:∀ x,f x=true->K x.s)(h:T.M0 f){A B1 B2:List S}(e:T.L m=A++(B1++s::B2))(hB:∀ t∈B1,¬ K t):ou f (B1++s::B2)=T.p9 f s+b2 (f ⟨s,true⟩):=by have h1:=ZJ h (s:=s) (A:=A++B1) (B:=B2) (by rw[e,kR]);unfold ou at h1 ⊢;rw[zC,ZX fun t ht=>FM hf (hB t ht)];simp only[sm,cI.p9,h1,sg];omega
theorem ZK{K:S->Prop}(hf:∀ x,f x=true->K x.s){B:List S}(hB:∀ t∈B,¬ K t):ou f B=0:=ZX fun t ht=>FM hf (hB t ht)
theorem zbv{K:S->Prop}(hf:∀ x,f x=true->K x.s)(h:T.M0 f){A B:List S}(e:T.L m=A++s::B)(hB:∀ t∈B,¬ K t):T.p9 f s=- b2 (f ⟨s,false⟩):=by have h1:=ZJ h e;rw[ZK hf hB]at h1;simp only[cI.p9,h1];omega
theorem ZL(K:S->Prop):∀ B:List S,(∀ t∈B,¬ K t)∨∃ B1 s B2,B=B1++s::B2/\K s/\∀ t∈B1,¬ K t
 |[]=>.inl fun _ h=>by cases h
 |x::B=>by
  by_cases hx:K x
  ·exact .inr ⟨[],x,B,rfl,hx,fun _ h=>by cases h⟩
  ·rcases ZL K B with h|⟨B1,s,B2,rfl,h1,h2⟩
   ·exact .inl fun t ht=>by
     rcases fF.1 ht with rfl|ht
     ·exact hx
     ·exact h t ht
   ·exact .inr ⟨x::B1,s,B2,rfl,h1,fun t ht=>by
     rcases fF.1 ht with rfl|ht
     ·exact hx
     ·exact h2 t ht⟩
theorem TZ(K:S->Prop)(B:List S):(∀ t∈B,¬ K t)∨∃ B1 s B2,B=B1++s::B2/\K s/\∀ t∈B2,¬ K t:=by
 rcases ZL K B.reverse with h|⟨B1,s,B2,h0,h1,h2⟩
 ·exact .inl fun t ht=>h t (by simpa using ht)
 ·exact .inr ⟨B2.reverse,s,B1.reverse,by rw[←zno B,h0];simp,h1,fun t ht=>h2 t (by simpa using ht)⟩
structure cI.Of(T:cI S)(K:S->Prop)(f:Dt S->Bool):Prop where
 joined:T.Joined K
 part:∀ x,f x=true->K x.s
 qR:T.M0 f
def cI.lu(T:cI S)(K:S->Prop)(f:Dt S->Bool):Prop:=∃ m A s B,T.L m=A++s::B/\K s/\(∀ t∈B,¬ K t)/\f ⟨s,false⟩=true
theorem zfk(s:S):∃ A B,T.L (T.lo s)=A++s::B:=zmc ((T.mem _ s).2 ⟨Fp _,T.lt s⟩)
theorem Jd{K:S->Prop}(hs:K s):∃ m A t B,T.L m=A++t::B/\K t/\∀ t∈B,¬ K t:=by
 rcases TZ K (T.L (T.lo s))with h|⟨A,t,B,h0,h1,h2⟩
 ·exact absurd hs (h s ((T.mem _ s).2 ⟨Fp _,T.lt s⟩))
 ·exact⟨_,A,t,B,h0,h1,h2⟩
theorem zcn{K:S->Prop}(h:T.Of K f)(ho:¬ T.lu K f)(hs:K s):T.p9 f s=0:=by
 obtain⟨m,A,t,B,h0,h1,h2⟩:=Jd (T:=T) hs;rw[ZI h.joined h.qR hs h1,zbv h.part h.qR h0 h2];cases hf:f ⟨t,false⟩
 ·rfl
 ·exact absurd ⟨m,A,t,B,h0,h1,h2,hf⟩ ho
theorem T0{K:S->Prop}(h:T.Of K f)(ho:T.lu K f)(hs:K s):T.p9 f s=-1:=by obtain⟨m,A,t,B,h0,h1,h2,hf⟩:=ho;rw[ZI h.joined h.qR hs h1,zbv h.part h.qR h0 h2,hf];rfl
theorem EC(b:Bool):b2 b=0∨b2 b=1:=by cases b<;>simp[b2]
theorem xK{K:S->Prop}(h:T.Of K f)(ho:¬ T.lu K f){A B:List S}(e:T.L m=A++B):ou f B=0∨ou f B=1:=by
 rcases ZL K B with hB|⟨B1,s,B2,rfl,h1,h2⟩
 ·exact .inl (ZK h.part hB)
 ·rw[Ze h.part h.qR e h2,zcn h ho h1];rcases EC (f ⟨s,true⟩)with h|h<;>omega
theorem SY{K:S->Prop}(h:T.Of K f)(ho:T.lu K f){A B:List S}(e:T.L m=A++B):ou f B=0∨ou f B=-1:=by
 rcases ZL K B with hB|⟨B1,s,B2,rfl,h1,h2⟩
 ·exact .inl (ZK h.part hB)
 ·rw[Ze h.part h.qR e h2,T0 h ho h1];rcases EC (f ⟨s,true⟩)with h|h<;>omega
theorem SZ{K:S->Prop}{g:Dt S->Bool}(hf:T.Of K f)(hg:T.Of K g)(fo:¬ T.lu K f)(go:¬ T.lu K g)(hd:∀ x,f x=true->g x=true->False){A B:List S}(e:T.L m=A++B)(h1:ou f B=1)(h2:ou g B=1):False:=by
 rcases ZL K B with hB|⟨B1,s,B2,rfl,h3,h4⟩
 ·rw[ZK hf.part hB]at h1;omega
 ·rw[Ze hf.part hf.qR e h4,zcn hf fo h3]at h1;rw[Ze hg.part hg.qR e h4,zcn hg go h3]at h2;refine hd ⟨s,true⟩ ?_ ?_
  ·cases hx:f ⟨s,true⟩
   ·rw[hx]at h1;simp[b2]at h1
   ·rfl
  ·cases hx:g ⟨s,true⟩
   ·rw[hx]at h2;simp[b2]at h2
   ·rfl
theorem nested{K K':S->Prop}{g:Dt S->Bool}(hf:T.Of K f)(hg:T.Of K' g)(fo:¬ T.lu K f)(go:¬ T.lu K' g)(Nk:∀ s,K s->¬ K' s){a:S}(ha:K a)(h1:T.p9 g a=1) :
  (∀ m A B,T.L m=A++B->ou f B<=ou g B)/\∀ b,K' b->T.p9 f b=0:=by
 have hk:∀ s,K s->T.p9 g s=1:=fun s hs=>by rw[ZI hf.joined hg.qR hs ha,h1]
 have hfU:∀ x,f x=true->(fun s=>K s∨K' s) x.s:=fun x hx=>.inl (hf.part x hx)
 have hgU:∀ x,g x=true->(fun s=>K s∨K' s) x.s:=fun x hx=>.inr (hg.part x hx)
 have hz:∀ b,K' b->T.p9 f b=0:=fun b hb=>by
  obtain⟨m,A,t,B,h0,ht,h2⟩:=Jd (T:=T) (K:=fun s=>K s∨K' s) (s:=b) (.inr hb);have e1:=zbv hgU hg.qR h0 h2;have e2:=zbv hfU hf.qR h0 h2;rcases ht with ht|ht
  ·rw[hk t ht]at e1;rcases EC (g ⟨t,false⟩)with h|h<;>omega
  ·have hft:f ⟨t,false⟩=false:=by
    cases hx:f ⟨t,false⟩
    ·rfl
    ·exact absurd ht (Nk _ (hf.part _ hx))
   rw[ZI hg.joined hf.qR hb ht,e2,hft];rfl
 refine⟨fun m A B e=>?_,hz⟩
 rcases ZL (fun s=>K s∨K' s) B with hB|⟨B1,s,B2,rfl,h3,h4⟩
 ·rw[ZK hfU hB,ZK hgU hB]
  omega
 ·have w1:=Ze hfU hf.qR e h4
  have w2:=Ze hgU hg.qR e h4
  rcases h3 with h3|h3
  ·rw[hk s h3]at w2
   rcases xK hf fo e with h|h
   ·rcases EC (g ⟨s,true⟩)with h'|h'<;>omega
   ·rcases EC (g ⟨s,true⟩)with h'|h'<;>omega
  ·rw[hz s h3]at w1
   have hft:f ⟨s,true⟩=false:=by
    cases hx:f ⟨s,true⟩
    ·rfl
    ·exact absurd h3 (Nk _ (hf.part _ hx))
   rw[hft,show b2 false=0 from rfl]at w1
   rcases xK hg go e with h|h<;>omega
theorem TS{K K':S->Prop}{g:Dt S->Bool}(hf:T.Of K f)(hg:T.Of K' g)(fo:¬ T.lu K f)(go:¬ T.lu K' g)(Nk:∀ s,K s->¬ K' s){A B:List S}(e:T.L m=A++B)(h1:ou f B=1)(h2:ou g B=1) :
  (∃ a,K a/\T.p9 g a=1)∨∃ b,K' b/\T.p9 f b=1:=by
 have hfU:∀ x,f x=true->(fun s=>K s∨K' s) x.s:=fun x hx=>.inl (hf.part x hx)
 have hgU:∀ x,g x=true->(fun s=>K s∨K' s) x.s:=fun x hx=>.inr (hg.part x hx)
 rcases ZL (fun s=>K s∨K' s) B with hB|⟨B1,s,B2,rfl,h3,h4⟩
 ·rw[ZK hfU hB]at h1
  omega
 ·have w1:=Ze hfU hf.qR e h4
  have w2:=Ze hgU hg.qR e h4
  rcases h3 with h3|h3
  ·have hgt:g ⟨s,true⟩=false:=by
    cases hx:g ⟨s,true⟩
    ·rfl
    ·exact absurd (hg.part _ hx) (Nk _ h3)
   rw[hgt,show b2 false=0 from rfl]at w2
   exact .inl ⟨s,h3,Ω⟩
  ·have hft:f ⟨s,true⟩=false:=by
    cases hx:f ⟨s,true⟩
    ·rfl
    ·exact absurd h3 (Nk _ (hf.part _ hx))
   rw[hft,show b2 false=0 from rfl]at w1
   exact .inr ⟨s,h3,Ω⟩
def lZ(pos:S->Int)(τ:S->Int)(l:List S):Int:=sm (fun s=>τ s*pos s) l
theorem Iq{pos τ:S->Int}:∀(r:List S)(x:S),(x::r).Pairwise (fun a b=>pos a<pos b)->(∀ A B,r=A++B->0<=sm τ B)->pos x*sm τ (x::r)<=lZ pos τ (x::r)/\((∃ A B,r=A++B/\0<sm τ B)->pos x*sm τ (x::r)<lZ pos τ (x::r))
 |[],x,_,_=>by refine⟨by simp only[lZ,sm];rw[Int.add_zero,zoj];omega,?_⟩;rintro⟨A,B,e,hB⟩;have hB0:B=[]:=(VO.1 e.symm).2;rw[hB0]at hB;simp[sm]at hB
 |y::r,x,hp,hs=>by
  rw[Cb]at hp;obtain⟨h1,h2⟩:=Iq r y hp.2 (fun A B e=>hs (y::A) B (by rw[e];rfl));have hxy:=hp.1 y (kB ..);have h0:=hs [] (y::r) rfl;have e1:lZ pos τ (x::y::r)=τ x*pos x+lZ pos τ (y::r):=rfl;have e2:sm τ (x::y::r)=τ x+sm τ (y::r):=rfl;have m1:pos x*sm τ (y::r)<=pos y*sm τ (y::r):=Int.mul_le_mul_of_nonneg_right (HG hxy) h0;rw[e1,e2,Int.mul_add,zoj (τ x)];refine⟨Ω,?_⟩;rintro⟨A,B,e,hB⟩;cases A with
  |nil =>
   simp only[gM]at e
   rw[←e]at hB
   have m2:pos x*sm τ (y::r)<pos y*sm τ (y::r):=znv hxy hB
   omega
  |cons z A =>
   obtain⟨rfl,rfl⟩:=znk e
   have:=h2 ⟨A,B,rfl,hB⟩
   omega
theorem zdf{pos τ:S->Int}{l:List S}(hp:l.Pairwise (fun a b=>pos a<pos b))(hs:∀ A B,l=A++B->0<=sm τ B)(h0:sm τ l=0):0<=lZ pos τ l/\((∃ A B,l=A++B/\0<sm τ B)->0<lZ pos τ l):=by
 cases l with
 |nil =>
  refine⟨Fp _,?_⟩
  rintro⟨A,B,e,hB⟩
  rw[(VO.1 e.symm).2]at hB
  simp[sm]at hB
 |cons x r =>
  obtain⟨h1,h2⟩:=Iq r x hp (fun A B e=>hs (x::A) B (by rw[e];rfl))
  rw[h0,VJ]at h1 h2
  refine⟨h1,?_⟩
  rintro⟨A,B,e,hB⟩
  cases A with
  |nil =>
   simp only[gM]at e
   rw[←e,h0]at hB
   omega
  |cons z A =>
   obtain⟨rfl,rfl⟩:=znk e
   exact h2 ⟨A,B,rfl,hB⟩
def qM(T:cI S)(pos:Int->S->Int)(ms:List Int)(f:Dt S->Bool):Int:=sm (fun m=>lZ (pos m) (sg f) (T.L m)) ms
theorem vK{α:Type}{h:α->Int}:∀{l:List α},(∀ x∈l,0<=h x)->0<=sm h l/\((∃ x∈l,0<h x)->0<sm h l)
 |[],_=>⟨Fp _,fun⟨_,hx,_⟩=>by cases hx⟩
 |x::l,hl=>by
  obtain⟨h1,h2⟩:=vK fun y hy=>hl y (nk x hy);have h0:=hl x (kB ..);refine⟨by simp only[sm];omega,?_⟩;rintro⟨y,hy,hp⟩;simp only[sm];rcases fF.1 hy with rfl|hy
  ·omega
  ·have:=h2 ⟨y,hy,hp⟩;omega
theorem YR{pos:Int->S->Int}{ms:List Int}(hp:∀ m∈ms,(T.L m).Pairwise (fun a b=>pos m a<pos m b)){τ:S->Int}(hs:∀ m A B,T.L m=A++B->0<=sm τ B)(h0:∀ m,sm τ (T.L m)=0) :
  0<=sm (fun m=>lZ (pos m) τ (T.L m)) ms/\((∃ m∈ms,∃ A B,T.L m=A++B/\0<sm τ B)->0<sm (fun m=>lZ (pos m) τ (T.L m)) ms):=by
 obtain⟨h1,h2⟩:=vK (h:=fun m=>lZ (pos m) τ (T.L m)) (l:=ms) fun m hm=>(zdf (hp m hm) (hs m) (h0 m)).1
 exact⟨h1,fun⟨m,hm,A,B,e,hB⟩=>h2 ⟨m,hm,(zdf (hp m hm) (hs m) (h0 m)).2 ⟨A,B,e,hB⟩⟩⟩
theorem total(hF:T.VH σ){m0:Int}(h0:T.L m0=[])(m:Int):sm σ (T.L m)=0:=by
 have st:∀ m,sm σ (T.L m)=sm σ (T.L (m-1)):=fun m=>by have:=hF m;rw[T.above,T.below];simp only[zC];omega
 have up:∀ k:Nat,sm σ (T.L (m0+k))=0:=fun k=>by
  induction k with
  |zero=>simp[h0,sm]
  |succ k ih=>rw[st,show m0+((k+1:Nat):Int)-1=m0+(k:Int) by omega,ih]
 have dn:∀ k:Nat,sm σ (T.L (m0-k))=0:=fun k=>by
  induction k with
  |zero=>simp[h0,sm]
  |succ k ih=>rw[show m0-((k+1:Nat):Int)=m0-(k:Int)-1 by omega,←st,ih]
 by_cases h:m0<=m
 ·have:=up (m-m0).toNat;rwa [show m0+((m-m0).toNat:Int)=m by omega]at this
 ·have:=dn (m0-m).toNat;rwa [show m0-((m0-m).toNat:Int)=m by omega]at this
theorem Ic{α:Type}{h:α->Int}:∀{l:List α},sm h l≠0->∃ x∈l,h x≠0
 |[],h=>absurd rfl h
 |x::l,hn=>by
  by_cases hx:h x=0
  ·obtain⟨y,hy,h2⟩:=Ic (l:=l) (h:=h) (fun h3=>hn (by simp only[sm,hx,h3];rfl));exact⟨y,nk _ hy,h2⟩
  ·exact⟨x,kB ..,hx⟩
theorem zfl{g:Dt S->Bool}{B:List S}:sm (fun s=>sg g s-sg f s) B=ou g B-ou f B:=y5
theorem K9{pos:S->Int}{g:Dt S->Bool}{l:List S}:lZ pos (fun s=>sg g s-sg f s) l=lZ pos (sg g) l-lZ pos (sg f) l:=by unfold lZ;rw[←y5];exact zH fun s _=>Su ..
theorem J6{pos:Int->S->Int}{ms:List Int}{m0:Int}(h0:T.L m0=[])(hms:∀ m,T.L m≠[]->m∈ms)(hp:∀ m,(T.L m).Pairwise (fun a b=>pos m a<pos m b)){K K':S->Prop}{g:Dt S->Bool}(hf:T.Of K f)(hg:T.Of K' g)(fo:¬ T.lu K f)(go:¬ T.lu K' g)(Nk:∀ s,K s->¬ K' s){a:S}(ha:K a)(h1:T.p9 g a=1){A B:List S}(e:T.L m=A++B)(hw:ou f B=1) :
  qM T pos ms f<qM T pos ms g:=by
 obtain⟨hle,_⟩:=nested hf hg fo go Nk ha h1
 obtain⟨s,hs,hsg⟩:=Ic (h:=sg f) (l:=B) (by unfold ou at hw;omega)
 have hks:K s:=by
  by_cases hk:K s
  ·exact hk
  ·exact absurd (FM hf.part hk) hsg
 obtain⟨C,E,hL⟩:=zfk (T:=T) s
 have kg:T.p9 g s=1:=by rw[ZI hf.joined hg.qR hks ha,h1]
 have gz:∀ b,g ⟨s,b⟩=false:=fun b=>by
  cases hx:g ⟨s,b⟩
  ·rfl
  ·exact absurd (hg.part _ hx) (Nk _ hks)
 have ef:=ZJ hf.qR hL
 have eg:=ZJ hg.qR hL
 have k0:=zcn hf fo hks
 have hfs:f ⟨s,true⟩≠f ⟨s,false⟩:=fun h=>hsg (by simp[sg,h])
 have strict:∃ m∈ms,∃ A B,T.L m=A++B/\0<sm (fun s=>sg g s-sg f s) B:=by
  refine⟨T.lo s,hms _ (by rw[hL];simp),?_⟩;simp only[cI.p9,gz,show b2 false=0 from rfl]at kg k0;cases hd:f ⟨s,false⟩
  ·rw[hd,show b2 false=0 from rfl]at k0;exact⟨C++[s],E,by rw[hL];simp,by rw[zfl];omega⟩
  ·have hu:f ⟨s,true⟩=false:=by
    cases hx:f ⟨s,true⟩
    ·rfl
    ·exact absurd (hx.trans hd.symm) hfs
   rw[hd,show b2 true=1 from rfl]at k0;refine⟨C,s::E,hL,?_⟩;rw[zfl];have e1:ou g (s::E)=sg g s+ou g E:=rfl;have e2:ou f (s::E)=sg f s+ou f E:=rfl;simp only[e1,e2,sg,gz,hd,hu,show b2 false=0 from rfl,show b2 true=1 from rfl];omega
 have key:=(YR (pos:=pos) (ms:=ms) (fun m _=>hp m) (τ:=fun s=>sg g s - sg f s) (fun m A B e=>by
  have:=hle m A B e;rw[zfl];omega) (fun m=>by
   have t1:=total hf.qR.LW h0 m;have t2:=total hg.qR.LW h0 m;have t3:sm (fun s=>sg g s-sg f s) (T.L m)=sm (sg g) (T.L m)-sm (sg f) (T.L m):=y5;omega)).2 strict
 have e3:sm (fun m=>lZ (pos m) (fun s=>sg g s-sg f s) (T.L m)) ms=qM T pos ms g-qM T pos ms f:=by unfold qM;rw[←y5];exact zH fun m _=>K9
 omega
theorem Vq{pos:Int->S->Int}{ms:List Int}{m0:Int}(h0:T.L m0=[])(hms:∀ m,T.L m≠[]->m∈ms)(hp:∀ m,(T.L m).Pairwise (fun a b=>pos m a<pos m b)){K K':S->Prop}{g:Dt S->Bool}(hf:T.Of K f)(hg:T.Of K' g)(fo:¬ T.lu K f)(go:¬ T.lu K' g)(Nk:∀ s,K s->¬ K' s){A B:List S}(e:T.L m=A++B)(h1:ou f B=1)(h2:ou g B=1) :
  qM T pos ms f≠qM T pos ms g:=by
 rcases TS hf hg fo go Nk e h1 h2 with⟨a,ha,hk⟩|⟨b,hb,hk⟩
 ·have:=J6 h0 hms hp hf hg fo go Nk ha hk e h1
  omega
 ·have:=J6 h0 hms hp hg hf go fo (fun s h h'=>Nk s h' h) hb hk e h2
  omega
theorem RA{pos:Int->S->Int}{ms:List Int}{m0:Int}(h0:T.L m0=[])(hp:∀ m,(T.L m).Pairwise (fun a b=>pos m a<pos m b)){K:S->Prop}(hf:T.Of K f)(fo:T.lu K f):qM T pos ms f<=0:=by
 have key:=(YR (pos:=pos) (ms:=ms) (fun m _=>hp m) (τ:=fun s=>0 - sg f s) (fun m A B e=>by
  have t3:sm (fun s=>0-sg f s) B=sm (fun _=>0) B-sm (sg f) B:=y5;have t4:sm (fun _:S=>(0:Int)) B=0:=ZX fun _ _=>rfl;have t5:sm (sg f) B=ou f B:=rfl;rcases SY hf fo e with h|h<;>omega) (fun m=>by
   have t1:=total hf.qR.LW h0 m;have t3:sm (fun s=>0-sg f s) (T.L m)=sm (fun _=>0) (T.L m)-sm (sg f) (T.L m):=y5;have t4:sm (fun _:S=>(0:Int)) (T.L m)=0:=ZX fun _ _=>rfl;omega)).1
 have e3:sm (fun m=>lZ (pos m) (fun s=>0-sg f s) (T.L m)) ms=0-qM T pos ms f:=by
  have t4:sm (fun _:Int=>(0:Int)) ms=0:=ZX fun _ _=>rfl;have t5:sm (fun m=>lZ (pos m) (fun s=>0-sg f s) (T.L m)) ms=sm (fun m=>0-lZ (pos m) (sg f) (T.L m)) ms:=zH fun m _=>by
   show sm (fun s=>(0-sg f s)*pos m s) (T.L m)=0-sm (fun s=>sg f s*pos m s) (T.L m);have t6:sm (fun s=>(0-sg f s)*pos m s) (T.L m)=sm (fun s=>0-sg f s*pos m s) (T.L m):=zH fun s _=>by rw[Su,M4]
   have t7:sm (fun s=>0-sg f s*pos m s) (T.L m)=sm (fun _=>0) (T.L m)-sm (fun s=>sg f s*pos m s) (T.L m):=y5;have t8:sm (fun _:S=>(0:Int)) (T.L m)=0:=ZX fun _ _=>rfl;omega
  have t6:sm (fun m=>0-lZ (pos m) (sg f) (T.L m)) ms=sm (fun _=>0) ms-qM T pos ms f:=y5;omega
 omega
end
abbrev Ix(n:Nat):Type:=_root_.Fin n
structure ez(n:Nat) where
 lo:Ix n->Int
 hi:Ix n->Int
 rp:Int->Ix n->Int
 lt:∀ i,lo i<hi i
 Z:∀ i j h,i≠j->lo i<=h->h<=hi i->lo j<=h->h<=hi j->rp h i=rp h j->(lo i=h∨hi i=h)/\(lo j=h∨hi j=h)
 C:∀ i j h,lo i<=h->h<hi i->lo j<=h->h<hi j->¬ (rp h i<rp h j/\rp (h+1) j<rp (h+1) i)
 V:∀ i j h,lo i=h∨hi i=h->lo j=h∨hi j=h->rp h i=rp h j
 W:∀ i j h,i≠j->lo i<=h->h<hi i->lo j<=h->h<hi j->¬ (rp h i=rp h j/\rp (h+1) i=rp (h+1) j)
section
variable {n:Nat} (R:ez n) {m:Int} {i j:Ix n}
def ez.key(m:Int)(i:Ix n):Int:=R.rp m i+R.rp (m+1) i
def ez.L(m:Int):List (Ix n):=((List.finRange n).filter fun i=>decide (R.lo i<=m)&&decide (m<R.hi i)).mergeSort fun i j=>decide (R.key m i<=R.key m j)
theorem ez.mT:i∈R.L m↔R.lo i<=m/\m<R.hi i:=by unfold ez.L;rw[(zmx _ _).mem_iff];simp
theorem ez.s8:(R.L m).Nodup:=(zmx _ _).nodup_iff.2 ((List.nodup_finRange n).filter _)
theorem ez.aa8(hi:i∈R.L m)(hj:j∈R.L m)(h:i≠j):R.key m i≠R.key m j:=by rw[R.mT]at hi hj;have c1:=R.C i j m hi.1 hi.2 hj.1 hj.2;have c2:=R.C j i m hj.1 hj.2 hi.1 hi.2;have w:=R.W i j m h hi.1 hi.2 hj.1 hj.2;unfold ez.key;omega
theorem ez.jH:(R.L m).Pairwise fun i j=>R.key m i<R.key m j:=by have h1:(R.L m).Pairwise fun i j=>decide (R.key m i<=R.key m j)=true:=zob (fun a b c h1 h2=>by simp only[jk]at *;omega) (fun a b=>by simp only[nu,jk];omega) _;refine(h1.and R.s8).imp_of_mem fun ha hb aq=>?_;have:=R.aa8 ha hb aq.2;have h2:=aq.1;simp only[jk]at h2;omega
theorem ez.th(hi:i∈R.L m)(hj:j∈R.L m)(h:R.key m i<R.key m j):R.rp m i<=R.rp m j/\R.rp (m+1) i<=R.rp (m+1) j:=by rw[R.mT]at hi hj;have c1:=R.C i j m hi.1 hi.2 hj.1 hj.2;have c2:=R.C j i m hj.1 hj.2 hi.1 hi.2;unfold ez.key at h;omega
theorem classes{α:Type}(c:α->Nat)(hc:∀ a,c a<=2):∀{l:List α},l.Pairwise (fun a b=>c a<=c b)->l=l.filter (fun a=>decide (c a=0))++(l.filter (fun a=>decide (c a=1))++l.filter (fun a=>decide (c a=2)))
 |[],_=>rfl
 |x::l,h=>by
  rw[Cb]at h;have ih:=classes c hc h.2;have no:∀ k,k<c x->l.filter (fun a=>decide (c a=k))=[]:=fun k hk=>znb.2 fun a ha=>by have:=h.1 a ha;simp only[jk];omega
  have hx:=hc x;rcases(by omega:c x=0∨c x=1∨c x=2)with e|e|e
  ·simp only[BX,e,decide_true,if_true];conv=>lhs;rw[ih]
   simp
  ·rw[no 0 Ω]at ih;simp only[BX,e,decide_true,if_true];simp only[no 0 Ω];conv=>lhs;rw[ih]
   simp
  ·rw[no 0 Ω,no 1 Ω]at ih;simp only[BX,e,decide_true,if_true];simp only[no 0 Ω,no 1 Ω];conv=>lhs;rw[ih]
   simp
def ez.at'(m:Int):Int:=open Classical in if h:∃ i,R.lo i=m∨R.hi i=m then R.rp m h.choose else 0
theorem ez.at_end(h:R.lo i=m∨R.hi i=m):R.rp m i=R.at' m:=by unfold ez.at';have hx:∃ i,R.lo i=m∨R.hi i=m:=⟨i,h⟩;rw[dif_pos hx];exact R.V _ _ _ h hx.choose_spec
def ez.up(m:Int)(i:Ix n):Nat:=if R.lo i=m then 1 else if R.rp m i<R.at' m then 0 else 2
def ez.dn(m:Int)(i:Ix n):Nat:=if R.hi i=m then 1 else if R.rp m i<R.at' m then 0 else 2
theorem ez.S7:(R.L m).Pairwise fun i j=>R.up m i<=R.up m j:=R.jH.imp_of_mem fun{i j} ha hb aq=>by
 have hl:=R.th ha hb aq;have hne:i≠j:=fun h=>by subst h;omega
 rw[R.mT]at ha hb;unfold ez.up;by_cases h1:R.lo i=m
 ·rw[bt h1];have e1:=R.at_end (.inl h1);by_cases h2:R.lo j=m
  ·rw[bt h2];omega
  ·rw[bC h2,bC Ω];omega
 ·rw[bC h1];by_cases h2:R.lo j=m
  ·rw[bt h2];have e2:=R.at_end (.inl h2);by_cases h3:R.rp m i<R.at' m
   ·rw[bt h3];omega
   ·have z:=R.Z i j m hne ha.1 Ω hb.1 Ω Ω;omega
  ·rw[bC h2];by_cases h3:R.rp m i<R.at' m
   ·rw[bt h3];omega
   ·rw[bC h3,bC Ω];omega
theorem ez.US:(R.L (m-1)).Pairwise fun i j=>R.dn m i<=R.dn m j:=R.jH.imp_of_mem fun{i j} ha hb aq=>by
 have hl:=R.th ha hb aq;rw[show m-1+1=m by omega]at hl;have hne:i≠j:=fun h=>by subst h;omega
 rw[R.mT]at ha hb;unfold ez.dn;by_cases h1:R.hi i=m
 ·rw[bt h1];have e1:=R.at_end (.inr h1);by_cases h2:R.hi j=m
  ·rw[bt h2];omega
  ·rw[bC h2,bC Ω];omega
 ·rw[bC h1];by_cases h2:R.hi j=m
  ·rw[bt h2];have e2:=R.at_end (.inr h2);by_cases h3:R.rp m i<R.at' m
   ·rw[bt h3];omega
   ·have z:=R.Z i j m hne Ω Ω Ω Ω Ω;omega
  ·rw[bC h2];by_cases h3:R.rp m i<R.at' m
   ·rw[bt h3];omega
   ·rw[bC h3,bC Ω];omega
theorem ez.ab9(i:Ix n):R.up m i<=2:=by unfold ez.up;split;omega;split<;>omega
theorem ez.aef(i:Ix n):R.dn m i<=2:=by unfold ez.dn;split;omega;split<;>omega
theorem ez.IQ(k:Nat)(hk:k≠1):(R.L (m-1)).filter (fun a=>decide (R.dn m a=k))=(R.L m).filter (fun a=>decide (R.up m a=k)):=by
 refine zl3 (le:=fun i j=>R.rp m i<R.rp m j) (fun a b _ _ h1 h2=>by omega) ?_ ?_ ((VT (R.s8.filter _) (R.s8.filter _)).2 fun i=>?_)
 ·refine(R.jH.filter _).imp_of_mem fun{i j} ha hb aq=>?_;simp only[tu,jk]at ha hb;have hl:=R.th ha.1 hb.1 aq;rw[show m-1+1=m by omega]at hl;have hne:i≠j:=fun h=>by subst h;omega
  have a1:=(R.mT).1 ha.1;have b1:=(R.mT).1 hb.1;have a2:R.hi i≠m:=fun h=>by have:=ha.2;unfold ez.dn at this;rw[bt h]at this;omega
  have b2:R.hi j≠m:=fun h=>by have:=hb.2;unfold ez.dn at this;rw[bt h]at this;omega
  by_cases he:R.rp m i=R.rp m j
  ·have z:=R.Z i j m hne Ω Ω Ω Ω he;omega
  ·omega
 ·refine(R.jH.filter _).imp_of_mem fun{i j} ha hb aq=>?_;simp only[tu,jk]at ha hb;have hl:=R.th ha.1 hb.1 aq;have hne:i≠j:=fun h=>by subst h;omega
  have a1:=(R.mT).1 ha.1;have b1:=(R.mT).1 hb.1;have a2:R.lo i≠m:=fun h=>by have:=ha.2;unfold ez.up at this;rw[bt h]at this;omega
  have b2:R.lo j≠m:=fun h=>by have:=hb.2;unfold ez.up at this;rw[bt h]at this;omega
  by_cases he:R.rp m i=R.rp m j
  ·have z:=R.Z i j m hne Ω Ω Ω Ω he;omega
  ·omega
 ·simp only[tu,jk,R.mT];unfold ez.dn ez.up;by_cases h1:R.hi i=m<;>by_cases h2:R.lo i=m<;>simp only[h1,h2,if_true,if_false]<;>omega
def ez.bk:cI (Ix n) where
 L:=R.L
 P m:=(R.L m).filter fun a=>decide (R.up m a=0)
 D m:=(R.L (m-1)).filter fun a=>decide (R.dn m a=1)
 U m:=(R.L m).filter fun a=>decide (R.up m a=1)
 Q m:=(R.L m).filter fun a=>decide (R.up m a=2)
 lo:=R.lo
 hi:=R.hi
 below m:=by rw[←R.IQ 0 Δ,←R.IQ 2 Δ];exact classes (R.dn m) R.aef R.US
 above m:=classes (R.up m) R.ab9 R.S7
 nodup m:=R.s8
 lt:=R.lt
 mem m i:=R.mT
 ends m i:=by
  simp only[tu,jk,R.mT];unfold ez.dn;have:=R.lt i;by_cases h1:R.hi i=m
  ·simp only[h1,if_true,iff_true];refine⟨Ω,trivial⟩
  ·simp only[h1,if_false,iff_false];by_cases h2:R.rp m i<R.at' m<;>simp[h2]
 qz m i:=by
  simp only[tu,jk,R.mT];unfold ez.up;have:=R.lt i;by_cases h1:R.lo i=m
  ·simp only[h1,if_true,iff_true];refine⟨Ω,trivial⟩
  ·simp only[h1,if_false,iff_false];by_cases h2:R.rp m i<R.at' m<;>simp[h2]
end
def tw(a b p:Pt):Int:=(b.x-a.x)*(p.y-a.y)-(b.y-a.y)*(p.x-a.x)
def Pt.h(p:Pt):Int:=8388608*p.y-p.x
def Pt.near(p:Pt):Prop:=-2097152<=p.x/\p.x<=2097152/\-2097152<=p.y/\p.y<=2097152
theorem SV{p q:Pt}(hp:p.near)(hq:q.near)(h:p.h=q.h):p=q:=by unfold Pt.near at hp hq;unfold Pt.h at h;have hy:p.y=q.y:=Ω;have hx:p.x=q.x:=Ω;cases p;cases q;simp_all
def opp(u v:Int):Prop:=¬ (0<u/\0<v)/\¬ (u<0/\v<0)
def nN(a b c d:Pt):Prop:=(tw a b c=0/\tw a b d=0/\dQ a b c d≠0)∨(¬ (tw a b c=0/\tw a b d=0)/\opp (tw a b c) (tw a b d)/\opp (tw c d a) (tw c d b))
structure bw(n:Nat) where
 A:Ix n->Pt
 B:Ix n->Pt
 oU:∀ i,(A i).near
 oS:∀ i,(B i).near
 ne:∀ i,A i≠B i
 meet:∀ i j,i≠j->nN (A i) (B i) (A j) (B j)->(∃ P,(P=A i∨P=B i)/\(P=A j∨P=B j))/\(tw (A i) (B i) (A j)=0->tw (A i) (B i) (B j)=0->dQ (A i) (B i) (A j) (B j)=1)
theorem zfm{a b c d:Pt}{κ:Pt->Int}(hb:∀ p q,p∈[a,b,c,d]->q∈[a,b,c,d]->jN p q=decide (κ p<κ q))(hi:∀ p q,p∈[a,b,c,d]->q∈[a,b,c,d]->eO p q=decide (κ p=κ q)) :
  dQ a b c d=if max (min (κ a) (κ b)) (min (κ c) (κ d))=min (max (κ a) (κ b)) (max (κ c) (κ d))then 1 else if max (min (κ a) (κ b)) (min (κ c) (κ d))<min (max (κ a) (κ b)) (max (κ c) (κ d))then 2 else 0:=by
 have key:∀ p q,p∈[a,b,c,d]->q∈[a,b,c,d]->(je p q).1∈[a,b,c,d]/\(je p q).2∈[a,b,c,d]/\κ (je p q).1=min (κ p) (κ q)/\κ (je p q).2=max (κ p) (κ q):=fun p q hp hq=>by
  unfold je;rw[hb q p hq hp];by_cases h:κ q<κ p
  ·simp only[h,decide_true,bT];exact⟨hq,hp,Ω,Ω⟩
  ·simp only[h,decide_false,bL];exact⟨hp,hq,Ω,Ω⟩
 obtain⟨a1,a2,a3,a4⟩:=key a b Ψ Ψ
 obtain⟨c1,c2,c3,c4⟩:=key c d Ψ Ψ
 unfold dQ
 rw[hb _ _ a1 c1,hb _ _ c2 a2]
 have f1:∃ f,f∈[a,b,c,d]/\(bif decide (κ (je a b).1<κ (je c d).1)then(je c d).1 else(je a b).1)=f/\κ f=max (min (κ a) (κ b)) (min (κ c) (κ d)):=by
  by_cases h:κ (je a b).1<κ (je c d).1
  ·exact⟨_,c1,by simp[h],Ω⟩
  ·exact⟨_,a1,by simp[h],Ω⟩
 have l1:∃ f,f∈[a,b,c,d]/\(bif decide (κ (je c d).2<κ (je a b).2)then(je c d).2 else(je a b).2)=f/\κ f=min (max (κ a) (κ b)) (max (κ c) (κ d)):=by
  by_cases h:κ (je c d).2<κ (je a b).2
  ·exact⟨_,c2,by simp[h],Ω⟩
  ·exact⟨_,a2,by simp[h],Ω⟩
 obtain⟨f,hf,e1,k1⟩:=f1
 obtain⟨l,hl,e2,k2⟩:=l1
 simp only[e1,e2,hi f l hf hl,hb f l hf hl,←k1,←k2]
 by_cases h1:κ f=κ l
 ·simp[h1]
 ·by_cases h2:κ f<κ l<;>simp[h1,h2]
theorem AF{p q:Pt}:eO p q=true↔p=q:=by unfold eO;cases p;cases q;simp
theorem zco{n:Nat}(f:Ix n->Int)(h:∀ i,f i≠0):∃ PI:Int,0<PI/\∀ i,f i∣PI:=by
 have key:∀ l:List (Ix n),∃ PI:Int,0<PI/\∀ i∈l,f i∣PI:=by
  intro l;induction l with
  |nil=>exact⟨1,Δ,fun _ h=>by cases h⟩
  |cons x l ih =>
   obtain⟨p,h1,h2⟩:=ih
   refine⟨p*(f x*f x),Ko h1 ?_,fun i hi=>?_⟩
   ·rcases Int.lt_or_gt_of_ne (h x)with hx|hx
    ·exact SS hx hx
    ·exact Ko hx hx
   ·rcases fF.1 hi with rfl|hi
    ·exact Int.dvd_trans (Int.dvd_mul_right ..) (Int.dvd_mul_left ..)
    ·exact Int.dvd_trans (h2 i hi) (Int.dvd_mul_right ..)
 obtain⟨p,h1,h2⟩:=key (List.finRange n);exact⟨p,h1,fun i=>h2 i (List.mem_finRange i)⟩
section
variable {n:Nat} (Dr:bw n) {PI:Int} {i j:Ix n} {h:Int}
theorem bw.hne(i:Ix n):(Dr.B i).h-(Dr.A i).h≠0:=fun h=>Dr.ne i (SV (Dr.oU i) (Dr.oS i) Ω)
def bw.c(PI:Int)(i:Ix n):Int:=PI/((Dr.B i).h-(Dr.A i).h)
def bw.be(PI:Int)(i:Ix n):Int:=((Dr.B i).x-(Dr.A i).x)*Dr.c PI i
def bw.rp(PI h:Int)(i:Ix n):Int:=(Dr.A i).x*PI+Dr.be PI i*(h-(Dr.A i).h)
theorem bw.c_eq(hd:((Dr.B i).h-(Dr.A i).h)∣PI):Dr.c PI i*((Dr.B i).h-(Dr.A i).h)=PI:=Int.ediv_mul_cancel hd
theorem bw.Xk(hd:((Dr.B i).h-(Dr.A i).h)∣PI)(P:Pt):Dr.rp PI P.h i-P.x*PI=Dr.c PI i*(8388608*tw (Dr.A i) (Dr.B i) P):=by have e:=Dr.c_eq hd;unfold bw.rp bw.be tw Pt.h at *;generalize Dr.c PI i=c at *;generalize(Dr.A i).x=ax at *;generalize(Dr.A i).y=ay at *;generalize(Dr.B i).x=bx at *;generalize(Dr.B i).y=yy at *;generalize P.x=px at *;generalize P.y=py at *;subst e;grind
theorem bw.ahr(i:Ix n):Dr.rp PI (Dr.A i).h i=(Dr.A i).x*PI:=by unfold bw.rp;simp
theorem bw.ahq(hd:((Dr.B i).h-(Dr.A i).h)∣PI):Dr.rp PI (Dr.B i).h i=(Dr.B i).x*PI:=by have e:=Dr.c_eq hd;unfold bw.rp bw.be;generalize Dr.c PI i=c at *;generalize(Dr.B i).h-(Dr.A i).h=D at *;subst e;grind
theorem bw.SK(k:Int):Dr.rp PI (h+k) i=Dr.rp PI h i+Dr.be PI i*k:=by unfold bw.rp;grind
end
theorem O8{c t1 t2 d1 d2:Int}(hc:c≠0)(h1:d1=c*(8388608*t1))(h2:d2=c*(8388608*t2))(hd:(d1<=0/\0<=d2)∨(d2<=0/\0<=d1)):opp t1 t2:=by
 subst h1 h2;unfold opp;rcases Int.lt_or_gt_of_ne hc with h|h
 ·constructor
  ·rintro⟨a,b⟩;have:=zlq h (show(0:Int)<8388608*t1 by omega);have:=zlq h (show(0:Int)<8388608*t2 by omega);omega
  ·rintro⟨a,b⟩;have:=SS h (show 8388608*t1<0 by omega);have:=SS h (show 8388608*t2<0 by omega);omega
 ·constructor
  ·rintro⟨a,b⟩;have:=Ko h (show(0:Int)<8388608*t1 by omega);have:=Ko h (show(0:Int)<8388608*t2 by omega);omega
  ·rintro⟨a,b⟩;have:=zlr h (show 8388608*t1<0 by omega);have:=zlr h (show 8388608*t2<0 by omega);omega
theorem zdy{c t d:Int}(hc:c≠0)(h1:d=c*(8388608*t)):t=0↔d=0:=by
 constructor
 ·rintro rfl;simpa using h1
 ·intro h;rw[h]at h1;rcases zmg.1 h1.symm with h|h
  ·exact absurd h hc
  ·omega
section
variable {n:Nat} (Dr:bw n) {PI:Int} {i j:Ix n} {h:Int}
def bw.lo(i:Ix n):Int:=min (Dr.A i).h (Dr.B i).h
def bw.hi(i:Ix n):Int:=max (Dr.A i).h (Dr.B i).h
variable (bK:0<PI) (hd:∀ i,((Dr.B i).h-(Dr.A i).h)∣PI)
include bK hd
theorem bw.U5:Dr.c PI i≠0:=fun h=>by have:=Dr.c_eq (hd i);rw[h,M4]at this;omega
theorem bw.jM{P:Pt}(h:P=Dr.A i∨P=Dr.B i):Dr.rp PI P.h i=P.x*PI:=by
 rcases h with rfl|rfl
 ·exact Dr.ahr i
 ·exact Dr.ahq (hd i)
theorem bw.diff{P:Pt}(h:P=Dr.A j∨P=Dr.B j):Dr.rp PI P.h i-Dr.rp PI P.h j=Dr.c PI i*(8388608*tw (Dr.A i) (Dr.B i) P):=by rw[Dr.jM bK hd h];exact Dr.Xk (hd i) P
theorem bw.from'(k:Int):Dr.rp PI k i=Dr.rp PI h i+Dr.be PI i*(k-h):=by have:=Dr.SK (PI:=PI) (i:=i) (h:=h) (k-h);rwa [show h+(k-h)=k by omega]at this
theorem bw.col(hij:i≠j)(hb:Dr.be PI i=Dr.be PI j)(he:Dr.rp PI h i=Dr.rp PI h j)(h1:Dr.lo i<=h)(h2:h<=Dr.hi i)(h3:Dr.lo j<=h)(h4:h<=Dr.hi j) :
  max (Dr.lo i) (Dr.lo j)=min (Dr.hi i) (Dr.hi j)/\∃ P,(P=Dr.A i∨P=Dr.B i)/\(P=Dr.A j∨P=Dr.B j):=by
 have hall:∀ k,Dr.rp PI k i=Dr.rp PI k j:=fun k=>by rw[Dr.from' bK hd (h:=h) k,Dr.from' bK hd (i:=j) (h:=h) k,he,hb]
 have t1:tw (Dr.A i) (Dr.B i) (Dr.A j)=0:=(zdy (Dr.U5 bK hd) (Dr.diff bK hd (i:=i) (j:=j) (.inl rfl))).2 (by rw[hall];omega)
 have t2:tw (Dr.A i) (Dr.B i) (Dr.B j)=0:=(zdy (Dr.U5 bK hd) (Dr.diff bK hd (i:=i) (j:=j) (.inr rfl))).2 (by rw[hall];omega)
 have near:∀ p,p∈[Dr.A i,Dr.B i,Dr.A j,Dr.B j]->p.near/\Dr.rp PI p.h i=p.x*PI:=fun p hp=>by
  simp only[fF,j4,k7]at hp;rcases hp with rfl|rfl|rfl|rfl
  ·exact⟨Dr.oU i,Dr.jM bK hd (.inl rfl)⟩
  ·exact⟨Dr.oS i,Dr.jM bK hd (.inr rfl)⟩
  ·exact⟨Dr.oU j,by rw[hall];exact Dr.jM bK hd (.inl rfl)⟩
  ·exact⟨Dr.oS j,by rw[hall];exact Dr.jM bK hd (.inr rfl)⟩
 have line:∀ p q,p∈[Dr.A i,Dr.B i,Dr.A j,Dr.B j]->q∈[Dr.A i,Dr.B i,Dr.A j,Dr.B j]->(p.x-q.x)*PI=Dr.be PI i*(p.h-q.h):=fun p q hp hq=>by have a:=(near p hp).2;have b:=(near q hq).2;have:=Dr.from' bK hd (i:=i) (h:=q.h) p.h;rw[Su];omega
 have eqs:∀ p q,p∈[Dr.A i,Dr.B i,Dr.A j,Dr.B j]->q∈[Dr.A i,Dr.B i,Dr.A j,Dr.B j]->eO p q=decide (p.h=q.h):=fun p q hp hq=>by
  by_cases hh:p.h=q.h
  ·rw[AF.2 (SV (near p hp).1 (near q hq).1 hh),decide_eq_true hh]
  ·rw[decide_eq_false hh,←sZ,AF];rintro rfl;exact hh rfl
 obtain⟨s,hs,κ⟩:∃ s:Int,(s=1∨s=-1)/\∀ p q,p∈[Dr.A i,Dr.B i,Dr.A j,Dr.B j]->q∈[Dr.A i,Dr.B i,Dr.A j,Dr.B j]->jN p q=decide (s*p.h<s*q.h):=by
  have bf:∀ p q:Pt,jN p q=true↔(p.x<q.x∨(p.x=q.x/\p.y<q.y)):=fun p q=>by simp[jN]
  rcases Int.lt_trichotomy (Dr.be PI i) 0 with hb|hb|hb
  ·refine⟨-1,.inr rfl,fun p q hp hq=>?_⟩;have e:=line p q hp hq;have e0:=SV (near p hp).1 (near q hq).1;rw[nU,bf,decide_eq_true_iff];by_cases hh:p.h=q.h
   ·obtain rfl:=e0 hh;omega
   ·by_cases au:p.h<q.h
    ·have:=SS hb (show p.h-q.h<0 by omega);have:q.x<p.x:=by
      by_cases hx:p.x-q.x<=0
      ·have:=VQ hx (HG bK);omega
      ·omega
     omega
    ·have:=zlq hb (show 0<p.h-q.h by omega);have:p.x<q.x:=by
      by_cases hx:0<=p.x-q.x
      ·have:=Fa hx (HG bK);omega
      ·omega
     omega
  ·refine⟨1,.inl rfl,fun p q hp hq=>?_⟩;have e:=line p q hp hq;rw[hb,M4]at e;rw[nU,bf,decide_eq_true_iff];have:p.x=q.x:=by rcases zmg.1 e with h|h<;>omega
   unfold Pt.h;omega
  ·refine⟨1,.inl rfl,fun p q hp hq=>?_⟩;have e:=line p q hp hq;have e0:=SV (near p hp).1 (near q hq).1;rw[nU,bf,decide_eq_true_iff];by_cases hh:p.h=q.h
   ·obtain rfl:=e0 hh;omega
   ·by_cases au:p.h<q.h
    ·have:=zlr hb (show p.h-q.h<0 by omega);have:p.x<q.x:=by
      by_cases hx:0<=p.x-q.x
      ·have:=Fa hx (HG bK);omega
      ·omega
     omega
    ·have:=Ko hb (show 0<p.h-q.h by omega);have:q.x<p.x:=by
      by_cases hx:p.x-q.x<=0
      ·have:=VQ hx (HG bK);omega
      ·omega
     omega
 have hsh:=zfm (κ:=fun p=>s*p.h) κ (fun p q hp hq=>by rw[eqs p q hp hq,nU,decide_eq_true_iff,decide_eq_true_iff];rcases hs with rfl|rfl<;>omega)
 unfold bw.lo bw.hi at *
 have nz:dQ (Dr.A i) (Dr.B i) (Dr.A j) (Dr.B j)≠0:=by
  rw[hsh];rcases hs with rfl|rfl
  ·split
   ·decide
   ·rw[bt Ω];decide
  ·split
   ·decide
   ·rw[bt Ω];decide
 obtain⟨hP,h1'⟩:=Dr.meet i j hij (.inl ⟨t1,t2,nz⟩)
 refine⟨?_,hP⟩
 have:=h1' t1 t2
 rw[hsh]at this
 rcases hs with rfl|rfl
 ·split at this
  ·omega
  ·split at this<;>omega
 ·split at this
  ·omega
  ·split at this<;>omega
theorem bw.W3(hij:i≠j)
  (oi:(Dr.rp PI (Dr.A i).h i-Dr.rp PI (Dr.A i).h j<=0/\0<=Dr.rp PI (Dr.B i).h i-Dr.rp PI (Dr.B i).h j)∨(Dr.rp PI (Dr.B i).h i-Dr.rp PI (Dr.B i).h j<=0/\0<=Dr.rp PI (Dr.A i).h i-Dr.rp PI (Dr.A i).h j))
  (oj:(Dr.rp PI (Dr.A j).h i-Dr.rp PI (Dr.A j).h j<=0/\0<=Dr.rp PI (Dr.B j).h i-Dr.rp PI (Dr.B j).h j)∨(Dr.rp PI (Dr.B j).h i-Dr.rp PI (Dr.B j).h j<=0/\0<=Dr.rp PI (Dr.A j).h i-Dr.rp PI (Dr.A j).h j))
  (hz:¬ (Dr.rp PI (Dr.A j).h i-Dr.rp PI (Dr.A j).h j=0/\Dr.rp PI (Dr.B j).h i-Dr.rp PI (Dr.B j).h j=0)):∃ P,(P=Dr.A i∨P=Dr.B i)/\(P=Dr.A j∨P=Dr.B j)/\Dr.rp PI P.h i=Dr.rp PI P.h j:=by
 have a1:=Dr.diff bK hd (i:=i) (j:=j) (P:=Dr.A j) (.inl rfl)
 have a2:=Dr.diff bK hd (i:=i) (j:=j) (P:=Dr.B j) (.inr rfl)
 have b1:=Dr.diff bK hd (i:=j) (j:=i) (P:=Dr.A i) (.inl rfl)
 have b2:=Dr.diff bK hd (i:=j) (j:=i) (P:=Dr.B i) (.inr rfl)
 have cn:=Dr.U5 bK hd (i:=i)
 have cm:=Dr.U5 bK hd (i:=j)
 obtain⟨⟨P,h1,h2⟩,_⟩:=Dr.meet i j hij (.inr ⟨fun h=>hz ⟨(zdy cn a1).1 h.1,(zdy cn a2).1 h.2⟩,O8 cn a1 a2 oj,O8 cm b1 b2 Ω⟩)
 exact⟨P,h1,h2,by rw[Dr.jM bK hd h1,Dr.jM bK hd h2]⟩
end
section
variable {n:Nat} (Dr:bw n) {PI:Int}
theorem ZM{b u:Int}:(0<=b->0<=u->0<=b*u)/\(0<=b->u<=0->b*u<=0)/\(b<=0->0<=u->b*u<=0)/\(b<=0->u<=0->0<=b*u) :=
 ⟨fun h1 h2=>Fa h1 h2,fun h1 h2=>NG h1 h2,fun h1 h2=>VQ h1 h2,fun h1 h2=>zm6 h1 h2⟩
def bw.bn(bK:0<PI)(hd:∀ i,((Dr.B i).h-(Dr.A i).h)∣PI):ez n where
 lo:=Dr.lo
 hi:=Dr.hi
 rp h i:=Dr.rp PI h i
 lt i:=by have:=Dr.hne i;unfold bw.lo bw.hi;omega
 V i j h h1 h2:=by
  have key:∀ i,Dr.lo i=h∨Dr.hi i=h->∃ P,(P=Dr.A i∨P=Dr.B i)/\P.h=h:=fun i hi=>by
   unfold bw.lo bw.hi at hi;by_cases ha:(Dr.A i).h=h
   ·exact⟨_,.inl rfl,ha⟩
   ·exact⟨_,.inr rfl,Ω⟩
  obtain⟨P,p1,p2⟩:=key i h1;obtain⟨Q,q1,q2⟩:=key j h2;have e:P=Q:=SV (by rcases p1 with rfl|rfl;exact Dr.oU i;exact Dr.oS i) (by rcases q1 with rfl|rfl;exact Dr.oU j;exact Dr.oS j) Ω;have e1:=Dr.jM bK hd p1;have e2:=Dr.jM bK hd q1;rw[p2]at e1;rw[q2]at e2;rw[e1,e2,e]
 Z i j h hij h1 h2 h3 h4 he:=by
  have hP:∃ P,(P=Dr.A i∨P=Dr.B i)/\(P=Dr.A j∨P=Dr.B j)/\P.h=h:=by
   by_cases hb:Dr.be PI i=Dr.be PI j
   ·obtain⟨c1,P,p1,p2⟩:=Dr.col bK hd hij hb he h1 h2 h3 h4;refine⟨P,p1,p2,?_⟩;have a:Dr.lo i<=P.h/\P.h<=Dr.hi i:=by unfold bw.lo bw.hi;rcases p1 with rfl|rfl<;>omega
    have b:Dr.lo j<=P.h/\P.h<=Dr.hi j:=by unfold bw.lo bw.hi;rcases p2 with rfl|rfl<;>omega
    omega
   ·have df:∀ k,Dr.rp PI k i-Dr.rp PI k j=(Dr.be PI i-Dr.be PI j)*(k-h):=fun k=>by rw[Dr.from' bK hd (h:=h) k,Dr.from' bK hd (i:=j) (h:=h) k,he,Su];omega
    have hb0:Dr.be PI i-Dr.be PI j≠0:=Ω;have ni:=Dr.hne i;have nj:=Dr.hne j;have z:∀ k,Dr.rp PI k i-Dr.rp PI k j=0->k=h:=fun k hk=>by
     rw[df]at hk;rcases zmg.1 hk with h|h
     ·exact absurd h hb0
     ·omega
    have o:∀ u v,(u<=h/\h<=v)∨(v<=h/\h<=u)->(Dr.rp PI u i-Dr.rp PI u j<=0/\0<=Dr.rp PI v i-Dr.rp PI v j)∨(Dr.rp PI v i-Dr.rp PI v j<=0/\0<=Dr.rp PI u i-Dr.rp PI u j):=fun u v huv=>by
     rw[df u,df v];obtain⟨a1,a2,a3,a4⟩:=ZM (b:=Dr.be PI i-Dr.be PI j) (u:=u-h);obtain⟨b1,b2,b3,b4⟩:=ZM (b:=Dr.be PI i-Dr.be PI j) (u:=v-h);rcases zok 0 (Dr.be PI i-Dr.be PI j)with hs|hs<;>rcases huv with⟨g1,g2⟩|⟨g1,g2⟩
     ·exact .inl ⟨a2 hs Ω,b1 hs Ω⟩
     ·exact .inr ⟨b2 hs Ω,a1 hs Ω⟩
     ·exact .inr ⟨b3 hs Ω,a4 hs Ω⟩
     ·exact .inl ⟨a3 hs Ω,b4 hs Ω⟩
    unfold bw.lo at h1 h3;unfold bw.hi at h2 h4;obtain ⟨P,p1,p2,p3⟩:=Dr.W3 bK hd hij (o _ _ Ω) (o _ _ Ω) (fun hh=>by
     have:=z _ hh.1;have:=z _ hh.2;omega)
    exact⟨P,p1,p2,z _ Ω⟩
  obtain⟨P,p1,p2,p3⟩:=hP;unfold bw.lo bw.hi at *;constructor
  ·rcases p1 with rfl|rfl<;>omega
  ·rcases p2 with rfl|rfl<;>omega
 C i j h h1 h2 h3 h4:=by
  rintro⟨c1,c2⟩;have hij:i≠j:=fun e=>by subst e;omega
  have e1:=Dr.SK (PI:=PI) (i:=i) (h:=h) 1;have e2:=Dr.SK (PI:=PI) (i:=j) (h:=h) 1;have df:∀ k,Dr.rp PI k i-Dr.rp PI k j=(Dr.rp PI h i-Dr.rp PI h j)+(Dr.be PI i-Dr.be PI j)*(k-h):=fun k=>by rw[Dr.from' bK hd (h:=h) k,Dr.from' bK hd (i:=j) (h:=h) k,Su];omega
  have hb:0<Dr.be PI i-Dr.be PI j:=Ω;have dn:∀ k,k<=h->Dr.rp PI k i-Dr.rp PI k j<0:=fun k hk=>by rw[df];have:=(ZM (b:=Dr.be PI i-Dr.be PI j) (u:=k-h)).2.1 Ω Ω;omega
  have up:∀ k,h+1<=k->0<Dr.rp PI k i-Dr.rp PI k j:=fun k hk=>by have e3:=df (h+1);rw[df];have:=Int.mul_le_mul_of_nonneg_left (show 1<=k-h by omega) (HG hb);rw[show h+1-h=1 by omega]at e3;omega
  unfold bw.lo at h1 h3;unfold bw.hi at h2 h4;have o:∀ u v,(u<=h/\h+1<=v)∨(v<=h/\h+1<=u)->(Dr.rp PI u i-Dr.rp PI u j<=0/\0<=Dr.rp PI v i-Dr.rp PI v j)∨(Dr.rp PI v i-Dr.rp PI v j<=0/\0<=Dr.rp PI u i-Dr.rp PI u j):=fun u v huv=>by
   rcases huv with⟨g1,g2⟩|⟨g1,g2⟩
   ·exact .inl ⟨HG (dn _ g1),HG (up _ g2)⟩
   ·exact .inr ⟨HG (dn _ g1),HG (up _ g2)⟩
  have nz:∀ k,k<=h∨h+1<=k->Dr.rp PI k i-Dr.rp PI k j≠0:=fun k hk=>by
   rcases hk with hk|hk
   ·have:=dn k hk;omega
   ·have:=up k hk;omega
  obtain⟨P,p1,p2,p3⟩:=Dr.W3 bK hd hij (o _ _ Ω) (o _ _ Ω) (fun hh=>nz _ Ω hh.1);exact nz P.h Ω Ω
 W i j h hij h1 h2 h3 h4:=by rintro⟨c1,c2⟩;have e1:=Dr.SK (PI:=PI) (i:=i) (h:=h) 1;have e2:=Dr.SK (PI:=PI) (i:=j) (h:=h) 1;have:=(Dr.col bK hd hij Ω c1 h1 Ω h3 Ω).1;omega
end
section
variable {n:Nat} (Dr:bw n) {PI:Int} {i j:Ix n} {m:Int}
def bw.gP(x:Dt (Ix n)):Pt:=if x.up=decide ((Dr.A x.s).h<(Dr.B x.s).h)then Dr.A x.s else Dr.B x.s
def bw.to(x:Dt (Ix n)):Pt:=if x.up=decide ((Dr.A x.s).h<(Dr.B x.s).h)then Dr.B x.s else Dr.A x.s
theorem bw.rD(x:Dt (Ix n)):(Dr.gP x=Dr.A x.s/\Dr.to x=Dr.B x.s)∨(Dr.gP x=Dr.B x.s/\Dr.to x=Dr.A x.s):=by
 unfold bw.gP bw.to;by_cases h:x.up=decide ((Dr.A x.s).h<(Dr.B x.s).h)
 ·rw[bt h,bt h];exact .inl ⟨rfl,rfl⟩
 ·rw[bC h,bC h];exact .inr ⟨rfl,rfl⟩
theorem bw.vD(x:Dt (Ix n)):(x.up=true->(Dr.gP x).h=Dr.lo x.s/\(Dr.to x).h=Dr.hi x.s)/\(x.up=false->(Dr.gP x).h=Dr.hi x.s/\(Dr.to x).h=Dr.lo x.s):=by
 have:=Dr.hne x.s;unfold bw.gP bw.to bw.lo bw.hi;by_cases h:(Dr.A x.s).h<(Dr.B x.s).h
 ·rw[decide_eq_true h];constructor
  ·intro hu;simp only[hu,if_true];omega
  ·intro hu;simp only[hu,l7,if_false];omega
 ·rw[decide_eq_false h];constructor
  ·intro hu;simp only[hu,Bool.true_eq_false,if_false];omega
  ·intro hu;simp only[hu,if_true];omega
theorem bw.kK(x:Dt (Ix n)):(Dr.gP x).near/\(Dr.to x).near:=by
 rcases Dr.rD x with⟨h1,h2⟩|⟨h1,h2⟩<;>rw[h1,h2]
 ·exact⟨Dr.oU _,Dr.oS _⟩
 ·exact⟨Dr.oS _,Dr.oU _⟩
variable (bK:0<PI) (hd:∀ i,((Dr.B i).h-(Dr.A i).h)∣PI)
include bK hd
theorem bw.V1(x:Dt (Ix n)):Dr.be PI x.s*((Dr.to x).h-(Dr.gP x).h)=((Dr.to x).x-(Dr.gP x).x)*PI:=by have e:=Dr.from' bK hd (i:=x.s) (h:=(Dr.gP x).h) (Dr.to x).h;have h1:Dr.gP x=Dr.A x.s∨Dr.gP x=Dr.B x.s:=(Dr.rD x).imp (fun h=>h.1) (fun h=>h.1);have h2:Dr.to x=Dr.A x.s∨Dr.to x=Dr.B x.s:=(Dr.rD x).symm.imp (fun h=>h.2) (fun h=>h.2);rw[Dr.jM bK hd h1,Dr.jM bK hd h2]at e;rw[Su];omega
theorem bw.NN{x y:Dt (Ix n)}(ho:Dr.gP x=Dr.gP y)(hu:x.up=y.up)(hb:Dr.be PI y.s<Dr.be PI x.s):0<tw (Dr.gP x) (Dr.to x) (Dr.to y):=by
 have sx:=Dr.V1 bK hd x;have sy:=Dr.V1 bK hd y;rw[←ho]at sy;have hx:=Dr.vD x;have hy:=Dr.vD y;rw[←ho,←hu]at hy;have lx:=Dr.hne x.s;have ly:=Dr.hne y.s;have s1:0<((Dr.to x).h-(Dr.gP x).h)*((Dr.to y).h-(Dr.gP x).h):=by
  unfold bw.lo bw.hi at hx hy;cases h:x.up
  ·exact SS (by have:=hx.2 h;omega) (by have:=hy.2 h;omega)
  ·exact Ko (by have:=hx.1 h;omega) (by have:=hy.1 h;omega)
 have s2:=znv hb s1;have key:0<PI*(8388608*tw (Dr.gP x) (Dr.to x) (Dr.to y)):=by
  have e:PI*(8388608*tw (Dr.gP x) (Dr.to x) (Dr.to y))=Dr.be PI x.s*(((Dr.to x).h-(Dr.gP x).h)*((Dr.to y).h-(Dr.gP x).h))-Dr.be PI y.s*(((Dr.to x).h-(Dr.gP x).h)*((Dr.to y).h-(Dr.gP x).h)):=by
   rw [show Dr.be PI x.s*(((Dr.to x).h - (Dr.gP x).h)*((Dr.to y).h - (Dr.gP x).h))=(Dr.be PI x.s*((Dr.to x).h - (Dr.gP x).h))*((Dr.to y).h - (Dr.gP x).h) from (Int.mul_assoc ..).symm,sx,
    show Dr.be PI y.s*(((Dr.to x).h - (Dr.gP x).h)*((Dr.to y).h - (Dr.gP x).h))=(Dr.be PI y.s*((Dr.to y).h - (Dr.gP x).h))*((Dr.to x).h - (Dr.gP x).h) by rw [zoj ((Dr.to x).h - (Dr.gP x).h),Int.mul_assoc],sy]
   unfold tw Pt.h;generalize(Dr.gP x).x=ax;generalize(Dr.gP x).y=ay;generalize(Dr.to x).x=bx;generalize(Dr.to x).y=bY;generalize(Dr.to y).x=cx;generalize(Dr.to y).y=cy;clear s2 s1 sx sy hx hy lx ly hb ho hu hd;grind
  omega
 by_cases ht:0<tw (Dr.gP x) (Dr.to x) (Dr.to y)
 ·exact ht
 ·have:=NG (HG bK) (show 8388608*tw (Dr.gP x) (Dr.to x) (Dr.to y)<=0 by omega);omega
end
def B8(o p:Pt):Bool:=decide (p.y<o.y)||(p.y==o.y&&decide (p.x<o.x))
def lss(o p q:Pt):Bool:=bif B8 o p != B8 o q then B8 o q else decide (0<tw o p q)
theorem Yu{o p:Pt}:B8 o p=true↔p.y<o.y∨(p.y=o.y/\p.x<o.x):=by simp[B8]
def Fi(o p:Pt):Prop:=p.y=o.y/\o.x<p.x
theorem zfn{o p:Pt}(ho:o.near)(hp:p.near)(h:o.h<p.h):o.y<p.y∨(p.y=o.y/\p.x<o.x):=by unfold Pt.near at *;unfold Pt.h at h;omega
theorem GN{o p:Pt}(ho:o.near)(hp:p.near)(h:p.h<o.h):p.y<o.y∨(p.y=o.y/\o.x<p.x):=by unfold Pt.near at *;unfold Pt.h at h;omega
theorem zfo{o p q:Pt}(h1:B8 o p=false)(h2:B8 o q=true):lss o p q=true:=by simp[lss,h1,h2]
theorem zbx{o p q:Pt}(h1:B8 o p=B8 o q)(h2:0<tw o p q):lss o p q=true:=by simp[lss,h1,h2]
theorem AO{o p:Pt}(h:¬ (p.y<o.y∨(p.y=o.y/\p.x<o.x))):B8 o p=false:=by rw[←sZ,Yu];exact h
theorem aa5{o p q:Pt}(ho:o.near)(hp:p.near)(hq:q.near)(h1:o.h<p.h)(h2:o.h<q.h)(ht:0<tw o p q):lss o p q=true:=by
 have d1:=zfn ho hp h1;have d2:=zfn ho hq h2;have e:o.y<p.y:=by
  rcases d1 with h|h
  ·exact h
  ·unfold tw at ht;rw[h.1,znd,M4]at ht;have:=VQ (show p.x-o.x<=0 by omega) (show 0<=q.y-o.y by omega);omega
 have l1:=AO (o:=o) (p:=p) Ω;cases l2:B8 o q
 ·exact zbx (by rw[l1,l2]) ht
 ·exact zfo l1 l2
theorem aa7{o p q:Pt}(ho:o.near)(hp:p.near)(hq:q.near)(h1:p.h<o.h)(h2:q.h<o.h)(ht:0<tw o p q):¬ Fi o p/\(¬ Fi o q->lss o p q=true):=by
 have d1:=GN ho hp h1;have d2:=GN ho hq h2;have e:¬ Fi o p:=fun h=>by unfold tw at ht;rw[h.1,znd,M4]at ht;have:=NG (show 0<=p.x-o.x by have:=h.2;omega) (show q.y-o.y<=0 by omega);omega
 refine⟨e,fun hq=>zbx ?_ ht⟩;unfold Fi at *;rw[Yu.2 Ω,Yu.2 Ω]
theorem aa6{o p q:Pt}(ho:o.near)(hp:p.near)(hq:q.near)(h1:o.h<p.h)(h2:q.h<o.h)(he:¬ Fi o q):lss o p q=true:=by
 have d1:=zfn ho hp h1;have d2:=GN ho hq h2;unfold Fi at he;have l2:B8 o q=true:=Yu.2 Ω;rcases d1 with h|h
 ·exact zfo (AO Ω) l2
 ·refine zbx (by rw[l2,Yu.2 (.inr h)]) ?_;unfold tw;rw[h.1,znd,M4];have:=SS (show p.x-o.x<0 by omega) (show q.y-o.y<0 by omega);omega
theorem adf{o p q:Pt}(hp:Fi o p)(hq:¬ Fi o q)(hn:q≠o):lss o p q=true:=by
 unfold Fi at *;have l1:=AO (o:=o) (p:=p) Ω;cases l2:B8 o q
 ·refine zbx (by rw[l1,l2]) ?_;have h3:¬ (q.y<o.y∨(q.y=o.y/\q.x<o.x)):=fun h=>by rw[Yu.2 h]at l2;cases l2
  have h4:¬ (q.y=o.y/\q.x=o.x):=fun h=>hn (by cases q;cases o;simp_all);unfold tw;rw[hp.1,znd,M4];have:=Ko (show 0<p.x-o.x by omega) (show 0<q.y-o.y by omega);omega
 ·exact zfo l1 l2
section
variable {n:Nat} (Dr:bw n) {PI:Int} {i j:Ix n} {m:Int}
variable (bK:0<PI) (hd:∀ i,((Dr.B i).h-(Dr.A i).h)∣PI)
theorem bw.vR:((Dr.bn bK hd).bk.ring m).Pairwise fun x y=>(x.up=y.up/\Dr.be PI y.s<Dr.be PI x.s)∨(x.up=true/\y.up=false):=by
 unfold cI.ring;rw[VM,qO,qO,zmk];have af4:∀ i,Dr.rp PI (m+1) i=Dr.rp PI m i+Dr.be PI i:=fun i=>by have:=Dr.SK (PI:=PI) (i:=i) (h:=m) 1;omega
 have af3:∀ i,Dr.rp PI (m-1) i=Dr.rp PI m i-Dr.be PI i:=fun i=>by have:=Dr.SK (PI:=PI) (i:=i) (h:=m) (-1);rw[show m+-1=m-1 by omega]at this;omega
 refine⟨?_,?_,fun a ha b hb=>?_⟩
 ·refine((Dr.bn bK hd).jH.filter (fun a=>decide ((Dr.bn bK hd).up m a=1))).imp_of_mem fun{i j} hi hj hk=>.inl ⟨rfl,?_⟩;have h1:=((Dr.bn bK hd).bk.qz m i).1 hi;have h2:=((Dr.bn bK hd).bk.qz m j).1 hj;have v:Dr.rp PI m i=Dr.rp PI m j:=(Dr.bn bK hd).V i j m (.inl h1) (.inl h2);have hk:Dr.rp PI m i+Dr.rp PI (m+1) i<Dr.rp PI m j+Dr.rp PI (m+1) j:=hk;rw[af4,af4]at hk;simp only;omega
 ·refine((Dr.bn bK hd).jH.filter (fun a=>decide ((Dr.bn bK hd).dn m a=1))).imp_of_mem fun{i j} hi hj hk=>.inl ⟨rfl,?_⟩;have h1:=((Dr.bn bK hd).bk.ends m i).1 hi;have h2:=((Dr.bn bK hd).bk.ends m j).1 hj;have v:Dr.rp PI m i=Dr.rp PI m j:=(Dr.bn bK hd).V i j m (.inr h1) (.inr h2);have hk:Dr.rp PI (m-1) i+Dr.rp PI (m-1+1) i<Dr.rp PI (m-1) j+Dr.rp PI (m-1+1) j:=hk;rw[show m-1+1=m by omega,af3,af3]at hk;simp only;omega
 ·obtain⟨i,_,rfl⟩:=jA.1 ha;obtain⟨j,_,rfl⟩:=jA.1 hb;exact .inr ⟨rfl,rfl⟩
theorem bw.CK{x:Dt (Ix n)}(hx:x∈(Dr.bn bK hd).bk.ring m):(Dr.gP x).h=m:=by
 have hu:=Dr.vD x;unfold cI.ring at hx;rcases og.1 hx with h|h
 ·obtain⟨i,hi,rfl⟩:=jA.1 h;rw[Sw]at hi;exact(hu.1 rfl).1.trans (((Dr.bn bK hd).bk.qz m i).1 hi)
 ·obtain⟨i,hi,rfl⟩:=jA.1 h;exact(hu.2 rfl).1.trans (((Dr.bn bK hd).bk.ends m i).1 hi)
theorem bw.jJ{x:Dt (Ix n)}:x∈(Dr.bn bK hd).bk.ring m↔(Dr.gP x).h=m:=by
 refine⟨Dr.CK bK hd,fun h=>?_⟩;have hu:=Dr.vD x;obtain⟨i,b⟩:=x;unfold cI.ring;cases b
 ·exact XI _ (jA.2 ⟨i,((Dr.bn bK hd).bk.ends m i).2 ((hu.2 rfl).1.symm.trans h),rfl⟩)
 ·exact SA _ (jA.2 ⟨i,by rw[Sw];exact((Dr.bn bK hd).bk.qz m i).2 ((hu.1 rfl).1.symm.trans h),rfl⟩)
theorem bw.vS{o:Pt}(ho:o.near)(hm:o.h=m):∃ R1 R2,(Dr.bn bK hd).bk.ring m=R1++R2/\(R2++R1).Pairwise fun x y=>lss o (Dr.to x) (Dr.to y)=true:=by
 have hp:=Dr.vR bK hd (m:=m);have gP:∀ x,x∈(Dr.bn bK hd).bk.ring m->Dr.gP x=o:=fun x hx=>SV (Dr.kK x).1 ho (by rw[Dr.CK bK hd hx,hm]);have hgt:∀ x,x∈(Dr.bn bK hd).bk.ring m->(x.up=true->o.h<(Dr.to x).h)/\(x.up=false->(Dr.to x).h<o.h):=fun x hx=>by have:=Dr.vD x;rw[gP x hx]at this;have hn:=Dr.hne x.s;unfold bw.lo bw.hi at this;exact⟨fun h=>by have:=this.1 h;omega,fun h=>by have:=this.2 h;omega⟩
 have pair:∀ x y,x∈(Dr.bn bK hd).bk.ring m->y∈(Dr.bn bK hd).bk.ring m->(x.up=y.up/\Dr.be PI y.s<Dr.be PI x.s)∨(x.up=true/\y.up=false)->¬ Fi o (Dr.to x)/\(¬ Fi o (Dr.to y)->lss o (Dr.to x) (Dr.to y)=true):=fun x y hx hy hxy=>by
  have gx:=hgt x hx;have gy:=hgt y hy;have nx:=(Dr.kK x).2;have ny:=(Dr.kK y).2;rcases hxy with⟨h1,h2⟩|⟨h1,h2⟩
  ·have ht:=Dr.NN bK hd ((gP x hx).trans (gP y hy).symm) h1 h2;rw[gP x hx]at ht;cases hu:x.up
   ·exact aa7 ho nx ny (gx.2 hu) (gy.2 (h1▸hu)) ht
   ·refine⟨fun he=>?_,fun _=>aa5 ho nx ny (gx.1 hu) (gy.1 (h1▸hu)) ht⟩;have:=zfn ho nx (gx.1 hu);unfold Fi at he;omega
  ·refine⟨fun he=>?_,aa6 ho nx ny (gx.1 h1) (gy.2 h2)⟩;have:=zfn ho nx (gx.1 h1);unfold Fi at he;omega
 generalize hr:(Dr.bn bK hd).bk.ring m=R at hp gP hgt pair;have core:∀ L:List (Dt (Ix n)),(∀ x∈L,x∈R/\¬ Fi o (Dr.to x))->(L.Pairwise fun x y=>(x.up=y.up/\Dr.be PI y.s<Dr.be PI x.s)∨(x.up=true/\y.up=false))->L.Pairwise fun x y=>lss o (Dr.to x) (Dr.to y)=true:=fun L hL h=>h.imp_of_mem fun{a b} ha hb aq=>(pair a b (hL a ha).1 (hL b hb).1 aq).2 (hL b hb).2;rcases zml R with rfl|⟨R1,e,rfl⟩
 ·exact⟨[],[],rfl,.nil⟩
 ·rw[znf]at *;rw[VM]at hp;have ada:∀ x∈R1,¬ Fi o (Dr.to x):=fun x hx=>(pair x e (by simp[hx]) Ψ (hp.2.2 x hx e Ψ)).1;by_cases he:Fi o (Dr.to e)
  ·refine⟨R1,[e],rfl,?_⟩;rw[VM];refine⟨zoe ..,core R1 (fun x hx=>⟨by simp[hx],ada x hx⟩) hp.1,fun a ha b hb=>?_⟩;rw[qx]at ha;subst ha;refine adf he (ada b hb) fun hh=>?_;have:=hgt b (by simp[hb]);rw[hh]at this;cases hu:b.up
   ·have:=this.2 hu;omega
   ·have:=this.1 hu;omega
  ·refine⟨R1++[e],[],Ψ,?_⟩;rw[gM];exact core _ (fun x hx=>⟨hx,by
    rcases og.1 hx with h|h
    ·exact ada x h
    ·rw[qx]at h;subst h;exact he⟩) (VM.2 hp)
end
def uN{α:Type}(l:List α)(x y:α):Prop:=(∃ A B,l=A++x::y::B)∨∃ B,l=y::B/\l.getLast?=some x
theorem uN.mem{α:Type}{l:List α}{x y:α}(h:uN l x y):x∈l/\y∈l:=by
 rcases h with⟨A,B,rfl⟩|⟨B,rfl,h⟩
 ·simp
 ·exact⟨znp h,Ψ⟩
theorem uN.rot{α:Type}{l r:List α}{x y:α}(h:uN (l++r) x y):uN (r++l) x y:=by
 rcases h with⟨A,B,h⟩|⟨B,h1,h2⟩
 ·rcases zn5.1 h with⟨C,rfl,hr⟩|⟨C,rfl,hr⟩
  ·exact .inl ⟨C,B++l,by rw[hr];simp⟩
  ·rcases C with _|⟨c,_|⟨c2,C⟩⟩
   ·simp only[gM]at hr;subst hr;exact .inl ⟨[],B++A,Ψ⟩
   ·simp only[gQ,gM,znq]at hr;obtain⟨rfl,rfl⟩:=hr;exact .inr ⟨B++(A++[x]),Ψ,by rw[←kR];exact List.getLast?_concat⟩
   ·simp only[gQ,znq]at hr;obtain⟨rfl,rfl,rfl⟩:=hr;exact .inl ⟨r++A,C,Ψ⟩
 ·cases l with
  |nil=>exact .inr ⟨B,by simpa using h1,by simpa using h2⟩
  |cons c l =>
   obtain⟨rfl,rfl⟩:=znk h1
   rcases zml r with rfl|⟨r',z,rfl⟩
   ·exact .inr ⟨l,Ψ,by simpa using h2⟩
   ·rw[znf]at *
    have:z=x:=by simpa[List.getLast?_append,List.getLast?_cons]using h2
    subst this
    exact .inl ⟨r',l,Ψ⟩
theorem uN.map{α β:Type}(g:α->β){l:List α}{x y:α}(h:uN l x y):uN (l.map g) (g x) (g y):=by
 rcases h with⟨A,B,rfl⟩|⟨B,rfl,h⟩
 ·exact .inl ⟨A.map g,B.map g,Ψ⟩
 ·exact .inr ⟨B.map g,Ψ,by rw[List.getLast?_map,h];rfl⟩
theorem uN.ne{α:Type}{l:List α}{x z:α}(hn:l.Nodup)(h:uN l x x)(hz:z∈l):z=x:=by
 rcases h with⟨A,B,rfl⟩|⟨B,rfl,h⟩
 ·rw[M3,znr]at hn;exact absurd (kB ..) hn.2.1.1
 ·cases B with
  |nil=>simpa using hz
  |cons b B =>
   rw[zod]at h
   exact absurd (znp h) (znr.1 hn).1
theorem abp{S:Type}[DecidableEq S]{T:cI S}{f:Dt S->Bool}(h:∀ m x y,uN (T.ring m) x y->f y.rev=f x):T.M0 f :=
 ⟨fun m A B x y e=>h m x y (.inl ⟨A,B,e⟩),fun m B x y e1 e2=>h m x y (.inr ⟨B,e1,e2⟩)⟩
structure Net where
 E:List (Int×Nat)
 len:Int->Nat
 pt:Int->Nat->Pt
 nodup:E.Nodup
 mem:∀ a k,(a,k)∈E->0<a/\k<len a
 whole:∀ a k j,(a,k)∈E->j<len a->(a,j)∈E
 near:∀ a k j,(a,k)∈E->j<=len a->(pt a j).near
 ne:∀ a k,(a,k)∈E->pt a k≠pt a (k+1)
 meet:∀ a k b j,(a,k)∈E->(b,j)∈E->(a,k)≠(b,j)->nN (pt a k) (pt a (k+1)) (pt b j) (pt b (j+1)) ->
  (∃ P,(P=pt a k∨P=pt a (k+1))/\(P=pt b j∨P=pt b (j+1)))/\(tw (pt a k) (pt a (k+1)) (pt b j)=0->tw (pt a k) (pt a (k+1)) (pt b (j+1))=0->dQ (pt a k) (pt a (k+1)) (pt b j) (pt b (j+1))=1)
 via:∀ a k b j,(a,0)∈E->(b,0)∈E->0<k->k<len a->j<=len b->pt b j=pt a k->b=a/\j=k
section
variable (N:Net)
theorem Net.get_mem(i:Ix N.E.length):(N.E[i].1,N.E[i].2)∈N.E:=gU _
def Net.drawn:bw N.E.length where
 A i:=N.pt N.E[i].1 N.E[i].2
 B i:=N.pt N.E[i].1 (N.E[i].2+1)
 oU i:=N.near _ _ _ (N.get_mem i) (Nat.le_of_lt (N.mem _ _ (N.get_mem i)).2)
 oS i:=N.near _ _ _ (N.get_mem i) (N.mem _ _ (N.get_mem i)).2
 ne i:=N.ne _ _ (N.get_mem i)
 meet i j hij:=N.meet _ _ _ _ (N.get_mem i) (N.get_mem j) fun h=>hij (by
  have h2:N.E[i]=N.E[j]:=by rw[qN]at h;exact Prod.ext h.1 h.2
  exact Fin.ext ((M1 N.nodup).1 h2))
def Net.fwd(x:Dt (Ix N.E.length)):Bool:=x.up==decide ((N.drawn.A x.s).h<(N.drawn.B x.s).h)
def Net.bE(x:Dt (Ix N.E.length)):Int:=if N.fwd x then N.E[x.s].1 else-N.E[x.s].1
theorem Net.UA(x:Dt (Ix N.E.length)):N.fwd x.rev=!N.fwd x:=by unfold Net.fwd Dt.rev;cases x.up<;>cases decide ((N.drawn.A x.s).h<(N.drawn.B x.s).h)<;>rfl
theorem Net.mV(x:Dt (Ix N.E.length)):N.bE x.rev=- N.bE x:=by unfold Net.bE;rw[N.UA];cases N.fwd x<;>simp[Dt.rev]
theorem Net.j9{x:Dt (Ix N.E.length)}(h:N.fwd x=true):N.drawn.gP x=N.pt N.E[x.s].1 N.E[x.s].2/\N.drawn.to x=N.pt N.E[x.s].1 (N.E[x.s].2+1):=by unfold Net.fwd at h;have h:=eq_of_beq h;unfold bw.gP bw.to;rw[bt h,bt h];exact⟨rfl,rfl⟩
theorem Net.kj{x:Dt (Ix N.E.length)}(h:N.fwd x=false):N.drawn.gP x=N.pt N.E[x.s].1 (N.E[x.s].2+1)/\N.drawn.to x=N.pt N.E[x.s].1 N.E[x.s].2:=by
 unfold Net.fwd at h;have h:¬ x.up=decide ((N.drawn.A x.s).h<(N.drawn.B x.s).h):=by simpa using h
 unfold bw.gP bw.to;rw[bC h,bC h];exact⟨rfl,rfl⟩
theorem Net.same{x y:Dt (Ix N.E.length)}(h1:N.E[x.s]=N.E[y.s])(h2:N.fwd x=N.fwd y):x=y:=by
 have hs:x.s=y.s:=Fin.ext ((M1 N.nodup).1 h1);cases x with|mk s u =>
 cases y with|mk t v =>
 simp only at hs;subst hs;unfold Net.fwd at h2;simp only at h2;congr 1;generalize decide ((N.drawn.A s).h<(N.drawn.B s).h)=b at h2;cases u<;>cases v<;>cases b<;>simp_all
theorem Net.ex{a:Int}{k:Nat}(h:(a,k)∈N.E)(b:Bool):∃ x:Dt (Ix N.E.length),N.E[x.s]=(a,k)/\N.fwd x=b:=by obtain⟨i,hi,he⟩:=List.getElem_of_mem h;refine⟨⟨⟨i,hi⟩,b==decide ((N.drawn.A ⟨i,hi⟩).h<(N.drawn.B ⟨i,hi⟩).h)⟩,he,?_⟩;unfold Net.fwd;simp only;generalize decide ((N.drawn.A ⟨i,hi⟩).h<(N.drawn.B ⟨i,hi⟩).h)=c;cases b<;>cases c<;>rfl
def Net.sp(d:Int):Pt:=if 0<d then N.pt d 0 else N.pt (-d) (N.len (-d))
def Net.sc(d:Int):Pt:=if 0<d then N.pt d 1 else N.pt (-d) (N.len (-d)-1)
def Net.eY(d:Int):Prop:=(d,0)∈N.E∨(-d,0)∈N.E
theorem Net.first{a:Int}{k:Nat}(h:(a,k)∈N.E):(a,0)∈N.E:=N.whole a k 0 h (by have:=(N.mem a k h).2;omega)
theorem Zw{o p q:Pt}(h1:lss o p q=true)(h2:lss o q p=true):False:=by
 unfold lss at h1 h2;cases ha:B8 o p<;>cases hb:B8 o q<;>rw[ha,hb]at h1<;>rw[ha,hb]at h2<;>simp at h1 h2;all_goals
  have:tw o q p=- tw o p q:=by unfold tw;grind
  omega
structure Net.Xo(nx:Int->Int):Prop where
 around:∀ d,N.eY d->∃ l:List Int,(∀ e,e∈l↔N.eY e/\N.sp e=N.sp d)/\(l.Pairwise fun a b=>lss (N.sp d) (N.sc a) (N.sc b)=true)/\∀ x y,uN l x y->nx (-y)=x
variable {PI:Int} (bK:0<PI) (hd:∀ i,((N.drawn.B i).h-(N.drawn.A i).h)∣PI)
theorem Net.qR{nx:Int->Int}(hT:N.Xo nx){c:Int->Bool}(hc:∀ d,N.eY d->c (nx d)=c d):(N.drawn.bn bK hd).bk.M0 fun x=>c (N.bE x):=by
 refine abp fun m x y hxy=>?_;have gP:∀ z,z∈(N.drawn.bn bK hd).bk.ring m↔N.drawn.gP z=N.drawn.gP y:=fun z=>by have hy:=(N.drawn.jJ bK hd).1 hxy.mem.2;rw[N.drawn.jJ bK hd];exact⟨fun h=>SV (N.drawn.kK z).1 (N.drawn.kK y).1 (h.trans hy.symm),fun h=>by rw[h];exact hy⟩
 have ak:((N.drawn.bn bK hd).bk.ring m).Nodup:=(N.drawn.vR bK hd (m:=m)).imp fun{a b} h aq=>by
  subst aq;rcases h with h|h
  ·omega
  ·rw[h.1]at h;exact absurd h.2 Δ
 have hin:∀ z:Dt (Ix N.E.length),(N.E[z.s].1,0)∈N.E:=fun z=>N.first (N.get_mem z.s);by_cases hv:∃ a k,(a,0)∈N.E/\0<k/\k<N.len a/\N.pt a k=N.drawn.gP y
 ·obtain⟨a,k,h1,h2,h3,h4⟩:=hv;have key:∀ z,z∈(N.drawn.bn bK hd).bk.ring m->(N.fwd z=true/\N.E[z.s]=(a,k))∨(N.fwd z=false/\N.E[z.s]=(a,k-1)):=fun z hz=>by
   have e:=((gP z).1 hz).trans h4.symm;have hm:=N.mem _ _ (N.get_mem z.s);cases hf:N.fwd z
   ·rw[(N.kj hf).1]at e;obtain⟨g1,g2⟩:=N.via a k _ _ h1 (hin z) h2 h3 Ω e;exact .inr ⟨rfl,Prod.ext g1 (by simp only;omega)⟩
   ·rw[(N.j9 hf).1]at e;obtain⟨g1,g2⟩:=N.via a k _ _ h1 (hin z) h2 h3 Ω e;exact .inl ⟨rfl,Prod.ext g1 g2⟩
  have both:∀ b,∃ z∈(N.drawn.bn bK hd).bk.ring m,N.fwd z=b:=fun b=>by
   cases b
   ·obtain⟨z,g1,g2⟩:=N.ex (N.whole a 0 (k-1) h1 Ω) false;refine⟨z,(gP z).2 ?_,g2⟩;rw[(N.kj g2).1,g1,←h4];simp only;rw[show k-1+1=k by omega]
   ·obtain⟨z,g1,g2⟩:=N.ex (N.whole a 0 k h1 h3) true;exact⟨z,(gP z).2 (by rw[(N.j9 g2).1,g1,←h4]),g2⟩
  have hne:N.fwd x≠N.fwd y:=fun h=>by
   have agp:x=y:=N.same (by
    rcases key x hxy.mem.1 with⟨a1,a2⟩|⟨a1,a2⟩<;>rcases key y hxy.mem.2 with⟨b1,b2⟩|⟨b1,b2⟩
    ·rw[a2,b2]
    ·rw[a1,b1]at h;cases h
    ·rw[a1,b1]at h;cases h
    ·rw [a2,b2]) h
   subst agp;obtain⟨z,hz,hb⟩:=both (!N.fwd x);rw[hxy.ne ak hz]at hb;cases hq:N.fwd x<;>rw[hq]at hb<;>cases hb
  show c (N.bE y.rev)=c (N.bE x);congr 1;rw[N.mV];unfold Net.bE;have ex:N.E[x.s].1=a:=by rcases key x hxy.mem.1 with⟨_,h⟩|⟨_,h⟩<;>rw[h]
  have ey:N.E[y.s].1=a:=by rcases key y hxy.mem.2 with⟨_,h⟩|⟨_,h⟩<;>rw[h]
  rw[ex,ey];cases hx:N.fwd x<;>cases hy:N.fwd y<;>rw[hx,hy]at hne<;>simp at hne ⊢
 ·-- where fk begin
  have key:∀ z,z∈(N.drawn.bn bK hd).bk.ring m->N.eY (N.bE z)/\N.sp (N.bE z)=N.drawn.gP y/\N.sc (N.bE z)=N.drawn.to z:=fun z hz=>by
   have e:=(gP z).1 hz;have hm:=N.mem _ _ (N.get_mem z.s);unfold Net.eY Net.sp Net.sc Net.bE;cases hf:N.fwd z
   ·obtain⟨e1,e2⟩:=N.kj hf;rw[e1]at e;have hk:N.E[z.s].2+1=N.len N.E[z.s].1:=by
     by_cases hk:N.E[z.s].2+1<N.len N.E[z.s].1
     ·exact absurd ⟨_,_,hin z,Ω,hk,e⟩ hv
     ·omega
    simp only[l7,if_false,tA];rw[bC Ω,bC Ω,←hk,e2];exact⟨.inr (hin z),e,Ψ⟩
   ·obtain⟨e1,e2⟩:=N.j9 hf;rw[e1]at e;have hk:N.E[z.s].2=0:=by
     by_cases hk:0<N.E[z.s].2
     ·exact absurd ⟨_,_,hin z,hk,hm.2,e⟩ hv
     ·omega
    simp only[if_true];rw[bt Ω,bt Ω,e2,hk];rw[hk]at e;exact⟨.inl (hin z),e,rfl⟩
  obtain⟨hy1,hy2,_⟩:=key y hxy.mem.2;obtain⟨l,l1,l2,l3⟩:=hT.around _ hy1;rw[hy2]at l1 l2;obtain⟨R1,R2,hR,hless⟩:=N.drawn.vS bK hd (o:=N.drawn.gP y) (m:=m) (N.drawn.kK y).1 ((N.drawn.jJ bK hd).1 hxy.mem.2);have hsub:∀ z,z∈R2++R1↔z∈(N.drawn.bn bK hd).bk.ring m:=fun z=>by rw[hR,og,og];exact Or.comm
  have hL:((R2++R1).map N.bE).Pairwise fun a b=>lss (N.drawn.gP y) (N.sc a) (N.sc b)=true:=by rw[qO];refine hless.imp_of_mem fun{a b} ha hb h=>?_;rw[(key a ((hsub a).1 ha)).2.2,(key b ((hsub b).1 hb)).2.2];exact h
  have nd:∀{l:List Int},(l.Pairwise fun a b=>lss (N.drawn.gP y) (N.sc a) (N.sc b)=true)->l.Nodup:=fun h=>h.imp fun{a b} aq e=>by subst e;exact Zw aq aq
  have heq:(R2++R1).map N.bE=l:=by
   refine zl3 (fun a b _ _ h1 h2=>(Zw h1 h2).elim) hL l2 ((VT (nd hL) (nd l2)).2 fun e=>?_);rw[l1,jA];constructor
   ·rintro⟨z,hz,rfl⟩;obtain⟨g1,g2,_⟩:=key z ((hsub z).1 hz);exact⟨g1,g2⟩
   ·rintro⟨g1,g2⟩;have hx:∃ z,N.drawn.gP z=N.drawn.gP y/\N.bE z=e:=by
     rcases g1 with g1|g1
     ·obtain⟨z,z1,z2⟩:=N.ex g1 true;have hp:=(N.mem _ _ g1).1;refine⟨z,?_,?_⟩
      ·rw[(N.j9 z2).1,z1,←g2];unfold Net.sp;rw[bt hp]
      ·unfold Net.bE;rw[z2,z1];rfl
     ·have hp:=N.mem _ _ g1;obtain⟨z,z1,z2⟩:=N.ex (N.whole _ _ (N.len (-e)-1) g1 Ω) false;refine⟨z,?_,?_⟩
      ·rw[(N.kj z2).1,z1,←g2];unfold Net.sp;rw[bC Ω];simp only;rw[show N.len (-e)-1+1=N.len (-e) by omega]
      ·unfold Net.bE;rw[z2,z1];simp
    obtain⟨z,z1,z2⟩:=hx;exact⟨z,(hsub z).2 ((gP z).2 z1),z2⟩
  have ahi:uN l (N.bE x) (N.bE y):=by rw[←heq];refine uN.map _ (uN.rot ?_);rw[←hR];exact hxy
  show c (N.bE y.rev)=c (N.bE x);rw[N.mV,←l3 _ _ ahi];refine(hc _ ?_).symm;unfold Net.eY at hy1 ⊢;rw[tA];exact hy1.symm
end
section
open Go Go.RowKit
theorem zI{p:Pt}(h:p.near):bl p=true:=by obtain⟨h1,h2,h3,h4⟩:=h;unfold bl;rw[decide_eq_false Ω,decide_eq_false Ω,decide_eq_false Ω,decide_eq_false Ω];rfl
theorem Yv{p:Pt}(h:bl p=true):p.near:=by unfold bl at h;simp only[tB,uQ,vB]at h;obtain⟨⟨⟨h1,h2⟩,h3⟩,h4⟩:=h;exact⟨Ω,Ω,Ω,Ω⟩
def qd(a b:Int):Int:=bif decide (0<a)&&decide (0<=b)then 0 else bif decide (a<=0)&&decide (0<b)then 1 else bif decide (a<0)then 2 else 3
theorem CW{o p:Pt}(ho:o.near)(hp:p.near):lM o p=qd (p.x-o.x) (p.y-o.y):=by obtain⟨h1,h2,h3,h4⟩:=ho;obtain⟨g1,g2,g3,g4⟩:=hp;have e1:aT .i64 (p.x-o.x)=p.x-o.x:=zD rfl Ω Ω;have e2:aT .i64 (p.y-o.y)=p.y-o.y:=zD rfl Ω Ω;unfold lM qd;rw[e1,e2]
theorem YS{a b k:Int}(h1:-k<=a)(h2:a<=k)(h3:-k<=b)(h4:b<=k):-(k*k)<=a*b/\a*b<=k*k:=by
 have hk:0<=k:=Ω;have e1:(k-a)*(k+b)=k*k+k*b-a*k-a*b:=by grind
 have e2:(k+a)*(k-b)=k*k-k*b+a*k-a*b:=by grind
 have e3:(k-a)*(k-b)=k*k-k*b-a*k+a*b:=by grind
 have e4:(k+a)*(k+b)=k*k+k*b+a*k+a*b:=by grind
 have p1:=Fa (show 0<=k-a by omega) (show 0<=k+b by omega);have p2:=Fa (show 0<=k+a by omega) (show 0<=k-b by omega);have p3:=Fa (show 0<=k-a by omega) (show 0<=k-b by omega);have p4:=Fa (show 0<=k+a by omega) (show 0<=k+b by omega);omega
theorem aeg{o p q:Pt}(ho:o.near)(hp:p.near)(hq:q.near):pI o p o q=tw o p q:=by obtain⟨h1,h2,h3,h4⟩:=ho;obtain⟨g1,g2,g3,g4⟩:=hp;obtain⟨f1,f2,f3,f4⟩:=hq;have e1:aT .i64 (p.x-o.x)=p.x-o.x:=zD rfl Ω Ω;have e2:aT .i64 (p.y-o.y)=p.y-o.y:=zD rfl Ω Ω;have e3:aT .i64 (q.x-o.x)=q.x-o.x:=zD rfl Ω Ω;have e4:aT .i64 (q.y-o.y)=q.y-o.y:=zD rfl Ω Ω;unfold pI tw;rw[e1,e2,e3,e4];obtain⟨m1,m2⟩:=YS (a:=p.x-o.x) (b:=q.y-o.y) (k:=4194304) Ω Ω Ω Ω;obtain⟨m3,m4⟩:=YS (a:=p.y-o.y) (b:=q.x-o.x) (k:=4194304) Ω Ω Ω Ω;generalize(p.x-o.x)*(q.y-o.y)=u at m1 m2 ⊢;generalize(p.y-o.y)*(q.x-o.x)=v at m3 m4 ⊢;have e5:aT .i64 u=u:=zD rfl Ω Ω;have e6:aT .i64 v=v:=zD rfl Ω Ω;rw[e5,e6];exact zD rfl Ω Ω
def Wl(a b:Int):Bool:=decide (b<0)||(decide (b=0)&&decide (a<0))
theorem zdz{a b:Int}:Wl a b=true↔b<0∨(b=0/\a<0):=by simp[Wl]
theorem Ph{a b:Int}(h:¬ (b<0∨(b=0/\a<0))):Wl a b=false:=Sy.2 fun e=>h (zdz.1 e)
theorem CX{a b:Int}(h:a≠0∨b≠0):(qd a b=0/\Wl a b=false/\0<a/\0<=b)∨(qd a b=1/\Wl a b=false/\a<=0/\0<b)∨(qd a b=2/\Wl a b=true/\a<0/\b<=0)∨(qd a b=3/\Wl a b=true/\0<=a/\b<0):=by
 unfold qd;by_cases h1:0<a/\0<=b
 ·left;rw[decide_eq_true h1.1,decide_eq_true h1.2];exact⟨rfl,Ph Ω,h1⟩
 ·have e1:(decide (0<a)&&decide (0<=b))=false:=by rw[VN,vB,vB];omega
  rw[e1,bL];right;by_cases h2:a<=0/\0<b
  ·left;rw[decide_eq_true h2.1,decide_eq_true h2.2];exact⟨rfl,Ph Ω,h2⟩
  ·have e2:(decide (a<=0)&&decide (0<b))=false:=by rw[VN,vB,vB];omega
   rw[e2,bL];right;by_cases h3:a<0
   ·left;rw[decide_eq_true h3];exact⟨rfl,zdz.2 Ω,h3,Ω⟩
   ·right;rw[decide_eq_false h3];exact⟨rfl,zdz.2 Ω,Ω,Ω⟩
theorem Pj{o p q:Pt}(ho:o.near)(hp:p.near)(hq:q.near)(SG:p≠o)(hqo:q≠o):gu o p q=lss o p q:=by
 have n1:eO p o=false:=Sy.2 fun h=>SG (AF.1 h);have n2:eO q o=false:=Sy.2 fun h=>hqo (AF.1 h);have hall:[o,p,q].all bl=true:=by rw[qt,qt,qt,zI ho,zI hp,zI hq];rfl
 unfold gu lss;rw[hall,n1,n2,CW ho hp,CW ho hq,aeg ho hp hq];have hp2:p.x-o.x≠0∨p.y-o.y≠0:=by refine zmu fun h=>SG ?_;cases p;cases o;simp only[Pt.mk.injEq]at *;omega
 have lG:q.x-o.x≠0∨q.y-o.y≠0:=by refine zmu fun h=>hqo ?_;cases q;cases o;simp only[Pt.mk.injEq]at *;omega
 unfold tw;have lw:∀ r:Pt,B8 o r=Wl (r.x-o.x) (r.y-o.y):=fun r=>by rw[nU,Yu,zdz];omega
 rw[lw p,lw q];generalize p.x-o.x=a at *;generalize p.y-o.y=b at *;generalize q.x-o.x=c at *;generalize q.y-o.y=d at *;clear hall n1 n2 lw ho hp hq SG hqo;have pos:∀ x y z w:Int,0<x*y->z*w<=0->decide (0<x*y-z*w)=true:=fun x y z w h1 h2=>decide_eq_true Ω;have neg:∀ x y z w:Int,x*y<=0->0<z*w->decide (0<x*y-z*w)=false:=fun x y z w h1 h2=>decide_eq_false Ω;rcases CX hp2 with⟨k1,l1,a1,a2⟩|⟨k1,l1,a1,a2⟩|⟨k1,l1,a1,a2⟩|⟨k1,l1,a1,a2⟩<;>rcases CX lG with⟨k2,l2,c1,c2⟩|⟨k2,l2,c1,c2⟩|⟨k2,l2,c1,c2⟩|⟨k2,l2,c1,c2⟩<;>rw[k1,k2,l1,l2]
 ·simp
 ·rw[pos _ _ _ _ (Ko a1 c2) (ZM.2.1 a2 c1)];rfl
 ·simp
 ·simp
 ·rw[neg _ _ _ _ (ZM.2.2.1 a1 c2) (Ko a2 c1)];rfl
 ·simp
 ·simp
 ·simp
 ·simp
 ·simp
 ·simp
 ·rw[pos _ _ _ _ (SS a1 c2) (ZM.2.2.1 a2 c1)];rfl
 ·simp
 ·simp
 ·rw[neg _ _ _ _ (ZM.2.1 a1 c2) (SS a2 c1)];rfl
 ·simp
structure Rg where
 a:Ac
 (k n:Nat)
 (A B:Pt)
def Rg.c(s:Rg):List IV:=[aG aH s.a.id,aG aH s.a.fr,aG aH s.a.to,s.a.via.v,aG aH s.a.l,aG aH s.a.r,aG aH (s.k:Int),aG aH (s.n:Int),aG aH s.A.x,aG aH s.A.y,aG aH s.B.x,aG aH s.B.y]
theorem Rg.aZ(s:Rg):s.c.length=12:=rfl
def Rg.sp(s:Rg):Sp:=⟨s.a.id,s.a.fr,s.a.to,s.k,s.n,s.A,s.B⟩
def Sp.dH(s t:Sp):Int:=Go.Proofs.YtdacpmgnhkmnkaaGreatDoor.dH s.A s.B t.A t.B
def iR(s t:Sp):Bool:=bif (t.k:Int)==((s.k+1:Nat):Int)then s.dH t==1 else bif (s.k:Int)==0&&((t.k:Int)==((t.n-1:Nat):Int)&&s.fr==s.to)then s.dH t==1 else s.dH t==0
def vk(s:Sp)(id:Int):Bool:=s.fr==id||s.to==id
def iE(s t:Sp)(x:Nd):Bool:=vk s x.id&&(vk t x.id&&(qP s.A s.B x.at'&&qP t.A t.B x.at'))
def iy(ns:List Nd)(s t:Sp):Bool:=bif s.dH t==1 then ns.any (iE s t)else s.dH t==0
def gL(s:Sp)(x:Nd):Bool:=((s.k:Int)==0&&s.fr==x.id)||((s.k:Int)==((s.n-1:Nat):Int)&&s.to==x.id)
def lE(s:Sp)(x:Nd):Bool:=!gL s x&&qP s.A s.B x.at'
def eL(ns:List Nd)(s:Sp):Bool:=!ns.any (lE s)&&(!eO s.A s.B&&(s.fr != s.to||decide ((3:Int)<=(s.n:Int))))
section
variable {S:cZ}
theorem RR(hS:bN S)(s u:Rg)(ho:s.k<s.n/\s.n<=1000000)(hu:u.k<u.n/\u.n<=1000000):aP S 18 130 [.agg s.c,.agg u.c] (.bool (iR s.sp u.sp)):=by
 refine gv i130 hS (17) zj fun m hm d ah t af=>?_;simp only[V2,i130,Rg.c]at af;have cm:=fun dd ah aK aa i=>J9 hS s.A s.B u.A u.B m Ω dd ah aK aa i;simp only[Pt.c,zg]at cm;have w1:aT .i64 ((s.k:Int)+1)=((s.k+1:Nat):Int):=we;have w2:aT .i64 ((u.n:Int)-1)=((u.n-1:Nat):Int):=we;unfold iR Sp.dH Rg.sp;dsimp only;generalize dH s.A s.B u.A u.B=c at cm;cases h1:(u.k:Int)==((s.k+1:Nat):Int)
 ·cases h2:(s.k:Int)==0
  ·simp only[i130,V0,seval,bL,ew, *]
  ·cases h3:(u.k:Int)==((u.n-1:Nat):Int)
   ·simp only[i130,V0,seval,bL,ew, *]
   ·cases h4:s.a.fr==s.a.to
    ·simp only[i130,V0,seval,bL, *]
    ·simp only[i130,V0,seval,bL,bT, *]
 ·simp only[i130,V0,seval,af,cm,w1,h1,bT]
theorem MJ(hS:bN S)(p:Pn)(s u:Rg):aP S (p.ns.l.length+24) 131 [.agg p.c,.agg s.c,.agg u.c] (.bool (iy p.ns.l s.sp u.sp)):=by
 refine gv i131 hS (p.ns.l.length+23) zj fun m hm d ah t af=>?_;simp only[V2,Xb,i131,Rg.c,Pn.c]at af;have cm:=fun dd ah aK aa i=>J9 hS s.A s.B u.A u.B m Ω dd ah aK aa i;simp only[Pt.c,zg]at cm;have hnf:=p.ns.gC;have jw:∀ z:Int,(z != 1)=!(z==1):=fun z=>rfl;unfold iy Sp.dH;rw[show(Rg.sp s).A=s.A from rfl,show(Rg.sp s).B=s.B from rfl,show(Rg.sp u).A=u.A from rfl,show(Rg.sp u).B=u.B from rfl];generalize dH s.A s.B u.A u.B=c at cm;cases h1:c==1
 ·simp only[i131,V0,seval,af,cm,jw,h1,bL]
 ·have ce1:∀(z:Int) dd ah aK aa i,aM aR S m dd ah aK aa i 161 [.agg [aG aH s.a.id,aG aH s.a.fr,aG aH s.a.to,s.a.via.v,aG aH s.a.l,aG aH s.a.r],aG aH z]=some (.r,.bool (vk s.sp z),aa):=fun z dd ah aK aa i=>Ka hS s.a z m Ω dd ah aK aa i;have ce2:∀(z:Int) dd ah aK aa i,aM aR S m dd ah aK aa i 161 [.agg [aG aH u.a.id,aG aH u.a.fr,aG aH u.a.to,u.a.via.v,aG aH u.a.l,aG aH u.a.r],aG aH z]=some (.r,.bool (vk u.sp z),aa):=fun z dd ah aK aa i=>Ka hS u.a z m Ω dd ah aK aa i;have co1:∀(w:Pt) dd ah aK aa i,aM aR S m dd ah aK aa i 159 [.agg [aG aH s.A.x,aG aH s.A.y],.agg [aG aH s.B.x,aG aH s.B.y],.agg [aG aH w.x,aG aH w.y]]=some (.r,.bool (qP s.A s.B w),aa):=fun w dd ah aK aa i=>RH hS s.A s.B w m Ω dd ah aK aa i;have co2:∀(w:Pt) dd ah aK aa i,aM aR S m dd ah aK aa i 159 [.agg [aG aH u.A.x,aG aH u.A.y],.agg [aG aH u.B.x,aG aH u.B.y],.agg [aG aH w.x,aG aH w.y]]=some (.r,.bool (qP u.A u.B w),aa):=fun w dd ah aK aa i=>RH hS u.A u.B w m Ω dd ah aK aa i;simp only[i131,V0,seval,af,cm,jw,h1,bT];refine ze (fun jj st=>∃(i:Nat)(O:aU),p.ns.l.length-i<=jj/\i<=p.ns.l.length/\(p.ns.l.take i).any (iE s.sp u.sp)=false/\st.aa=aI [p.ns.v,p.az.v,p.fs.v]::aI s.c::aI u.c::O/\aN 65 st.t [(3,.ptrM d 0 0),(4,.ptrM d 1 0),(5,.ptrM d 2 0),(8,iv i)]) p.ns.l.length Ω ⟨0,_,Ω,Ω,Ψ,rfl,by simp only[V0,seval,af,eU]⟩ ?_;clear af;rintro jj ⟨t,aa⟩ KA ⟨i,O,hjj,hi,ha,ho,af⟩ bV cS dA;dsimp only[Rg.c]at ho af;subst ho;simp only[V3]at af;by_cases h:i<p.ns.l.length
  ·obtain⟨x,hx⟩:=gx (l:=p.ns.l) (i:=i) h;have hrd:bM (p.ns.l.flatMap Nd.c) (i*3) 3=some [aG aH x.id,aG aH x.at'.x,aG aH x.at'.y]:=(zd Nd.aZ 0 3 hx Ω).trans rfl;have hw:=zq i;have gx:∀(R:aU),(aO.cells [p.ns.v,p.az.v,p.fs.v]::aI s.c::aI u.c::(O++aI [aG aH x.id,aG aH x.at'.x,aG aH x.at'.y]::R))[O.length+1+1+1]?=some (aI [aG aH x.id,aG aH x.at'.x,aG aH x.at'.y]):=fun R=>by simp
   cases q1:vk s.sp x.id
   ·simp only[V0,seval,af,h,za p.ns h,hrd,ce1,q1];exact bV _ (p.ns.l.length-(i+1)) Ω ⟨i+1,_,Ω,Ω,zF hx ha (by simp only[iE,q1,ew]),rfl,cD⟩
   ·cases q2:vk u.sp x.id
    ·simp only[V0,seval,af,h,za p.ns h,hrd,ce1,ce2,q1,q2];exact bV _ (p.ns.l.length-(i+1)) Ω ⟨i+1,_,Ω,Ω,zF hx ha (by simp only[iE,q1,q2,ew,pX]),rfl,cD⟩
    ·cases q3:qP s.A s.B x.at'
     ·simp only[V0,seval,af,h,za p.ns h,hrd,ce1,ce2,co1,q1,q2,q3];exact bV _ (p.ns.l.length-(i+1)) Ω ⟨i+1,_,Ω,Ω,zF hx ha (by simp only[iE,Rg.sp,q3,ew,l8]),rfl,cD⟩
     ·cases q4:qP u.A u.B x.at'
      ·simp only[V0,seval,af,h,za p.ns h,hrd,ce1,ce2,co1,co2,q1,q2,q3,q4];exact bV _ (p.ns.l.length-(i+1)) Ω ⟨i+1,_,Ω,Ω,zF hx ha (by simp only[iE,Rg.sp,q4,l8]),rfl,cD⟩
      ·have rz:p.ns.l.any (iE s.sp u.sp)=true:=zZ hx (by rw[iE,q1,q2];simp only[Rg.sp,q3,q4,HH]);simp only[V0,seval,af,h,za p.ns h,hrd,ce1,ce2,co1,co2,q1,q2,q3,q4];refine dA _ ?_;simp only[V0,seval,af,rz]
  ·have hnone:p.ns.l.any (iE s.sp u.sp)=false:=by rw[←gj (l:=p.ns.l) (i:=i) Ω];exact ha
   simp only[V0,seval,af,h];refine cS _ _ ?_;simp only[V0,seval,af,hnone]
end
section
variable {S:cZ}
theorem RT(hS:bN S)(p:Pn)(s:Rg)(ho:s.k<s.n/\s.n<=1000000):aP S (p.ns.l.length+24) 129 [.agg p.c,.agg s.c] (.bool (eL p.ns.l s.sp)):=by
 refine gv i129 hS (p.ns.l.length+23) zj fun m hm d ah t af=>?_;simp only[V2,i129,Rg.c,Pn.c]at af;have hnf:=p.ns.gC;have w2:aT .i64 ((s.n:Int)-1)=((s.n-1:Nat):Int):=we;have co1:∀(w:Pt) dd ah aK aa i,aM aR S m dd ah aK aa i 159 [.agg [aG aH s.A.x,aG aH s.A.y],.agg [aG aH s.B.x,aG aH s.B.y],.agg [aG aH w.x,aG aH w.y]]=some (.r,.bool (qP s.A s.B w),aa):=fun w dd ah aK aa i=>RH hS s.A s.B w m Ω dd ah aK aa i;have hN:∀ x:Nd,lE s.sp x=(!gL s.sp x&&qP s.A s.B x.at'):=fun x=>rfl;have hI:∀ x:Nd,gL s.sp x=(((s.k:Int)==0&&s.a.fr==x.id)||((s.k:Int)==((s.n-1:Nat):Int)&&s.a.to==x.id)):=fun x=>rfl;simp only[i129,V0,seval,af];refine ze (fun jj st=>∃(i:Nat)(O:aU),p.ns.l.length-i<=jj/\i<=p.ns.l.length/\(p.ns.l.take i).any (lE s.sp)=false/\st.aa=aI [p.ns.v,p.az.v,p.fs.v]::aI s.c::O/\aN 77 st.t [(2,.ptrM d 0 0),(3,.ptrM d 1 0),(5,iv i)]) p.ns.l.length Ω ⟨0,_,Ω,Ω,Ψ,rfl,by simp only[V0,seval,af,eU]⟩ ?_;clear af;rintro jj ⟨t,aa⟩ KA ⟨i,O,hjj,hi,ha,Fk,af⟩ bV cS dA;dsimp only[Rg.c]at Fk af;subst Fk;simp only[V3]at af;by_cases h:i<p.ns.l.length
 ·obtain⟨x,hx⟩:=gx (l:=p.ns.l) (i:=i) h;have hrd:bM (p.ns.l.flatMap Nd.c) (i*3) 3=some [aG aH x.id,aG aH x.at'.x,aG aH x.at'.y]:=(zd Nd.aZ 0 3 hx Ω).trans rfl;have hw:=zq i;have fin:∀(t:List IV)(O:aU)(e:Bool),gL s.sp x=e->aN 77 t [(2,.ptrM d 0 0),(3,.ptrM d 1 0),(5,iv i),(7,.bool e),(6,.ptrM d (O.length+1+1) 0)]->True:=fun _ _ _ _ _=>trivial;have next:qP s.A s.B x.at'=false∨gL s.sp x=true->(p.ns.l.take (i+1)).any (lE s.sp)=false:=fun hh=>zF hx ha (by
   rw[hN];rcases hh with hh | hh <;> rw [hh] <;> simp)
  have stop:qP s.A s.B x.at'=true->gL s.sp x=false->p.ns.l.any (lE s.sp)=true:=fun h1 h2=>zZ hx (by rw[hN,h1,h2];rfl);cases f:(s.k:Int)==0
  ·cases l:(s.k:Int)==((s.n-1:Nat):Int)
   ·have he:gL s.sp x=false:=by rw[hI,f,l];rfl
    cases o:qP s.A s.B x.at'
    ·simp only[V0,seval,za p.ns h, *];exact bV _ (p.ns.l.length-(i+1)) Ω ⟨i+1,_,Ω,Ω,next (.inl o),rfl,cD⟩
    ·simp only[V0,seval,za p.ns h, *];refine dA _ ?_;simp only[V0,seval,af,eL,stop o he,ew]
   ·cases e2:s.a.to==x.id
    ·have he:gL s.sp x=false:=by rw[hI,f,l,e2];rfl
     cases o:qP s.A s.B x.at'
     ·simp only[V0,seval,za p.ns h, *];exact bV _ (p.ns.l.length-(i+1)) Ω ⟨i+1,_,Ω,Ω,next (.inl o),rfl,cD⟩
     ·simp only[V0,seval,za p.ns h, *];refine dA _ ?_;simp only[V0,seval,af,eL,stop o he,ew]
    ·have he:gL s.sp x=true:=by rw[hI,f,l,e2];rfl
     simp only[V0,seval,za p.ns h, *];exact bV _ (p.ns.l.length-(i+1)) Ω ⟨i+1,_,Ω,Ω,next (.inr he),rfl,cD⟩
  ·cases e1:s.a.fr==x.id
   ·cases l:(s.k:Int)==((s.n-1:Nat):Int)
    ·have he:gL s.sp x=false:=by rw[hI,f,e1,l];rfl
     cases o:qP s.A s.B x.at'
     ·simp only[V0,seval,za p.ns h, *];exact bV _ (p.ns.l.length-(i+1)) Ω ⟨i+1,_,Ω,Ω,next (.inl o),rfl,cD⟩
     ·simp only[V0,seval,za p.ns h, *];refine dA _ ?_;simp only[V0,seval,af,eL,stop o he,ew]
    ·cases e2:s.a.to==x.id
     ·have he:gL s.sp x=false:=by rw[hI,f,e1,l,e2];rfl
      cases o:qP s.A s.B x.at'
      ·simp only[V0,seval,za p.ns h, *];exact bV _ (p.ns.l.length-(i+1)) Ω ⟨i+1,_,Ω,Ω,next (.inl o),rfl,cD⟩
      ·simp only[V0,seval,za p.ns h, *];refine dA _ ?_;simp only[V0,seval,af,eL,stop o he,ew]
     ·have he:gL s.sp x=true:=by rw[hI,f,e1,l,e2];rfl
      simp only[V0,seval,za p.ns h, *];exact bV _ (p.ns.l.length-(i+1)) Ω ⟨i+1,_,Ω,Ω,next (.inr he),rfl,cD⟩
   ·have he:gL s.sp x=true:=by rw[hI,f,e1];rfl
    simp only[V0,seval,za p.ns h, *];exact bV _ (p.ns.l.length-(i+1)) Ω ⟨i+1,_,Ω,Ω,next (.inr he),rfl,cD⟩
 ·have hnone:p.ns.l.any (lE s.sp)=false:=by rw[←gj (l:=p.ns.l) (i:=i) Ω];exact ha
  have q1:(true != false)=true:=rfl;have q2:(true != true)=false:=rfl;have jw:∀ y z:Int,(y != z)=!(y==z):=fun y z=>rfl;have hval:eL p.ns.l s.sp=(!eO s.A s.B&&(s.a.fr != s.a.to||decide ((3:Int)<=(s.n:Int)))):=by unfold eL;rw[hnone];rfl
  simp only[V0,seval,af,h];refine cS _ _ ?_;cases h1:eO s.A s.B
  ·have h1':(s.A.x==s.B.x&&s.A.y==s.B.y)=false:=h1;cases h2:s.a.fr==s.a.to
   ·simp only[V0,seval,zP,iY, *]
   ·simp only[V0,seval,zP,iS,mM, *]
  ·have h1':(s.A.x==s.B.x&&s.A.y==s.B.y)=true:=h1;simp only[V0,seval,zP,ew, *]
end
theorem O4{α:Type}{g:α->List IV}{sz k:Nat}(hs:∀ a,(g a).length=sz)(hf:∀ a,∀ x∈g a,Fz k x){d m:Nat}{Pre J:aU}{lv:IV}{xs:List α}(hm:k+1<=m)(hx:xs.length<9223372036854775808)(h:cg g sz d Pre.length J lv xs):freeze m d (Pre++J) lv=some (eX hs xs hx).v:=by
 rcases h with⟨rfl,rfl⟩|⟨b,hne,rfl,h2⟩
 ·exact Zb m Ω d _
 ·cases xs with
  |nil=>exact absurd rfl hne
  |cons x t=>exact yi (k:=k) hf Ω rfl hs (by rw[zJ];exact h2)
theorem Lr{α:Type}{g:α->List IV}{sz:Nat}(hs:∀ a,(g a).length=sz){d n0 slot k:Nat}{ah:bR}{Pre J R V:aU}{lv:IV}{xs ys:List α}(h:cg g sz d Pre.length J lv xs)(hy:ys.length≠0)(hx:xs.length+ys.length<=1073741824)(hk:n0+slot=Pre.length+(J.length+k))(hf:R[k]?=some .free)
  (hsc:(ys.flatMap g).all IV.scalar=true) (hV:∀ b x,J[b]?=some x->V[Pre.length+b]?=some x) :
  ∃ e dR J2,bh d n0 (look d ah V) (Pre++(J++R)) sz lv (ys.flatMap g) ys.length slot=some (e,dR,Pre++J2)/\cg g sz d Pre.length J2 dR (xs++ys):=by
 have nP:k<R.length:=(cU.1 hf).1
 have fU:(J++R)[J.length+k]?=some .free:=by rw[jd Ω,B4];exact hf
 have au:J.length+k<(J++R).length:=by rw[eR];omega
 have hne:xs++ys≠[]:=by intro he;exact hy (by rw[(VO.1 he).2];rfl)
 rcases h with⟨rfl,rfl⟩|⟨b,_,rfl,h2⟩
 ·rw[yT hy (by unfold bound;simp at hx;omega)]
  unfold dU
  rw[hk,zJ,fU]
  simp only[zi]
  rw[z8]
  refine⟨_,_,_,rfl,.inr ⟨J.length+k,hne,Ψ,?_⟩⟩
  rw[oa au]
  rfl
 ·have hb:b<J.length:=(cU.1 h2).1
  rw[zY hy hx (zl hs) hsc (by simp only[look,if_true];exact hV b _ h2)]
  unfold kW
  rw[hk,zJ,fU]
  simp only[zi]
  rw[z8,z8]
  refine⟨_,_,_,rfl,.inr ⟨J.length+k,hne,Ψ,?_⟩⟩
  rw[oa (by rw[s6];exact au)]
  simp
theorem P9{vis:List Nat}{Pre J R:aU}{b:Nat}{x:aO}(h:J[b]?=some x):(b7 vis (Pre.length+J.length) (Pre++(J++R)))[Pre.length+b]?=some x:=by have hb:=(cU.1 h).1;rw[zp,zJ,gT hb,h,gH,decide_eq_true (show Pre.length+b<Pre.length+J.length by omega)];rfl
theorem ac2(s:Rg):∀ x∈s.c,Fz 3 x:=fun x hx=>by
 simp only[Rg.c,fF,j4,k7]at hx;have hi:∀(k:IntKind)(z:Int),Fz 3 (.int k z):=fun k z n hn=>zn n Ω;rcases hx with rfl|rfl|rfl|rfl|rfl|rfl|rfl|rfl|rfl|rfl|rfl|rfl
 ·exact hi _ _
 ·exact hi _ _
 ·exact hi _ _
 ·exact z7 zfe s.a.via
 all_goals exact hi _ _
def bu(p:Pn)(a:Ac):List Pt:=(cF p a.fr).at'::(a.via.l++[(cF p a.to).at'])
def kE(a:Ac)(l:List Pt):List Rg:=(List.range (l.length-1)).map fun k=>⟨a,k,l.length-1,l.getD k gB,l.getD (k+1) gB⟩
def mz(p:Pn):List Rg:=p.az.l.flatMap fun a=>kE a (bu p a)
theorem zcp{a:Ac}{l:List Pt}:(kE a l).length=l.length-1:=by simp[kE]
theorem OB{a:Ac}{l:List Pt}{k:Nat}{x y:Pt}(hx:l[k]?=some x)(hy:l[k+1]?=some y):(kE a l).take (k+1)=(kE a l).take k++[⟨a,k,l.length-1,x,y⟩]:=by
 have hl:=(cU.1 hy).1;have e:(kE a l)[k]?=some ⟨a,k,l.length-1,x,y⟩:=by unfold kE;rw[k9,VL Ω];simp[mN,hx,hy]
 rw[lH,e];rfl
theorem zcq{p:Pn}{a:Ac}(h:a.via.l.length<=1000):(bu p a).length<=1002:=by simp[bu];omega
theorem zfp{p:Pn}(hv:∀ a∈p.az.l,a.via.l.length<=1000)(i:Nat):((p.az.l.take i).flatMap fun a=>kE a (bu p a)).length<=(p.az.l.take i).length*1001:=Be fun a ha=>by have:=zcq (p:=p) (hv a (zly ha));rw[zcp];omega
theorem zd0{p:Pn}(hv:∀ a∈p.az.l,a.via.l.length<=1000)(ha:p.az.l.length<=1000):(mz p).length<9223372036854775808:=by have:=zfp hv p.az.l.length;rw[E7]at this;unfold mz;omega
section
variable {S:cZ}
theorem Vu(hS:bN S)(p:Pn)(hv:∀ a∈p.az.l,a.via.l.length<=1000)(ha:p.az.l.length<=1000):∃ N,aP S N 128 [.agg p.c] (eX Rg.aZ (mz p) (zd0 hv ha)).v:=by
 have P5:∀ a∈p.az.l,∃ N,∀ m,N<=m->∃(q':aS 2 Pt.c),q'.l=bu p a/\∀ d ah aK aa id,aM aR S m d ah aK aa id 87 [.agg p.c,.agg a.c]=some (.r,.tuple [q'.v,.bool ((dN p a.fr).isSome&&(dN p a.to).isSome)],aa):=fun a h=>by obtain⟨q',h1,N,h2⟩:=zan hS p a (by have:=hv a h;omega);exact⟨N,fun m hm=>⟨q',h1,h2 m hm⟩⟩
 obtain⟨Np,hNp⟩:=Fe p.az.l P5;refine⟨Np+p.az.l.length+1040,sX i128 hS (Np+p.az.l.length+1039) fun m hm d ah t af=>?_⟩;simp only[slotsOf,zb,zc,i128,Pn.c]at af;have Qf:=p.az.gC;simp only[i128,V0,seval,af];refine ze (fun jj st=>∃(i:Nat)(J:aU)(lv:IV),p.az.l.length-i<=jj/\i<=p.az.l.length/\cg Rg.c 12 d 1 J lv ((p.az.l.take i).flatMap fun a=>kE a (bu p a))/\st.aa=aI [p.ns.v,p.az.v,p.fs.v]::J/\aN 55 st.t [(1,.ptrM d 0 0),(3,lv),(4,iv i)]) p.az.l.length Ω ⟨0,[],.nilsl,Ω,Ω,.inl ⟨Ψ,rfl⟩,rfl,by simp only[V0,seval,af,eU]⟩ ?_;clear af;rintro jj ⟨t,bO⟩ KA ⟨i,J,lv,hjj,hi,hO,ho,af⟩ bV cS dA;dsimp only at ho af;subst ho;simp only[V3]at af;by_cases h:i<p.az.l.length
 ·have hx:p.az.l[i]?=some p.az.l[i]:=cK h;obtain⟨q',hq1,lG⟩:=hNp _ (gU h) m Ω;have Wr:=hv _ (gU h);have au:=zfp hv i;rw[k8,qu Ω]at au;have hstep:(p.az.l.take (i+1)).flatMap (fun a=>kE a (bu p a))=(p.az.l.take i).flatMap (fun a=>kE a (bu p a))++kE p.az.l[i] (bu p p.az.l[i]):=by rw[lH,hx,rP,B6];simp
  generalize p.az.l[i]=x at hx hq1 lG Wr hstep;generalize(p.az.l.take i).flatMap (fun a=>kE a (bu p a))=X at *;have Nh:=zcq (p:=p) Wr;rw[←hq1]at Nh hstep;have Ug:=q'.gC;have hrd:bM (p.az.l.flatMap Ac.c) (i*6) 6=some [aG aH x.id,aG aH x.fr,aG aH x.to,x.via.v,aG aH x.l,aG aH x.r]:=(zd Ac.aZ 0 6 hx Ω).trans rfl;have hw:=zq i;simp only[zg,Pn.c,Ac.c]at lG;simp only[V0,seval,af,h,za p.az h,hrd,lG];refine ze (fun jj st=>∃(k:Nat)(J:aU)(lv:IV),q'.l.length-k<=jj/\k<=q'.l.length-1/\cg Rg.c 12 d 1 J lv (X++(kE x q'.l).take k)/\st.aa=aI [p.ns.v,p.az.v,p.fs.v]::J/\aN 55 st.t [(1,.ptrM d 0 0),(3,lv),(4,iv i),(5,q'.v),(7,iv k)]) q'.l.length Ω ⟨0,_,lv,Ω,Ω,by simpa using hO.more _,rfl,by simp only[V0,seval,af,eU]⟩ ?_;clear af hO J lv;rintro jj2 ⟨t,bO⟩ KB ⟨k,J,lv,hjk,hk,hO,ho,af⟩ jo lX mE;dsimp only at ho af;subst ho;simp only[V3]at af;have hwk:=zq k;by_cases h2:k+1<q'.l.length
  ·have h0:k<q'.l.length:=Ω;obtain⟨y0,hx0⟩:=gx (l:=q'.l) (i:=k) h0;obtain⟨y1,hx1⟩:=gx (l:=q'.l) (i:=k+1) h2;have r0:bM (q'.l.flatMap Pt.c) (k*2) 2=some [aG aH y0.x,aG aH y0.y]:=(zd (sz:=2) (fun _=>rfl) 0 2 hx0 Ω).trans rfl;have r1:bM (q'.l.flatMap Pt.c) ((k+1)*2) 2=some [aG aH y1.x,aG aH y1.y]:=(zd (sz:=2) (fun _=>rfl) 0 2 hx1 Ω).trans rfl;have hwl:aT .i64 ((q'.l.length:Int)-1)=((q'.l.length-1:Nat):Int):=we;have hXl:(X++(kE x q'.l).take k).length<=1001*1001:=by rw[eR,k8,zcp];omega
   obtain ⟨e,dR,J2,b9,dX⟩:=Lr (Pre:=[aI [p.ns.v,p.az.v,p.fs.v]]) (n0:=J.length+1) (slot:=0) (k:=0) (ah:=ah) (R:=[.free]) Rg.aZ hO (ys:=[⟨x,k,q'.l.length - 1,y0,y1⟩]) Ψ (by simp only [cu,dw]; omega) (by simp only [cu,dw]; omega) rfl (by
    have hvs:∀(cs:List IV)(n:Nat)(v:IV),Sl 2 cs n v->IV.scalar v=true:=fun cs n v h=>by cases h<;>rfl
    have Ws:=hvs _ _ _ x.via.ok;rw[ot];intro y hy;simp only[fJ,lz,Rg.c,iL,fF,j4,k7]at hy;rcases hy with rfl|rfl|rfl|rfl|rfl|rfl|rfl|rfl|rfl|rfl|rfl|rfl
    ·rfl
    ·rfl
    ·rfl
    ·exact Ws
    all_goals rfl) (V:=b7 [] (J.length+1) (aO.cells [p.ns.v,p.az.v,p.fs.v]::(J++[aO.free]))) (fun b y hb=>by
     have:=P9 (vis:=[]) (Pre:=[aO.cells [p.ns.v,p.az.v,p.fs.v]]) (R:=[.free]) hb;rw[List.length_singleton,qv 1 J.length]at this;exact this)
   simp only[gQ,gM,fJ,lz,Rg.c,cu,dw,iL,fO]at b9;rw[kR,←OB hx0 hx1]at dX;have cel:∀(lk:Nat->Nat->Option aO)(tight:Bool)(a b c e f g h i j k l m:IV),cB lk 12 (.slC [a,b,c,e,f,g,h,i,j,k,l,m] 1 12 tight)=some ([a,b,c,e,f,g,h,i,j,k,l,m],1):=fun lk tight _ _ _ _ _ _ _ _ _ _ _ _=>rfl;have OE:∀ a b c e f g h i j k l m:IV,rep [a,b,c,e,f,g,h,i,j,k,l,m] 1=[a,b,c,e,f,g,h,i,j,k,l,m]:=fun _ _ _ _ _ _ _ _ _ _ _ _=>rfl;simp only[V0,seval,af,hwk,h2,hwl,za p.az h,za q' h0,za q' h2,hrd,r0,r1,OE,zh,zk,zo,cel,b9];exact jo _ (q'.l.length-(k+1)) Ω ⟨k+1,J2,dR,Ω,Ω,dX,rfl,cD⟩
  ·simp only[V0,seval,af,hwk,h2];refine lX _ _ ?_;simp only[V0,seval,af,hw];refine bV _ (p.az.l.length-(i+1)) Ω ⟨i+1,J,lv,Ω,Ω,?_,rfl,cD⟩;rw[hstep];rw[gj (by rw[zcp];omega)]at hO;exact hO
 ·simp only[V0,seval,af,h];refine cS _ _ ?_;have dX:cg Rg.c 12 d 1 J lv (mz p):=by rw[gj Ω]at hO;exact hO
  have f1:=O4 (Pre:=[aI [p.ns.v,p.az.v,p.fs.v]]) (m:=m) Rg.aZ ac2 Ω (zd0 hv ha) dX;simp only[gQ,gM]at f1;simp only[V0,seval,af];exact⟨_,rfl,f1⟩
end
def Je(f:Ft):Int:=bif bF f.kind==3 then f.kind else 0
def dI(f:Ft):List (Int×Int):=bif bF f.kind==2 then[]else f.parts.l.map fun x=>(Je f,x)
def qC(p:Pn)(f:Ft)(x:Int):Bool:=bif bF f.kind==1 then(dN p x).isSome else bif bF f.kind==2 then(mH p x).isSome else bif bF f.kind==3 then p.fs.l.contains x else false
def vq(f:Ft):Bool:=decide ((64:Int)<(f.parts.l.length:Int))
def vp(f:Ft):Bool:=decide (f.id<1)||(decide (1073741824<f.id)||(decide (f.cls<1)||decide (9<f.cls)))
def qJ(f:Ft):Bool:=bF f.kind==0
def vo(nm:ByteArray->Int)(f:Ft):Bool:=!(f.name.1.toList==(bs []).toList)&&(nm f.name.1 != 0)
def vn(f:Ft):Bool:=(f.parts.l.length:Int)==0||(bF f.kind==1&&decide ((1:Int)<(f.parts.l.length:Int)))
def uw(p:Pn)(f:Ft):Bool:=f.parts.l.any fun x=>!qC p f x
def ug(fs:List Ft):Bool:=!dP (fs.map Ft.id)||fs.any fun f=>!dP f.parts.l
def QT(fs:List Ft):Bool:=!decide (fs.flatMap dI).Nodup
def sw(nm:ByteArray->Int)(p:Pn)(fs:List Ft):Int:=bif decide ((128:Int)<(fs.length:Int))then 3 else bif fs.any vq then 3 else bif ug fs then 10 else bif fs.any vp then 2 else bif fs.any qJ then 9 else bif fs.any (vo nm)then 14 else bif fs.any vn then 1 else bif fs.any (uw p)then 7 else bif QT fs then 13 else 0
theorem y6:∀{l:List Int},dP l=true↔l.Pairwise (·<·)
 |[]=>by simp[dP]
 |[a]=>by simp[dP]
 |a::b::t=>by
  have ih:=y6 (l:=b::t);rw[dP,gJ,jk,ih,Cb (a:=a)];constructor
  ·rintro⟨h1,h2⟩;refine⟨fun x hx=>?_,h2⟩;rcases fF.1 hx with rfl|hx
   ·exact h1
   ·exact Int.lt_trans h1 ((Cb.1 h2).1 x hx)
  ·rintro⟨h1,h2⟩;exact⟨h1 b (kB ..),h2⟩
section
variable {S:cZ}
def jq(qb:Nat->Bool)(n:Nat):Bool:=(List.range n).any qb
theorem zao{qb:Nat->Bool}{n:Nat}:jq qb (n+1)=(jq qb n||qb n):=by simp[jq,Xw]
theorem MQ{qb:Nat->Bool}{n i:Nat}(h:i<n)(hq:qb i=true):jq qb n=true:=by unfold jq;rw[rR];exact⟨i,rN.2 h,hq⟩
theorem Hu{α:Type}{q:α->Bool}{qb:Nat->Bool}{l:List α}(h:∀ i x,l[i]?=some x->qb i=q x):jq qb l.length=l.any q:=by
 rw[nU];simp only[jq,rR,rN];constructor
 ·rintro⟨i,hi,hq⟩;exact⟨l[i],gU hi,by rw[←h i _ (cK hi)];exact hq⟩
 ·rintro⟨x,hx,hq⟩;obtain⟨i,hi,rfl⟩:=SB.1 hx;exact⟨i,hi,by rw[h i _ (cK hi)];exact hq⟩
theorem Py(hS:bN S){m D:Nat}{ah:bR}(l:aS 5 Ft.c)(qb:Nat->Bool)(gf:FuncId)(caps:List IV)(Inv:Nat->List aO->Prop)(Jm:∀ k J R,Inv k J->Inv k (J++R))(hm:l.l.length+10<=m)
  (hc:∀ k x J,l.l[k]?=some x->jq qb k=false->Inv k J->∃ e J',(∀ id,aM aR S m D ah J J id gf (.agg x.c::caps)=some (e,.bool (qb k),J'))/\Inv (k+1) J') (aa:aU) (h0:Inv 0 aa) :
  ∃(r:Int)(aX:aU),(∀ aK id,aM aR S (m+1) D ah aK aa id 56 [l.v,.fn gf [] caps]=some (.x,aG aH r,aX))/\decide (0<=r)=jq qb l.l.length/\∃ k,k<=l.l.length/\Inv k aX:=by
 have main:∃ v aX,(∀ id,aM aR S (m+1) D ah [] aa id 56 [l.v,.fn gf [] caps]=some (.x,v,aX))/\(∃ r:Int,v=aG aH r/\decide (0<=r)=jq qb l.l.length/\∃ k,k<=l.l.length/\Inv k aX):=by
  refine yU (i:=i56) (ns hS) rfl rfl (lb rfl) fun t af=>?_;simp only[V2,i56]at af;have hlf:=l.gC;simp only[i56,V0,seval,af];refine ze (fun jj st=>∃(i:Nat)(O:aU),l.l.length-i<=jj/\i<=l.l.length/\jq qb i=false/\Inv i O/\st.aa=O/\aN 19 st.t [(0,l.v),(1,.fn gf [] caps),(7,iv (l.l.length:Nat)),(8,iv i)]) l.l.length Ω ⟨0,aa,Ω,Ω,rfl,h0,rfl,by simp only[V0,seval,af,eU]⟩ ?_;clear af;rintro jj ⟨t,aa⟩ K ⟨i,O,hjj,hi,ha,hI,ho,af⟩ hn he hr;dsimp only at ho af;subst ho;simp only[V3]at af;by_cases h:i<l.l.length
  ·obtain⟨x,hx⟩:=gx (l:=l.l) (i:=i) h;have hrd:bM (l.l.flatMap Ft.c) (i*5) 5=some [aG aH x.id,aG aH x.kind,aG aH x.cls,.str x.name.1,x.parts.v]:=(zd Ft.aZ 0 5 hx Ω).trans rfl;have hw:=zq i;obtain⟨e,J',cc,hI'⟩:=hc i x _ hx ha (Jm _ _ [.free] hI);simp only[Ft.c,zg]at cc;cases hq:qb i
   ·simp only[V0,seval,za l h, *];exact hn _ (l.l.length-(i+1)) Ω ⟨i+1,_,Ω,Ω,by rw[zao,ha,hq];rfl,hI',rfl,cD⟩
   ·simp only[V0,seval,za l h, *];refine hr _ ?_;simp only[V0,seval,af,yJ];exact⟨_,rfl,_,rfl,by rw[MQ h hq];simp,i+1,Ω,hI'⟩
  ·simp only[V0,seval,af,h];refine he _ _ ?_;simp only[V0,seval,af,yJ];obtain rfl:i=l.l.length:=Ω;exact⟨_,rfl,_,rfl,by rw[ha];decide,l.l.length,Ω,hI⟩
 obtain⟨v,aX,h1,r,rfl,h2,h3⟩:=main
 exact⟨r,aX,fun aK id=>(yO (ns hS) rfl rfl).trans (h1 0),h2,h3⟩
theorem zfq(hS:bN S){m D:Nat}{ah:bR}(l:aS 5 Ft.c)(qb:Nat->Bool)(gf:FuncId)(caps:List IV)(Inv:Nat->List aO->Prop)(Jm:∀ k J R,Inv k J->Inv k (J++R))(hm:l.l.length+10<=m)
  (hc:∀ k x J,l.l[k]?=some x->jq qb k=false->Inv k J->∃ e J',(∀ id,aM aR S m D ah J J id gf (.agg x.c::caps)=some (e,.bool (qb k),J'))/\Inv (k+1) J') (aa:aU) (h0:Inv 0 aa) :
  ∃ aX:aU,(∀ aK id,aM aR S (m+2) D ah aK aa id 31 [l.v,.fn gf [] caps]=some (.x,.bool (jq qb l.l.length),aX))/\∃ k,k<=l.l.length/\Inv k aX:=by
 have main:∃ v aX,(∀ id,aM aR S (m+1+1) D ah [] aa id 31 [l.v,.fn gf [] caps]=some (.x,v,aX))/\(v=.bool (jq qb l.l.length)/\∃ k,k<=l.l.length/\Inv k aX):=by refine yU (i:=i31) (ns hS) rfl rfl (lb rfl) fun t af=>?_;simp only[V2,i31]at af;obtain⟨r,aX,qE,hr,hI⟩:=Py hS l qb gf caps Inv Jm hm hc (aa++[.free]) (Jm _ _ _ h0);simp only[i31,V0,seval,af,qE,mM,hr,yJ];exact⟨_,rfl,rfl,hI⟩
 obtain⟨v,aX,h1,rfl,h3⟩:=main
 exact⟨aX,fun aK id=>(yO (ns hS) rfl rfl).trans (h1 0),h3⟩
theorem Mp(hS:bN S){m D:Nat}{ah:bR}(l:aS 5 Ft.c)(q:Ft->Bool)(gf:FuncId)(caps:List IV)(aa:aU)(hm:l.l.length+10<=m)
  (hc:∀ x∈l.l,∀ R id,aM aR S m D ah (aa++R) (aa++R) id gf (.agg x.c::caps)=some (.r,.bool (q x),aa++R)) :
  ∃ R:aU,∀ aK id,aM aR S (m+2) D ah aK aa id 31 [l.v,.fn gf [] caps]=some (.x,.bool (l.l.any q),aa++R):=by
 obtain⟨aX,h1,k,_,R,rfl⟩:=zfq (D:=D) (ah:=ah) hS l (fun k=>((l.l[k]?).map q).getD false) gf caps (fun _ J=>∃ R,J=aa++R) (fun k J R ⟨R0,h⟩=>⟨R0++R,by rw[h,kR]⟩) hm
  (fun k x J hx _ ⟨R,hJ⟩=>⟨.r,J,fun id=>by
   subst hJ;rw[hc x (j5 hx) R id];simp only [hx,gH,tE],R,hJ⟩) aa ⟨[],Ψ⟩
 refine⟨R,fun aK id=>?_⟩
 rw[h1 aK id,Hu (q:=q) (l:=l.l) fun i x hx=>by simp only[hx,gH,tE]]
theorem zby(hS:bN S)(k:Int):aP S 2 11 [iv k] (aG aH (bF k)):=by
 refine gv i11 hS 1 zn fun m hm d ah t af=>?_;simp only[slotsOf,zb,zc,i11,zg]at af;unfold bF;cases h1:k==1;rotate_left
 ·simp only[i11,V0,seval,af,h1,iY,bT]
 cases h2:k==2;rotate_left
 ·simp only[i11,V0,seval,af,h1,h2,iY,iS,bT]
 cases h8:k==8;rotate_left
 ·simp only[i11,V0,seval,af,h1,h2,h8,iS,bT]
 cases h3:k==3;rotate_left
 ·simp only[i11,V0,seval,iY,iS,bT,bL, *]
 cases h4:k==4;rotate_left
 ·simp only[i11,V0,seval,iS,bT,bL, *]
 cases h5:k==5;rotate_left
 ·simp only[i11,V0,seval,iY,iS,bT,bL, *]
 cases h6:k==6;rotate_left
 ·simp only[i11,V0,seval,iY,iS,bT,bL, *]
 cases h7:k==7
 ·simp only[i11,V0,seval,iS,bL, *]
 ·simp only[i11,V0,seval,iS,bT,bL, *]
theorem aer(hS:bN S)(f:Ft):aP S 2 21 [.agg f.c] (.bool (vq f)):=by refine gv i21 hS 1 zj fun m hm d ah t af=>?_;simp only[slotsOf,zb,zc,i21,Ft.c,zg]at af;simp only[i21,V0,seval,af,vq,eZ]
theorem aep(hS:bN S)(f:Ft):aP S 2 23 [.agg f.c] (.bool (vp f)):=by
 refine gv i23 hS 1 zj fun m hm d ah t af=>?_;simp only[slotsOf,zb,zc,i23,Ft.c,zg]at af;unfold vp;cases h1:decide (f.id<1)
 ·cases h2:decide (1073741824<f.id)
  ·cases h3:decide (f.cls<1)
   ·simp only[i23,V0,seval,af,eZ,h1,h2,h3,iS]
   ·simp only[i23,V0,seval,af,eZ,h1,h2,h3,iS,iY]
  ·simp only[i23,V0,seval,af,eZ,h1,h2,iS,iY]
 ·simp only[i23,V0,seval,af,h1,iY]
theorem aeo(hS:bN S)(f:Ft):aP S 4 24 [.agg f.c] (.bool (qJ f)):=by refine gv i24 hS 3 zj fun m hm d ah t af=>?_;simp only[slotsOf,zb,zc,i24,Ft.c,zg]at af;have c0:=zby hS f.kind m Ω;simp only[zg]at c0;simp only[i24,V0,seval,af,qJ,c0]
def MU(S:cZ)(nm:ByteArray->Int):Prop:=∀ s:{ s:ByteArray // s.size<=maxLen },aP S 20 26 [.str s.1] (aG aH (nm s.1))
theorem aen(hS:bN S){nm:ByteArray->Int}(hN:MU S nm)(f:Ft):aP S 24 25 [.agg f.c] (.bool (vo nm f)):=by
 refine gv i25 hS 23 zj fun m hm d ah t af=>?_;simp only[slotsOf,zb,zc,i25,Ft.c,zg]at af;have c0:=hN f.name m Ω;unfold vo;cases h1:f.name.1.toList==(bs []).toList
 ·simp only[i25,V0,seval,af,c0,h1,oy]
 ·simp only[i25,V0,seval,af,h1,oy,ew]
theorem aem(hS:bN S)(f:Ft):aP S 4 27 [.agg f.c] (.bool (vn f)):=by
 refine gv i27 hS 3 zj fun m hm d ah t af=>?_;simp only[slotsOf,zb,zc,i27,Ft.c,zg]at af;have c0:=zby hS f.kind m Ω;simp only[zg]at c0;unfold vn;cases h1:(f.parts.l.length:Int)==0
 ·cases h2:bF f.kind==1
  ·simp only[i27,V0,seval,af,c0,h1,h2,iS,ew]
  ·simp only[i27,V0,seval,af,c0,h1,h2,eZ,iS]
 ·simp only[i27,V0,seval,af,h1,iY]
theorem Rt(hS:bN S)(l:aS 1 aL):aP S (l.l.length+4) 49 [l.v] (.bool (dP l.l)):=by
 refine gv i49 hS (l.l.length+3) zj fun m hm d ah t af=>?_;simp only[slotsOf,zb,zc,i49]at af;have hlf:=l.gC;simp only[i49,V0,seval];refine ze (fun jj st=>∃(i:Nat)(O:aU),l.l.length-i<=jj/\(1<=i/\i<=l.l.length+1)/\rK l.l i/\st.aa=O/\aN 20 st.t [(0,l.v),(3,iv i)]) l.l.length Ω ⟨1,[],Ω,Ω,fun i x y h _ _=>by omega,rfl,by simp only[V0,seval,af,Xx]⟩ ?_;rintro jj ⟨t,aa⟩ K ⟨i,O,hjj,hi,ha,ho,af⟩ hn he hr;dsimp only at ho af;subst ho;simp only[V3]at af;by_cases h:i<l.l.length
 ·obtain⟨x,hx⟩:=gx (l:=l.l) (i:=i) h;have h0:i-1<l.l.length:=Ω;obtain⟨y,hy⟩:=gx (l:=l.l) (i:=i-1) h0;have kM:bM (l.l.flatMap aL) (i*1) 1=some [aG aH x]:=zd zf 0 1 hx Ω;have va:bM (l.l.flatMap aL) ((i-1)*1) 1=some [aG aH y]:=zd zf 0 1 hy Ω;have hw:=zq i;have hv:aT .i64 ((i:Int)-1)=((i-1:Nat):Int):=we;by_cases hb:x<=y
  ·simp only[V0,seval,za l h,za l h0,mM,hb, *];refine hr _ ?_;have hf:dP l.l=false:=by rw[←sZ];intro hc;have:=yx.1 hc (i-1) y x Ω hy (by rw[show i-1+1=i by omega];exact hx);omega
   simp only[V0,seval,af,hf]
  ·simp only[V0,seval,za l h,za l h0,mM,hb, *];refine hn _ (l.l.length-(i+1)) Ω ⟨i+1,_,Ω,Ω,?_,rfl,cD⟩;intro j u v hj hu hv;by_cases hj2:j+1<i
   ·exact ha j u v hj2 hu hv
   ·have e:j=i-1:=Ω;subst e;rw[show i-1+1=i by omega]at hv;rw[hy]at hu;rw[hx]at hv;cases hu;cases hv;omega
 ·simp only[V0,seval,af,h];refine he _ _ ?_;have hf:dP l.l=true:=yx.2 fun j u v hj hu hv=>ha j u v Ω hu hv;simp only[V0,seval,af,hf]
end
section
variable {S:cZ}
theorem Px(hS:bN S)(l:aS 1 aL)(q:Int->Bool)(gf:FuncId)(caps:List IV)(Nc D:Nat)(B:aU)(hc:∀ x∈l.l,∀ m,Nc<=m->∀ d ah aK aa id,D<d->ah D=B->aM aR S m d ah aK aa id gf (iv x::caps)=some (.r,.bool (q x),aa)) :
  ∀ m,Nc+l.l.length+4<=m->∀ d ah aK aa id,D<d->ah D=B->aM aR S m d ah aK aa id 80 [l.v,.fn gf [] caps]=some (.r,aG aH (fIdx q l.l),aa):=fun m hm d ah aK aa id hd hB=>by
 refine Yc (i:=i80) (N:=Nc+l.l.length+3) (ns hS) rfl rfl (lb rfl) Ω Ω zn fun m hm t af=>?_
 have Qj:(fun a=>if a=d then aK else ah a:bR) D=B:=by
  show(if D=d then aK else ah D)=B
  rw[bC Ω,hB]
 generalize(fun a=>if a=d then aK else ah a:bR)=cQ at Qj ⊢
 simp only[V2,i80]at af
 simp only[i80,V0,seval,af]
 have hlf:=l.gC
 refine ze (fun jj st=>∃(i:Nat)(O:aU),l.l.length-i<=jj/\i<=l.l.length/\(l.l.take i).findIdx? q=none/\st.aa=O/\aN 19 st.t [(0,l.v),(1,.fn gf [] caps),(7,iv (l.l.length:Nat)),(8,iv i)]) l.l.length Ω ⟨0,[],Ω,Ω,Ψ,rfl,by simp only[V0,seval,af,eU]⟩ ?_
 rintro jj ⟨t,aa⟩ K ⟨i,O,hjj,hi,ha,ho,af⟩ hn he hr
 dsimp only at ho af
 subst ho
 simp only[V3]at af
 by_cases h:i<l.l.length
 ·have hx:l.l[i]?=some l.l[i]:=cK h
  have hmem:l.l[i]∈l.l:=gU h
  generalize l.l[i]=x at hx hmem
  have hrd:bM (l.l.flatMap aL) (i*1) 1=some [aG aH x]:=zd zf 0 1 hx Ω
  have hw:=zq i
  have cc:=fun aK aa id=>hc x hmem m Ω (d+1) cQ aK aa id Ω Qj
  simp only[zg]at cc
  cases hq:q x
  ·simp only[V0,seval,za l h, *]
   refine hn _ (l.l.length-(i+1)) Ω ⟨i+1,_,Ω,Ω,?_,rfl,cD⟩
   rw[lH,hx,rP,zmq,ha]
   simp[NF,hq]
  ·simp only[V0,seval,za l h, *]
   refine hr _ ?_
   simp only[V0,seval,af,zdw hx hq ha]
 ·simp only[V0,seval,af,h]
  refine he _ _ ?_
  have hall:fIdx q l.l=-1:=by rw[gj Ω]at ha;simp only[fIdx,ha]
  simp only[V0,seval,af,hall]
theorem Q7(hS:bN S)(l:aS 1 aL)(q:Int->Bool)(gf:FuncId)(caps:List IV)(Nc D:Nat)(B:aU)(hc:∀ x∈l.l,∀ m,Nc<=m->∀ d ah aK aa id,D<d->ah D=B->aM aR S m d ah aK aa id gf (iv x::caps)=some (.r,.bool (q x),aa)) :
  ∀ m,Nc+l.l.length+6<=m->∀ ah aa id,aM aR S m D ah B aa id 51 [l.v,.fn gf [] caps]=some (.r,.bool (l.l.any q),aa):=fun m hm ah aa id=>by
 refine Yc (i:=i51) (N:=Nc+l.l.length+5) (ns hS) rfl rfl (lb rfl) Ω Ω zj fun m hm t af=>?_
 have Qj:(fun a=>if a=D then B else ah a:bR) D=B:=bt rfl
 generalize(fun a=>if a=D then B else ah a:bR)=cQ at Qj ⊢
 simp only[V2,i51]at af
 have cc:=fun aK aa id=>Px hS l q gf caps Nc D B hc m Ω (D+1) cQ aK aa id Ω Qj
 have hz:decide (0<=fIdx q l.l)=l.l.any q:=zbp
 simp only[i51,V0,seval,af,cc,mM,hz]
theorem LC(hS:bN S)(p:Pn)(hv:bQ p)(f:Ft)(x:Int):∃ N,∀ m,N<=m->∀ D d ah aK aa id R,D<d->ah D=aI p.c::aI f.c::R->aM aR S m d ah aK aa id 52 [iv x,.ptrM D 1 0,.ptrM D 0 0]=some (.r,.bool (!qC p f x),aa):=by
 obtain⟨N1,vf⟩:=Yp hS p x;obtain⟨q,hq,N2,Us⟩:=zcj hS p x (fun a ha=>by have:=hv a ha;omega);obtain⟨N3,hN3⟩:=ze6 hS p.fs x;obtain⟨N4,hN4⟩:∃ N,aP S N 54 [p.fs.v,iv x] (.bool (p.fs.l.contains x)):=by refine⟨N3+2,gv i54 hS (N3+1) zj fun m hm d ah t af=>?_⟩;simp only[V2,i54,zg]at af;have c0:=hN3 m Ω;simp only[zg]at c0;simp only[i54,V0,seval,af,c0]
 refine⟨N1+N2+N4+10,fun m hm D d ah aK aa id R hd hB=>?_⟩;refine Yc (i:=i52) (N:=N1+N2+N4+9) (ns hS) rfl rfl (lb rfl) Ω Ω zj fun m hm t af=>?_;have Qj:(fun a=>if a=d then aK else ah a:bR) D=aI p.c::aI f.c::R:=by
  show(if D=d then aK else ah D)=_
  rw[bC Ω,hB]
 generalize(fun a=>if a=d then aK else ah a:bR)=cQ at Qj ⊢
 simp only[V2,Xb,i52,zg]at af;simp only[Pn.c,Ft.c,zg]at Qj;have hd1:(D=d+1)=False:=eq_false Ω;have hd2:(D<d+1)=True:=eq_true Ω;have c0:=zby hS f.kind m Ω;have c1:=vf m Ω;have c2:=Us m Ω;have c4:=hN4 m Ω;simp only[Pn.c,zg]at c0 c1 c2 c4;have e1:(p.ns.l.find? fun f=>f.id==x).isSome=(dN p x).isSome:=rfl;have e2:(p.az.l.find? fun f=>f.id==x).isSome=(mH p x).isSome:=rfl;unfold qC;cases h1:bF f.kind==1;rotate_left
 ·simp only[i52,V0,seval,bT, *]
 cases h2:bF f.kind==2;rotate_left
 ·simp only[i52,V0,seval,bT,bL, *]
 cases h3:bF f.kind==3
 ·simp only[i52,V0,seval,bL, *]
 ·simp only[i52,V0,seval,bT,bL, *]
theorem Vf(hS:bN S)(p:Pn)(hv:bQ p)(f:Ft):∃ N,aP S N 29 [.agg p.c,.agg f.c] (.bool (uw p f)):=by obtain⟨N1,vf⟩:=Fe f.parts.l (fun x _=>LC hS p hv f x);refine⟨N1+f.parts.l.length+10,gv i29 hS (N1+f.parts.l.length+9) zj fun m hm d ah t af=>?_⟩;simp only[V2,i29,Pn.c,Ft.c,zg]at af;have c0:=fun aa id=>Q7 hS f.parts (fun x=>!qC p f x) 52 [.ptrM d 1 0,.ptrM d 0 0] N1 d [aI p.c,aI f.c,.free] (fun x hx m hm d' ah aK aa id hd hB=>vf x hx m hm d d' ah aK aa id [.free] hd hB) m Ω ah aa id;have hb:(f.parts.l.any fun x=>!qC p f x)=uw p f:=rfl;simp only[Pn.c,Ft.c,zg,hb]at c0;simp only[i29,V0,seval,af,c0]
theorem aap(hS:bN S)(s:Sv)(hv:bQ s.pl)(f:Ft):∃ N,∀ m,N<=m->∀ D ah aa id R,aa=aI s.c::R->aM aR S m D ah aa aa id 28 [.agg f.c,.ptrM D 0 0]=some (.r,.bool (uw s.pl f),aa):=by
 obtain⟨N1,vf⟩:=Vf hS s.pl hv f;refine⟨N1+3,fun m hm D ah aa id R ho=>?_⟩;refine Yc (i:=i28) (N:=N1+2) (ns hS) rfl rfl (lb rfl) Ω Ω zj fun m hm t af=>?_;have Qj:(fun a=>if a=D then aa else ah a:bR) D=aI s.c::R:=(bt rfl).trans ho
 generalize(fun a=>if a=D then aa else ah a:bR)=cQ at Qj ⊢
 simp only[V2,i28,Ft.c,zg]at af;simp only[Sv.c]at Qj;have hd1:(D=D+1)=False:=eq_false Ω;have hd2:(D<D+1)=True:=eq_true Ω;have c0:=vf m Ω;simp only[Pn.c,Ft.c,zg]at c0;simp only[i28,V0,seval, *]
end
def mS(k:Int×Int):IV:=.agg [aG aH k.1,aG aH k.2]
def Db(L:List (Int×Int)):List IV:=L.map mS
def Fh(L:List (Int×Int)):List IV:=L.map fun _=>.bool true
theorem zfr(k:Int×Int):∀(L:List (Int×Int))(n:Nat),fL (true,[1,1]) (mS k) (Db L) n=some ((L.findIdx? fun x=>k==x).map (n+·))
 |[],n=>rfl
 |x::L,n=>by
  have ih:=zfr k L (n+1);have e:Nl (true,[1,1]) (mS k) (mS x)=some (k==x):=by
   have:fM [1,1] [aG aH k.1,aG aH k.2] [aG aH x.1,aG aH x.2]=some (k==x):=by have hk:(k==x)=(k.1==x.1&&k.2==x.2):=rfl;rw[hk];simp only[fM,eqv];cases h1:k.1==x.1<;>cases h2:k.2==x.2<;>simp[h1,h2]
   exact this
  show(match Nl (true,[1,1]) (mS k) (mS x)with|some true=>some (some n)|some false=>fL (true,[1,1]) (mS k) (Db L) (n+1)|none=>none)=_
  rw[e];cases h:k==x
  ·simp only[ih,NF,h];cases L.findIdx? fun x=>k==x with
   |none=>rfl
   |some j=>simp;omega
  ·simp[NF,h]
theorem D9{k:Int×Int}{L:List (Int×Int)}(h:L.contains k=false):(L.findIdx? fun x=>k==x)=none:=by
 rw[Ks];intro x hx;cases hb:k==x
 ·rfl
 ·obtain rfl:k=x:=by simpa using hb
  rw[nM.2 hx]at h;cases h
theorem Qr{k:Int×Int}{L:List (Int×Int)}(h:L.contains k=true):∃ j,(L.findIdx? fun x=>k==x)=some j/\j<L.length:=by
 cases hf:L.findIdx? fun x=>k==x with
 |none =>
  rw[Ks]at hf
  have:=hf k (nM.1 h)
  simp at this
 |some j =>
  obtain⟨hj,_⟩:=Kt.1 hf
  exact⟨j,rfl,hj⟩
theorem QC{L:List (Int×Int)}{bs:List Nat}{ck:Nat}(k:Int×Int){C:Call}{d n0 l j:Nat}{ah:bR}{aK aa:aU}{t:List IV}{a b:bG}(h1:ρ t a=.mapM l j)(h2:ρ t b=.agg [aG aH k.1,aG aH k.2])(h3:look d ah aK l j=some (.map (Db L) (Fh L) bs ck)):cH C d ah n0 aK aa t (.lookup (.bool false) (true,[1,1]) false a b)=some (.r,.bool (L.contains k),aa):=by
 have h0:(kL true (mS k)&&(mS k).cells.length==[1,1].length)=true:=rfl;have h2:ρ t b=mS k:=h2;rw[Zu];simp only[fV,h1,h2,h3,mh,h0,if_true,zfr];cases hc:L.contains k
 ·rw[D9 hc];rfl
 ·obtain⟨j,hj,hl⟩:=Qr hc;rw[hj];simp[Fh,hl]
theorem ab8{L:List (Int×Int)}{bs:List Nat}{ck:Nat}(k:Int×Int)(hL:L.contains k=false)(C:Call)(D:Nat)(ah:bR)(n0 j:Nat)(aK aa:aU)(t:List IV)(a b c:bG)(h1:ρ t a=.mapM D j)(h2:ρ t b=.agg [aG aH k.1,aG aH k.2])(h3:ρ t c=.bool true)(h4:aa[j]?=some (.map (Db L) (Fh L) bs ck)) :
  cH C D ah n0 aK aa t (.mapupd (true,[1,1]) a b c)=some (.x,.tuple [],aa.set j (.map (Db (L++[k])) (Fh (L++[k])) (bs++[ck]) (ck+1))):=by
 have h0:(kL true (mS k)&&(mS k).cells.length==[1,1].length)=true:=rfl
 have h2:ρ t b=mS k:=h2
 rw[Ya]
 simp only[gF,h1,h2,h3,h4,h0,Nx,if_true,zfr,D9 hL,NC,zi]
 simp[Db,Fh]
def oW:List (Int×Int)->List (Int×Int)->Bool
 |_,[]=>false
 | L,k::r=>L.contains k||oW (L++[k]) r
theorem zfs:∀{L r:List (Int×Int)},L.Nodup->oW L r=!decide (L++r).Nodup
 |L,[],h=>by simp[oW,h]
 |L,k::r,h=>by
  rw[oW];cases hc:L.contains k
  ·have hk:k ∉ L:=fun hm=>by rw[nM.2 hm]at hc;cases hc
   have h2:(L++[k]).Nodup:=by rw[M3];refine⟨h,Ψ,fun x hx y hy=>?_⟩;rw[qx]at hy;subst hy;intro e;exact hk (e▸hx)
   rw[zfs h2,iS,kR];rfl
  ·have:¬ (L++k::r).Nodup:=fun hn=>by rw[M3]at hn;exact hn.2.2 k (nM.1 hc) k (kB ..) rfl
   simp[this]
def sH(fs:List Ft)(k:Nat):Bool:=((fs[k]?).map fun f=>oW ((fs.take k).flatMap dI) (dI f)).getD false
theorem DL{fs:List Ft}:∀{n:Nat},n<=fs.length->jq (sH fs) n=!decide ((fs.take n).flatMap dI).Nodup
 |0,_=>by simp[jq]
 |n+1,h=>by
  have ih:=DL (fs:=fs) (n:=n) Ω;have hx:fs[n]?=some fs[n]:=cK h;rw[zao,ih,zcl hx];have e:sH fs n=oW ((fs.take n).flatMap dI) (dI fs[n]):=by simp[sH,hx]
  rw[e];by_cases hn:((fs.take n).flatMap dI).Nodup
  ·rw[zfs hn];simp[hn]
  ·have:¬ ((fs.take n).flatMap dI++dI fs[n]).Nodup:=fun h2=>hn (M3.1 h2).1;simp[hn,this]
theorem LR{fs:List Ft}:jq (sH fs) fs.length=QT fs:=by rw[DL (dz _),E7];rfl
def pG(fs:List Ft)(k:Nat):Bool:=((fs[k]?).map fun x=>(decide (0<k)&&((fs[k-1]?).map fun y=>decide (x.id<=y.id)).getD false)||!dP x.parts.l).getD false
theorem Mh{fs:List Ft}:jq (pG fs) fs.length=ug fs:=by
 unfold ug;rw[nU];simp only[jq,rR,rN,nu,tB];constructor
 ·rintro⟨k,hk,h⟩;have hx:fs[k]?=some fs[k]:=cK hk;simp only[pG,hx,gH,tE,nu,gJ,jk,tB]at h;rcases h with⟨h0,h⟩|h
  ·left;have hy:fs[k-1]?=some fs[k-1]:=cK Ω;rw[hy]at h;simp only[gH,tE,jk]at h;rw[←sZ];intro ha;have:=yx.1 ha (k-1) fs[k-1].id fs[k].id (by rw[ig];omega) (by rw[k9,hy];rfl) (by rw[show k-1+1=k by omega,k9,hx];rfl);omega
  ·exact .inr ⟨fs[k],gU hk,h⟩
 ·rintro(h|⟨f,hf,h⟩)
  ·rw[←sZ,yx]at h;unfold rK at h;simp only[Classical.not_forall]at h;obtain⟨i,x,y,hi,hx,hy,hxy⟩:=h;rw[ig]at hi;rw[k9]at hx hy;have hx1:fs[i]?=some fs[i]:=cK Ω;have hy1:fs[i+1]?=some fs[i+1]:=cK hi;rw[hx1]at hx;rw[hy1]at hy;simp only[gH,fZ]at hx hy;refine⟨i+1,hi,?_⟩;simp only[pG,hy1,hx1,zm5,gH,tE,nu,gJ,jk];exact .inl ⟨Ω,Ω⟩
  ·obtain⟨k,hk,rfl⟩:=SB.1 hf;refine⟨k,hk,?_⟩;have hx:fs[k]?=some fs[k]:=cK hk;simp[pG,hx,h]
section
variable {S:cZ}
theorem UT(hS:bN S){m D:Nat}{ah:bR}(hm:1<=m)(s:Sv)(aa:aU):∀ aK id,aM aR S (m+1) D ah aK aa id 22 [.agg s.c]=some (.x,.fn 48 [] [.ptrM D (aa.length+1) 0,.ptrM D aa.length 0],aa++[aI s.c,aI [aG aH 0]]):=by
 have main:∃ v aX,(∀ id,aM aR S (m+1) D ah [] aa id 22 [.agg s.c]=some (.x,v,aX))/\(v=.fn 48 [] [.ptrM D (aa.length+1) 0,.ptrM D aa.length 0]/\aX=aa++[aI s.c,aI [aG aH 0]]):=by refine yU (i:=i22) (ns hS) rfl rfl (lb rfl) fun t af=>?_;simp only[slotsOf,zb,zc,i22,Sv.c]at af;simp only[i22,V0,Xa,Xb,Xe,af,yJ,Sv.c];exact⟨_,rfl,rfl⟩
 obtain⟨v,aX,h1,rfl,rfl⟩:=main;exact fun aK id=>(yO (ns hS) rfl rfl).trans (h1 0)
theorem Th(hS:bN S){m D:Nat}{ah:bR}(hm:1<=m)(aa:aU):∀ aK id,aM aR S (m+1) D ah aK aa id 30 []=some (.x,.fn 55 [] [.ptrM D (aa.length+1) 0],aa++[.map [] [] [] 0,aI [.mapM D aa.length]]):=by
 have main:∃ v aX,(∀ id,aM aR S (m+1) D ah [] aa id 30 []=some (.x,v,aX))/\(v=.fn 55 [] [.ptrM D (aa.length+1) 0]/\aX=aa++[.map [] [] [] 0,aI [.mapM D aa.length]]):=by refine yU (i:=i30) (ns hS) rfl rfl (lb rfl) fun t af=>?_;simp only[slotsOf,zc,i30]at af;have smp:∀ j,(IV.mapM D j).scalar=true:=fun j=>rfl;have cmp:∀ j,(IV.mapM D j).cells=[.mapM D j]:=fun j=>rfl;simp only[i30,V0,Xa,Xb,Xe,af,smp,cmp,yJ];exact⟨_,rfl,rfl⟩
 obtain⟨v,aX,h1,rfl,rfl⟩:=main;exact fun aK id=>(yO (ns hS) rfl rfl).trans (h1 0)
theorem QX(hS:bN S){m D:Nat}{ah:bR}(s:Sv)(k:Nat)(x:Ft)(hx:s.ft.l[k]?=some x)(hm:x.parts.l.length+10<=m)(P J:aU):∃ R,∀ aK id,aM aR S (m+1) D ah aK (P++aI s.c::aI [iv k]::J) id 48 [.agg x.c,.ptrM D (P.length+1) 0,.ptrM D P.length 0]=some (.x,.bool (pG s.ft.l k),P++aI s.c::aI [iv (k+1:Nat)]::(J++R)):=by
 have main:∃ v aX,(∀ id,aM aR S (m+1) D ah [] (P++aI s.c::aI [iv k]::J) id 48 [.agg x.c,.ptrM D (P.length+1) 0,.ptrM D P.length 0]=some (.x,v,aX))/\(v=.bool (pG s.ft.l k)/\∃ R,aX=P++aI s.c::aI [iv (k+1:Nat)]::(J++R)):=by
  refine yU (i:=i48) (ns hS) rfl rfl (lb rfl) fun t af=>?_;simp only[V2,Xb,i48,Ft.c,zg]at af;obtain⟨hk,hxe⟩:=cU.1 hx;have hlf:=s.ft.gC;have hw:=zq k;have c0:=Rt hS x.parts m Ω;have g3:∀(a b c:aO),(P++a::b::(J++[c]))[P.length+(J.length+1+1)]?=some c:=fun a b c=>by rw[show P++a::b::(J++[c])=(P++a::b::J)++[c] by simp,show P.length+(J.length+1+1)=(P++a::b::J).length by simp,jd (dz _),rM];rfl
  have g3f:∀(a b c e:aO),(P++a::b::(J++[c,e]))[P.length+(J.length+1+1)]?=some c:=fun a b c e=>by rw[show P++a::b::(J++[c,e])=(P++a::b::J)++[c,e] by simp,show P.length+(J.length+1+1)=(P++a::b::J).length by simp,jd (dz _),rM];rfl
  have h0:∀(vis:List Nat)(a b c e:aO),(b7 vis (P.length+(J.length+1+1+1)) (P++a::b::(J++[c,e])))[P.length]?=some a:=fun vis a b c e=>by rw[zp,zdt,gH,bt Ψ]
  have h1:∀(vis:List Nat)(a b c e:aO),(b7 vis (P.length+(J.length+1+1+1)) (P++a::b::(J++[c,e])))[P.length+1]?=some b:=fun vis a b c e=>by rw[zp,ze3,gH,bt Ψ]
  have h2:∀(vis:List Nat)(a b c e:aO),(b7 vis (P.length+(J.length+1+1+1)) (P++a::b::(J++[c,e])))[P.length+(J.length+1+1)]?=some c:=fun vis a b c e=>by rw[zp,g3f,gH,bt Ψ]
  have s3:∀(a b c e:aO),(P++a::b::(J++[c])).set (P.length+(J.length+1+1)) e=P++a::b::(J++[e]):=fun a b c e=>by rw[show P++a::b::(J++[c])=(P++a::b::J)++[c] by simp,show P.length+(J.length+1+1)=(P++a::b::J).length by simp,Fc _ _ (dz _),rM];simp
  cases k with
  |zero =>
   have hgt:decide (((0+1:Nat):Int)>1)=false:=by decide
   have hd:pG s.ft.l 0=!dP x.parts.l:=by simp[pG,hx]
   simp only[i48,V0,Xa,Xe,af,Sv.c,hw,g3,s3,h1,h2,hgt,c0,yJ]
   exact⟨_,rfl,by rw[hd],_,rfl⟩
  |succ k =>
   have hgt:decide (((k+1+1:Nat):Int)>1)=true:=by rw[decide_eq_true_iff];omega
   have au:k<s.ft.l.length:=Ω
   obtain⟨y,hy⟩:=gx (l:=s.ft.l) (i:=k) au
   have hw2:aT .i64 (((k+1+1:Nat):Int)-2)=((k:Nat):Int):=we
   have hrd:bM (s.ft.l.flatMap Ft.c) (k*5) 1=some [aG aH y.id]:=(zd Ft.aZ 0 1 hy Ω).trans rfl
   have hd:pG s.ft.l (k+1)=(decide (x.id<=y.id)||!dP x.parts.l):=by simp[pG,hx,hy]
   cases hb:decide (x.id<=y.id)
   ·simp only[i48,V0,Xa,Xe,af,Sv.c,hw,g3,s3,h0,h1,h2,hgt,c0,hw2,za s.ft au,hrd,mM,hb,yJ]
    exact⟨_,rfl,by rw[hd,hb,iS],_,rfl⟩
   ·simp only[i48,V0,Xa,Xe,af,Sv.c,hw,g3,s3,h0,h1,h2,hgt,hw2,za s.ft au,hrd,mM,hb,yJ]
    exact⟨_,rfl,by rw[hd,hb,iY],_,rfl⟩
 obtain⟨v,aX,h1,rfl,R,rfl⟩:=main;exact⟨R,fun aK id=>(yO (ns hS) rfl rfl).trans (h1 0)⟩
end
theorem AT{α:Type}{P R:List α}{a b c:α}{j:Nat}(h:R[j]?=some c):(P++a::b::R)[P.length+(j+1+1)]?=some c:=by rw[jd Ω,show P.length+(j+1+1)-P.length=j+1+1 by omega,jP,jP,h]
theorem I4{α:Type}{P R:List α}{a b v:α}{j:Nat}:(P++a::b::R).set (P.length+(j+1+1)) v=P++a::b::R.set j v:=by rw[Fc _ _ Ω,show P.length+(j+1+1)-P.length=j+1+1 by omega,HI,HI]
section
variable {S:cZ}
theorem Od(hS:bN S){m D:Nat}{ah:bR}{K:fP}(f:Ft)(kind:Int)(L:List (Int×Int))(P J:aU)(bs:List Nat)(ck j:Nat)(hm:f.parts.l.length+10<=m)(hkey:dI f=f.parts.l.map fun x=>(kind,x))(hj:J[j]?=some (aI f.c))(t:List IV)
  (af:aN 33 t [(1,.ptrM D (P.length+1) 0),(2,.ptrM D (P.length+(j+1+1)) 0),(4,aG aH kind)])
  (hK:∀ t' L' bs' iO R b,aN 33 t' [(3,.bool b)]->b=oW L (dI f)->(b=false->L'=L++dI f)->K .ret ⟨t',P++.map (Db L') (Fh L') bs' iO::aI [.mapM D P.length]::(J++R)⟩) :
  Ex (aM aR S m) D ah m (i55.body.sub [1,1,1]) K ⟨t,P++.map (Db L) (Fh L) bs ck::aI [.mapM D P.length]::J⟩:=by
 simp only[zb,zc]at af
 have hlf:=f.parts.gC
 have g0:∀(a b:aO),(P++a::b::J)[P.length+(j+1+1)]?=some (aI f.c):=fun a b=>AT hj
 simp only[Ft.c,zg]at g0
 simp only[i55,IC.sub,V0,seval,af,g0]
 refine ze (fun jj st=>∃(i:Nat)(L1:List (Int×Int))(bs:List Nat)(ck:Nat)(R:aU),f.parts.l.length-i<=jj/\i<=f.parts.l.length/\L1=L++(dI f).take i/\oW L (dI f)=oW L1 ((dI f).drop i)/\st.aa=P++.map (Db L1) (Fh L1) bs ck::aI [.mapM D P.length]::(J++R)/\aN 33 st.t [(1,.ptrM D (P.length+1) 0),(4,aG aH kind),(18,f.parts.v),(19,iv (f.parts.l.length:Nat)),(20,iv i)]) f.parts.l.length Ω ⟨0,L,bs,ck,[],Ω,Ω,Ψ,Ψ,Ψ,by simp only[V0,seval,af,eU]⟩ ?_
 clear af
 rintro jj ⟨t,aa⟩ KA ⟨i,L1,bs,ck,R,hjj,hi,hL1,rz,ho,af⟩ bV cS dA
 dsimp only at ho af
 subst ho
 simp only[V3]at af
 by_cases h:i<f.parts.l.length
 ·obtain⟨x,hx⟩:=gx (l:=f.parts.l) (i:=i) h
  have hrd:bM (f.parts.l.flatMap aL) (i*1) 1=some [aG aH x]:=(zd zf 0 1 hx Ω).trans rfl
  have hw:=zq i
  have hkx:(dI f)[i]?=some (kind,x):=by rw[hkey,k9,hx];rfl
  have rA:(dI f).drop i=(kind,x)::(dI f).drop (i+1):=by obtain⟨h1,h2⟩:=cU.1 hkx;rw[←h2,HM h1]
  have gN:∀(a b c:aO),(P++a::b::(J++(R++[c])))[P.length+(J.length+R.length+1+1)]?=some c:=fun a b c=>AT (by rw[←kR,←eR,jd (dz _),rM];rfl)
  have sN:∀(a b c v:aO),(P++a::b::(J++(R++[c]))).set (P.length+(J.length+R.length+1+1)) v=P++a::b::(J++(R++[v])):=fun a b c v=>by rw[I4,←kR,←eR,Fc _ _ (dz _),rM];simp
  have UM:=fun(C:Call)(n0:Nat)(aK aa:aU)(t:List IV)(a b:bG) h1 h2 h3=>@QC L1 bs ck (kind,x) C D n0 D P.length ah aK aa t a b h1 h2 h3
  have kk:∀(p:Int×Int),([IV.int .i64 p.1,IV.int .i64 p.2]:List IV).all IV.scalar=true:=fun p=>rfl
  rw[rA,oW]at rz
  cases hc:L1.contains (kind,x)
  ·rw[hc,iS]at rz
   have evU:=fun(C:Call)(n0:Nat)(aK aa:aU)(t:List IV)(a b c:bG) h1 h2 h3 h4=>@ab8 L1 bs ck (kind,x) hc C D ah n0 P.length aK aa t a b c h1 h2 h3 h4
   simp only[hc]at UM
   simp only[V0,seval,af,h,za f.parts h,hrd,gN,sN,UM,evU,hw]
   exact bV _ (f.parts.l.length-(i+1)) Ω ⟨i+1,L1++[(kind,x)],bs++[ck],ck+1,_,Ω,Ω,by rw[hL1,kR,lH,hkx];rfl,rz,rfl,cD⟩
  ·rw[hc,iY]at rz
   simp only[hc]at UM
   simp only[V0,seval,af,h,za f.parts h,hrd,gN,sN,UM]
   refine dA _ ?_
   simp only[V0,seval]
   exact hK _ L1 bs ck _ true cD rz.symm (fun h=>by cases h)
 ·have rA:(dI f).drop i=[]:=by rw[List.drop_eq_nil_iff,hkey,ig];omega
  have adm:(dI f).take i=dI f:=gj (by rw[hkey,ig];omega)
  rw[rA,oW]at rz
  rw[adm]at hL1
  simp only[V0,seval,af,h]
  refine cS _ _ ?_
  simp only[V0,seval]
  exact hK _ L1 bs ck R false cD rz.symm fun _=>hL1
theorem Oe(hS:bN S){m D:Nat}{ah:bR}(f:Ft)(L:List (Int×Int))(P J:aU)(bs:List Nat)(ck:Nat)(hm:f.parts.l.length+10<=m):∃ L' bs' iO R,(∀ aK id,aM aR S (m+1) D ah aK (P++.map (Db L) (Fh L) bs ck::aI [.mapM D P.length]::J) id 55 [.agg f.c,.ptrM D (P.length+1) 0]=some (.x,.bool (oW L (dI f)),P++.map (Db L') (Fh L') bs' iO::aI [.mapM D P.length]::(J++R)))/\(oW L (dI f)=false->L'=L++dI f):=by
 have main:∃ v aX,(∀ id,aM aR S (m+1) D ah [] (P++.map (Db L) (Fh L) bs ck::aI [.mapM D P.length]::J) id 55 [.agg f.c,.ptrM D (P.length+1) 0]=some (.x,v,aX))/\(v=.bool (oW L (dI f))/\∃ L' bs' iO R,aX=P++.map (Db L') (Fh L') bs' iO::aI [.mapM D P.length]::(J++R)/\(oW L (dI f)=false->L'=L++dI f)):=by
  refine yU (i:=i55) (ns hS) rfl rfl (lb rfl) fun t af=>?_;simp only[V2,i55,Ft.c,zg]at af;suffices kY:∀ K:fP,(∀ t' L' bs' iO R b,aN 33 t' [(3,.bool b)]->b=oW L (dI f)->(b=false->L'=L++dI f)->K .ret ⟨t',P++.map (Db L') (Fh L') bs' iO::aI [.mapM D P.length]::(J++R)⟩)->Ex (aM aR S m) D ah m i55.body K ⟨t,P++.map (Db L) (Fh L) bs ck::aI [.mapM D P.length]::J⟩from kY _ fun t' L' bs' iO R b ht hb fG=>by simp only[zb,zc]at ht;simp only[i55,V0,seval,ht,yJ];exact⟨_,rfl,by rw[hb],L',bs',iO,R,rfl,fun h=>fG (hb.trans h)⟩
  intro K fin;have c0:=zby hS f.kind m Ω;simp only[zg]at c0;have g1:∀(a b c:aO)(r:aU),(P++a::b::(J++c::r))[P.length+(J.length+1+1)]?=some c:=fun a b c r=>AT (by rw[jd (dz _),rM];rfl);have s1:∀(a b c v:aO)(r:aU),(P++a::b::(J++c::r)).set (P.length+(J.length+1+1)) v=P++a::b::(J++v::r):=fun a b c v r=>by rw[I4,Fc _ _ (dz _),rM,SP]
  have hT:=fun K kind J j hkey hj t af hK=>@Od S hS m D ah K f kind L P J bs ck j hm hkey hj t af hK;rw[show i55.body=.seq (i55.body.sub [0]) (.seq (i55.body.sub [1,0]) (.seq (i55.body.sub [1,1,0]) (i55.body.sub [1,1,1])))from rfl];generalize i55.body.sub [1,1,1]=T at hT ⊢;cases h2:bF f.kind==2
  ·cases h3:bF f.kind==3
   ·have hkey:dI f=f.parts.l.map fun x=>(0,x):=by simp[dI,Je,h2,h3]
    simp only[i55,IC.sub,V0,seval,s1, *];refine hT _ 0 _ J.length hkey (by rw[jd (dz _),rM];rfl) _ cD fun t' L' bs' iO R b h1 h2 h3=>?_;rw[kR];exact fin _ _ _ _ _ _ h1 h2 h3
   ·have hkey:dI f=f.parts.l.map fun x=>(f.kind,x):=by simp[dI,Je,h2,h3]
    simp only[i55,IC.sub,V0,seval,s1, *];refine hT _ f.kind _ J.length hkey (by rw[jd (dz _),rM];rfl) _ cD fun t' L' bs' iO R b h1 h2 h3=>?_;rw[kR];exact fin _ _ _ _ _ _ h1 h2 h3
  ·have hkey:dI f=[]:=by simp[dI,h2]
   simp only[i55,IC.sub,V0,seval,af,c0,g1,s1,h2];exact fin _ L bs ck _ false cD (by rw[hkey];rfl) fun _=>by rw[hkey,iL]
 obtain⟨v,aX,h1,rfl,L',bs',iO,R,rfl,h2⟩:=main;exact⟨L',bs',iO,R,fun aK id=>(yO (ns hS) rfl rfl).trans (h1 0),h2⟩
end
theorem v8:∀(l:List Ft),∃ B,∀ f∈l,f.parts.l.length<=B
 |[]=>⟨0,fun _ h=>by simp at h⟩
 |x::l=>by
  obtain⟨B,hB⟩:=v8 l;refine⟨B+x.parts.l.length,fun f h=>?_⟩;rcases fF.1 h with rfl|h
  ·omega
  ·have:=hB f h;omega
def rg(r:IV×Int×Bool):List IV:=[r.1,aG aH r.2.1]
def mw(nm:ByteArray->Int)(s:Sv)(D:Nat):List (IV×Int×Bool) :=
 [(.fn 21 [] [],3,s.ft.l.any vq),(.fn 48 [] [.ptrM D 5 0,.ptrM D 4 0],10,ug s.ft.l),(.fn 23 [] [],2,s.ft.l.any vp),(.fn 24 [] [],9,s.ft.l.any qJ),(.fn 25 [] [],14,s.ft.l.any (vo nm)),(.fn 27 [] [],1,s.ft.l.any vn),(.fn 28 [] [.ptrM D 0 0],7,s.ft.l.any (uw s.pl)),(.fn 55 [] [.ptrM D 7 0],13,QT s.ft.l)]
def nv(l:List (IV×Int×Bool)):Int:=((l.find? fun r=>r.2.2).map fun r=>r.2.1).getD 0
theorem CD{r:IV×Int×Bool}{l:List (IV×Int×Bool)}:nv (r::l)=bif r.2.2 then r.2.1 else nv l:=by unfold nv;rw[Ca];cases r.2.2<;>rfl
theorem K4(nm:ByteArray->Int)(s:Sv)(D:Nat):(bif decide ((128:Int)<(s.ft.l.length:Int))then 3 else nv (mw nm s D))=sw nm s.pl s.ft.l:=by unfold mw sw;simp only[CD];rfl
def rC(nm:ByteArray->Int)(e:Int)(s:Sv):Int:=bif e != 0 then e else sw nm s.pl s.ft.l
def gE(s:Sv)(D:Nat)(x5 x6:aO):aU:=[aI s.c,.free,.free,.free,aI s.c,x5,x6,aI [.mapM D 6]]
theorem DZ{n d:Nat}{aa:aU}{cs:List IV}:bA (n+1) d aa (.agg cs)=(cs.mapM (bA n d aa)).map .agg:=dO rfl rfl
theorem aaq(n d:Nat)(aa:aU)(q:aS 2 Pt.c):bA (n+2) d aa q.v=some q.v:=zbt q fun a x hx=>by simp only[Pt.c,zg,fF,j4,k7]at hx;rcases hx with rfl|rfl<;>rfl
theorem aeb(n d:Nat)(aa:aU)(f:Ft):∀ x∈f.c,bA (n+2) d aa x=some x:=fun x hx=>by
 simp only[Ft.c,zg,fF,j4,k7]at hx;rcases hx with rfl|rfl|rfl|rfl|rfl
 ·rfl
 ·rfl
 ·rfl
 ·rfl
 ·exact zdx n d aa f.parts
theorem ac6(p:Pn)(d:Nat)(aa:aU):[p.ns.v,p.az.v,p.fs.v].mapM (bA 11 d aa)=some [p.ns.v,p.az.v,p.fs.v]:=by
 have h1:bA 11 d aa p.ns.v=some p.ns.v:=zbt p.ns fun a x hx=>by simp only[Nd.c,zg,fF,j4,k7]at hx;rcases hx with rfl|rfl|rfl<;>rfl
 have h2:bA 11 d aa p.az.v=some p.az.v:=zbt p.az fun a x hx=>by
  simp only[Ac.c,zg,fF,j4,k7]at hx;rcases hx with rfl|rfl|rfl|rfl|rfl|rfl
  ·rfl
  ·rfl
  ·rfl
  ·exact aaq 8 d aa a.via
  ·rfl
  ·rfl
 have h3:bA 11 d aa p.fs.v=some p.fs.v:=zdx 9 d aa p.fs;exact zS fun x hx=>by
  simp only[fF,j4,k7]at hx;rcases hx with rfl|rfl|rfl
  ·exact h1
  ·exact h2
  ·exact h3
theorem acg(s:Sv)(d:Nat)(aa:aU):[IV.agg s.c].mapM (bA 12 d aa)=some [.agg s.c]:=by
 have hp:=ac6 s.pl d aa;have h4:bA 11 d aa s.ft.v=some s.ft.v:=zbt s.ft fun a x hx=>aeb 8 d aa a x hx;have hall:s.c.mapM (bA 11 d aa)=some s.c:=by have e:s.c=[s.pl.ns.v,s.pl.az.v,s.pl.fs.v]++[s.ft.v]:=rfl;rw[e,zoc,hp,rO,h4];rfl
 refine zS fun x hx=>?_;rw[qx]at hx;rw[hx,DZ,hall];rfl
section
variable {S:cZ}
theorem FU(hS:bN S){nm:ByteArray->Int}(hN:MU S nm)(s:Sv)(hv:bQ s.pl):∃ M,∀ m,M<=m->∀(D:Nat)(ah:bR)(i:Nat)(r:IV×Int×Bool),(mw nm s D)[i]?=some r->∀(c:Int)(R:aU),(i<=1->c=0) ->
  ∃ x5 x6 R',(∀ aK id,aM aR S m D ah aK (gE s D (aI [aG aH c]) (.map [] [] [] 0)++R) id 31 [s.ft.v,r.1]=some (.x,.bool r.2.2,gE s D x5 x6++(R++R')))/\(i<=6->∃ c':Int,x5=aI [aG aH c']/\x6=.map [] [] [] 0/\(i=0->c'=0)):=by
 obtain⟨B,hB⟩:=v8 s.ft.l
 obtain⟨N7,hN7⟩:=Fe s.ft.l (fun f _=>aap hS s hv f)
 refine⟨N7+B+s.ft.l.length+60,fun m hm D ah i r hr c R hc=>?_⟩
 obtain⟨m,rfl⟩:=me m 2
 have pure:∀(q:Ft->Bool)(gf:FuncId)(caps:List IV)(x6:aO),(∀ x∈s.ft.l,∀ R id,aM aR S m D ah (gE s D (aI [aG aH c]) x6++R) (gE s D (aI [aG aH c]) x6++R) id gf (.agg x.c::caps)=some (.r,.bool (q x),gE s D (aI [aG aH c]) x6++R))->∃ R',∀ aK id,aM aR S (m+2) D ah aK (gE s D (aI [aG aH c]) x6++R) id 31 [s.ft.v,.fn gf [] caps]=some (.x,.bool (s.ft.l.any q),gE s D (aI [aG aH c]) x6++(R++R')):=fun q gf caps x6 h=>by obtain⟨R',h'⟩:=Mp (D:=D) (ah:=ah) (m:=m) hS s.ft q gf caps (gE s D (aI [aG aH c]) x6++R) Ω (fun x hx R2 id=>by rw[kR];exact h x hx _ id);exact⟨R',fun aK id=>by rw[h' aK id,kR]⟩
 match i,hr,hc with
 |0,hr,hc =>
  cases hr
  obtain⟨R',h⟩:=pure vq 21 [] (.map [] [] [] 0) fun x hx R id=>aer hS x m Ω D ah _ _ id
  exact⟨_,_,R',h,fun _=>⟨c,rfl,rfl,fun _=>hc Ω⟩⟩
 |1,hr,hc =>
  cases hr
  obtain rfl:=hc Ω
  obtain ⟨aX,h1,k,_,R',rfl⟩:=zfq (D:=D) (ah:=ah) (m:=m) hS s.ft (pG s.ft.l) 48 [.ptrM D 5 0,.ptrM D 4 0] (fun k J=>∃ R',J=gE s D (aI [aG aH (k:Nat)]) (.map [] [] [] 0)++(R++R')) (fun k J R2 ⟨R',h⟩=>⟨R'++R2,by rw [h]; simp⟩) Ω (fun k x J hx _ ⟨R',hJ⟩=>by
   subst hJ;obtain⟨m,rfl⟩:=me m 1;obtain⟨R2,h2⟩:=QX (D:=D) (ah:=ah) (m:=m) hS s k x hx (by have:=hB x (j5 hx);omega) [aI s.c,.free,.free,.free] ([.map [] [] [] 0,aI [.mapM D 6]]++(R++R'));exact ⟨_,_,fun id=>h2 _ id,R'++R2,by simp [gE,zg]⟩) (gE s D (aI [aG aH 0]) (.map [] [] [] 0)++R) ⟨[],Ψ⟩
  rw[Mh]at h1
  exact⟨_,_,R',h1,fun _=>⟨_,rfl,rfl,fun h=>absurd h Ω⟩⟩
 |2,hr,hc =>
  cases hr
  obtain⟨R',h⟩:=pure vp 23 [] (.map [] [] [] 0) fun x hx R id=>aep hS x m Ω D ah _ _ id
  exact⟨_,_,R',h,fun _=>⟨c,rfl,rfl,fun h=>absurd h Ω⟩⟩
 |3,hr,hc =>
  cases hr
  obtain⟨R',h⟩:=pure qJ 24 [] (.map [] [] [] 0) fun x hx R id=>aeo hS x m Ω D ah _ _ id
  exact⟨_,_,R',h,fun _=>⟨c,rfl,rfl,fun h=>absurd h Ω⟩⟩
 |4,hr,hc =>
  cases hr
  obtain⟨R',h⟩:=pure (vo nm) 25 [] (.map [] [] [] 0) fun x hx R id=>aen hS hN x m Ω D ah _ _ id
  exact⟨_,_,R',h,fun _=>⟨c,rfl,rfl,fun h=>absurd h Ω⟩⟩
 |5,hr,hc =>
  cases hr
  obtain⟨R',h⟩:=pure vn 27 [] (.map [] [] [] 0) fun x hx R id=>aem hS x m Ω D ah _ _ id
  exact⟨_,_,R',h,fun _=>⟨c,rfl,rfl,fun h=>absurd h Ω⟩⟩
 |6,hr,hc =>
  cases hr
  obtain⟨R',h⟩:=pure (uw s.pl) 28 [.ptrM D 0 0] (.map [] [] [] 0) fun x hx R id=>hN7 x hx m Ω D ah _ id _ rfl
  exact⟨_,_,R',h,fun _=>⟨c,rfl,rfl,fun h=>absurd h Ω⟩⟩
 |7,hr,hc =>
  cases hr
  obtain ⟨aX,h1,k,_,L,bs,ck,R',rfl,_⟩:=zfq (D:=D) (ah:=ah) (m:=m) hS s.ft (sH s.ft.l) 55 [.ptrM D 7 0] (fun k J=>∃ L bs ck R',J=gE s D (aI [aG aH c]) (.map (Db L) (Fh L) bs ck)++(R++R')/\(jq (sH s.ft.l) k=false->L=(s.ft.l.take k).flatMap dI)) (fun k J R2 ⟨L,bs,ck,R',h,h2⟩=>⟨L,bs,ck,R'++R2,by rw [h]; simp,h2⟩) Ω (fun k x J hx hk ⟨L,bs,ck,R',hJ,hL⟩=>by
   subst hJ;obtain rfl:=hL hk;obtain⟨m,rfl⟩:=me m 1;obtain⟨L',bs',iO,R2,h2,h3⟩:=Oe (D:=D) (ah:=ah) (m:=m) hS x ((s.ft.l.take k).flatMap dI) [aI s.c,.free,.free,.free,aI s.c,aI [aG aH c]] (R++R') bs ck (by have:=hB x (j5 hx);omega);have e:sH s.ft.l k=oW ((s.ft.l.take k).flatMap dI) (dI x):=by simp[sH,hx]
   rw[e];refine⟨_,_,fun id=>h2 _ id,L',bs',iO,R'++R2,by simp[gE],fun ha=>?_⟩;rw[zao,uQ,e]at ha;rw [h3 ha.2,zcl hx]) (gE s D (aI [aG aH c]) (.map [] [] [] 0)++R) ⟨[],[],0,[],by simp [Db,Fh],fun _=>by simp⟩
  rw[LR]at h1
  exact⟨_,_,R',h1,fun h=>absurd h Ω⟩
 |i+8,hr,hc=>simp[mw]at hr
theorem Bg(hS:bN S){nm:ByteArray->Int}(hN:MU S nm)(s:Sv)(hv:bQ s.pl){e:Int}{N0:Nat}(hR:aP S N0 20 [.agg s.pl.c] (aG aH e)):∃ N,aP S N 7 [.agg s.c] (aG aH (rC nm e s)):=by
 obtain⟨M,hM⟩:=FU hS hN s hv;refine⟨N0+M+30,wJ (i:=i7) (ns hS) rfl (by first|exact .inl rfl|exact .inr rfl) (lb rfl) (N0+M+29) Ω zn (fun _=>rfl) (fun d aa=>acg s d aa) fun m hm d ah t af=>?_⟩
 simp only[slotsOf,zb,zc,i7,Sv.c]at af;have c0:=hR m Ω;simp only[Pn.c]at c0;unfold rC;cases he:e != 0;rotate_left
 ·simp only[i7,V0,Xa,Xb,Xe,af,c0,he,bT]
 cases hl:decide ((128:Int)<(s.ft.l.length:Int));rotate_left
 ·have hr:sw nm s.pl s.ft.l=3:=by unfold sw;rw[hl];rfl
  simp only[i7,V0,Xa,Xb,Xe,af,c0,he,eZ,hl,hr,bL]
 have hr:sw nm s.pl s.ft.l=nv (mw nm s d):=by rw[←K4 nm s d,hl];rfl
 obtain⟨m1,rfl⟩:∃ q,m=q+1:=⟨m-1,Ω⟩;have c1:∀ aK id,aM aR S (m1+1) d ah aK [aI s.c,.free,.free,.free] id 22 [.agg s.c]=some (.x,.fn 48 [] [.ptrM d 5 0,.ptrM d 4 0],[aI s.c,.free,.free,.free,aI s.c,aI [aG aH 0]]):=fun aK id=>UT (D:=d) (ah:=ah) (m:=m1) hS Ω s [aI s.c,.free,.free,.free] aK id;have c2:∀ aK id,aM aR S (m1+1) d ah aK [aI s.c,.free,.free,.free,aI s.c,aI [aG aH 0]] id 30 []=some (.x,.fn 55 [] [.ptrM d 7 0],gE s d (aI [aG aH 0]) (.map [] [] [] 0)):=fun aK id=>Th (D:=d) (ah:=ah) (m:=m1) hS Ω [aI s.c,.free,.free,.free,aI s.c,aI [aG aH 0]] aK id;have cC:(mw nm s d).flatMap rg=[.fn 21 [] [],aG aH 3,.fn 48 [] [.ptrM d 5 0,.ptrM d 4 0],aG aH 10,.fn 23 [] [],aG aH 2,.fn 24 [] [],aG aH 9,.fn 25 [] [],aG aH 14,.fn 27 [] [],aG aH 1,.fn 28 [] [.ptrM d 0 0],aG aH 7,.fn 55 [] [.ptrM d 7 0],aG aH 13]:=rfl;have hlen:(mw nm s d).length=8:=rfl;have lR:=fun i r hr c R hc=>hM (m1+1) Ω d ah i r hr c R hc;simp only[Sv.c]at c1 c2;rw[hr];have cfn:∀ a b c,(IV.fn a b c).cells=[.fn a b c]:=fun a b c=>rfl;have agj:∀ a b:IV,rep [a,b] 8=[a,b,a,b,a,b,a,b,a,b,a,b,a,b,a,b]:=fun a b=>rfl;simp only[i7,V0,Xa,Xb,Xd,Xe,af,c0,he,eZ,hl,c1,c2,cfn,agj,bL];have hfn:∀ r∈mw nm s d,∃ g b c,r.1=.fn g b c:=by intro r hr;simp only[mw,fF,j4,k7]at hr;rcases hr with rfl|rfl|rfl|rfl|rfl|rfl|rfl|rfl<;>exact⟨_,_,_,rfl⟩
 generalize mw nm s d=rl at cC hlen lR hfn ⊢;refine ze (fun jj st=>∃(i:Nat)(O:aU),8-i<=jj/\i<=8/\(rl.take i).find? (fun r=>r.2.2)=none/\(i<=7->∃(c:Int)(R:aU),O=gE s d (aI [aG aH c]) (.map [] [] [] 0)++R/\(i<=1->c=0))/\st.aa=O/\aN 43 st.t [(1,.ptrM d 0 0),(29,.slC (rl.flatMap rg) 8 2 true),(30,iv (8:Nat)),(31,iv i)]) 8 Ω ⟨0,_,Ω,Ω,rfl,fun _=>⟨0,[],by rw[iL],fun _=>rfl⟩,rfl,by simp only[V0,Xa,Xe,af,cC,eU]⟩ ?_;clear af;rintro jj ⟨t,aa⟩ KA ⟨i,O,hjj,hi,Um,hO,ho,af⟩ bV cS dA;dsimp only at ho af;subst ho;simp only[V3]at af;by_cases h:i<8
 ·obtain⟨c,R,rfl,hc⟩:=hO Ω;have hx:rl[i]?=some (rl[i]'Ω):=cK Ω;generalize rl[i]'Ω=r at hx;have hrd:bM (rl.flatMap rg) (i*2) 2=some [r.1,aG aH r.2.1]:=(zd (g:=rg) (sz:=2) (fun _=>rfl) 0 2 hx Ω).trans rfl;have hw:=zq i;have h8:decide ((i:Int)<((8:Nat):Int))=true:=by rw[decide_eq_true_iff];omega
  obtain⟨g1,g2,g3,hfe⟩:=hfn r (j5 hx);obtain⟨x5,x6,R',h1,h2⟩:=lR i r hx c (R++[aI [r.1,aG aH r.2.1],.free]) hc;rw[hfe]at hrd h1;have hpl:∀(x5 x6:aO),(gE s d x5 x6).length=8:=fun x5 x6=>rfl;have gA:∀(x5 x6 a:aO)(l:aU),(gE s d x5 x6++(R++a::l))[8+R.length]?=some a:=fun x5 x6 a l=>by rw[jd (by simp[gE]),show 8+R.length-(gE s d x5 x6).length=R.length by simp[gE],zdt]
  have sA:∀(x5 x6 a v:aO)(l:aU),(gE s d x5 x6++(R++a::l)).set (8+R.length) v=gE s d x5 x6++(R++v::l):=fun x5 x6 a v l=>by rw[Fc _ _ (by simp[gE]),show 8+R.length-(gE s d x5 x6).length=R.length by simp[gE],zdu]
  have g00:∀(x5 x6:aO)(l:aU),(gE s d x5 x6++l)[0]?=some (aI [s.pl.ns.v,s.pl.az.v,s.pl.fs.v,s.ft.v]):=fun x5 x6 l=>rfl;simp only[gQ,gM,kR]at h1;cases hb:r.2.2
  ·rw[hb]at h1;simp only[V0,Xa,Xb,Xe,af,h,zA,hrd,hpl,gA,sA,g00,h1,hw];refine bV _ (8-(i+1)) (XE (Nat.sub_lt_sub_left h (zmt i)) hjj) ⟨i+1,_,dz _,h,yc Um hx hb,fun hi7=>?_,rfl,by simp only[V0,Xa,Xe,af]⟩;obtain⟨c',rfl,rfl,h0⟩:=h2 (Nat.le_of_succ_le_succ hi7);exact⟨c',_,rfl,fun hi1=>h0 (Nat.le_zero.1 (Nat.le_of_succ_le_succ hi1))⟩
  ·rw[hb]at h1;simp only[V0,Xa,Xb,Xe,af,h,zA,hrd,hpl,gA,sA,g00,h1];refine dA _ ?_;have Ws:nv rl=r.2.1:=by unfold nv;rw[yl Um hx hb];rfl
   simp only[V0,Xa,af,Ws]
 ·obtain rfl:i=8:=Ω;have hv0:nv rl=0:=by unfold nv;rw[gj Ω]at Um;rw[Um];rfl
  have h8:decide (((8:Nat):Int)<((8:Nat):Int))=false:=by decide
  simp only[V0,Xa,af];refine cS _ _ ?_;simp only[V0,Xa,af,hv0]
end
def mO{α:Type}(g:α->Nat)(l:List α):Nat:=(l.map g).sum
theorem Cm{α:Type}{g:α->Nat}{l:List α}{i:Nat}{x:α}(hx:l[i]?=some x):mO g (l.take (i+1))=mO g (l.take i)+g x:=by unfold mO;rw[lH,hx,rP,E6,List.sum_append];simp
theorem NR{α:Type}{g:α->Nat}(l:List α)(i:Nat):mO g (l.take i)<=mO g l:=by
 unfold mO;conv=>rhs;rw[←Fu i l,E6,List.sum_append]
 omega
theorem xR{α:Type}{g:α->Nat}:∀{l:List α}{x:α},x∈l->g x<=mO g l
 |y::l,x,h=>by
  have e:mO g (y::l)=g y+mO g l:=by simp[mO]
  rw[e];rcases fF.1 h with rfl|h
  ·omega
  ·have:=xR (g:=g) h;omega
theorem zcr{F:FuncId->Option jy}{S:cZ}{f:FuncId}{args:List IV}{v:IV}(h:S f args=some v):∀ m,1<=m->∀ d ah aK aa id,aM F S m d ah aK aa id f args=some (.r,v,aa):=fun m hm d ah aK aa id=>by obtain⟨m,rfl⟩:=me m 1;simp only[aM,h]
def jh(p:Pn):List Pt:=p.ns.l.map Nd.at'++p.az.l.flatMap fun a=>a.via.l
theorem RY{p:Pn}(hv:bQ p)(h1:p.ns.l.length<=1000)(h2:p.az.l.length<=1000)(i:Nat):(p.ns.l.map Nd.at'++(p.az.l.take i).flatMap fun a=>a.via.l).length<=100001000:=by
 have h3:((p.az.l.take i).flatMap fun a=>a.via.l).length<=(p.az.l.take i).length*100000:=Be fun a ha=>hv a (zly ha);have h4:(p.az.l.take i).length<=1000:=by rw[k8];omega
 rw[eR,ig];omega
theorem Hv{p:Pn}(hv:bQ p)(h1:p.ns.l.length<=1000)(h2:p.az.l.length<=1000):(jh p).length<9223372036854775808:=by have:=RY hv h1 h2 p.az.l.length;rw[E7]at this;unfold jh;omega
section
variable {S:cZ}
theorem Rv(hS:bN S)(p:Pn)(hv:bQ p)(h1:p.ns.l.length<=1000)(h2:p.az.l.length<=1000):aP S (p.ns.l.length+p.az.l.length+10) 125 [.agg p.c] (eX Pt.aZ (jh p) (Hv hv h1 h2)).v:=by
 refine sX i125 hS (p.ns.l.length+p.az.l.length+9) fun m hm d ah t af=>?_;simp only[slotsOf,zb,zc,i125,Pn.c]at af;simp only[i125,V0,seval,af];refine ze (fun jj st=>∃(i:Nat)(J:aU)(lv:IV),p.ns.l.length-i<=jj/\i<=p.ns.l.length/\cg Pt.c 2 d 1 J lv ((p.ns.l.take i).map Nd.at')/\st.aa=aI [p.ns.v,p.az.v,p.fs.v]::J/\aN 38 st.t [(1,.ptrM d 0 0),(3,lv),(4,iv i)]) p.ns.l.length Ω ⟨0,[],.nilsl,Ω,Ω,.inl ⟨Ψ,rfl⟩,rfl,by simp only[V0,seval,af,eU]⟩ ?_;clear af;rintro jj ⟨t,aa⟩ KA ⟨i,J,lv,hjj,hi,hO,ho,af⟩ bV cS dA;dsimp only at ho af;subst ho;simp only[V3]at af;by_cases h:i<p.ns.l.length
 ·obtain⟨x,hx⟩:=gx (l:=p.ns.l) (i:=i) h;have hrd:bM (p.ns.l.flatMap Nd.c) (i*3+1) 2=some [aG aH x.at'.x,aG aH x.at'.y]:=(zd Nd.aZ 1 2 hx Ω).trans rfl;have hw:=zq i;have au:((p.ns.l.take i).map Nd.at').length=i:=by rw[ig,k8,qu Ω]
  obtain⟨e,dR,J2,b9,dX⟩:=zM (Pre:=[aI [p.ns.v,p.az.v,p.fs.v]]) (n0:=J.length+1) (slot:=0) (k:=0) (ah:=ah) (R:=[.free]) Pt.aZ hO (ys:=[x.at']) Ψ (by simp only[au,cu,dw];omega) (by simp only[cu,dw];omega) rfl rfl;simp only[gQ,gM,fJ,lz,Pt.c,zg,cu,dw,iL,fO]at b9;rw[←map_take (f:=Nd.at') hx]at dX;have cel:∀(lk:Nat->Nat->Option aO)(tight:Bool),cB lk 2 (.slC [aG aH x.at'.x,aG aH x.at'.y] 1 2 tight)=some ([aG aH x.at'.x,aG aH x.at'.y],1):=fun lk tight=>rfl;have OE:∀ a b:IV,rep [a,b] 1=[a,b]:=fun a b=>rfl;simp only[V0,seval,za p.ns h,OE,zh,zk,zo, *];exact bV _ (p.ns.l.length-(i+1)) Ω ⟨i+1,J2,dR,Ω,Ω,dX,rfl,cD⟩
 ·simp only[V0,seval,af,h];refine cS _ _ ?_;simp only[V0,seval];have Fm:cg Pt.c 2 d 1 J lv (p.ns.l.map Nd.at'):=by rw[gj Ω]at hO;exact hO
  clear hO;refine ze (fun jj st=>∃(i:Nat)(J:aU)(lv:IV),p.az.l.length-i<=jj/\i<=p.az.l.length/\cg Pt.c 2 d 1 J lv (p.ns.l.map Nd.at'++(p.az.l.take i).flatMap fun a=>a.via.l)/\st.aa=aI [p.ns.v,p.az.v,p.fs.v]::J/\aN 38 st.t [(1,.ptrM d 0 0),(3,lv),(5,iv i)]) p.az.l.length Ω ⟨0,J,lv,Ω,Ω,by simpa using Fm,rfl,by simp only[V0,seval,af,eU]⟩ ?_;clear af bV cS dA;rintro jj ⟨t,aa⟩ KA ⟨i,J,lv,hjj,hi,hO,ho,af⟩ bV cS dA;dsimp only at ho af;subst ho;simp only[V3]at af;by_cases h:i<p.az.l.length
  ·have hx:p.az.l[i]?=some p.az.l[i]:=cK h;have Wr:=hv p.az.l[i] (gU h);generalize p.az.l[i]=x at hx Wr;have hrd:bM (p.az.l.flatMap Ac.c) (i*6+3) 1=some [x.via.v]:=(zd Ac.aZ 3 1 hx Ω).trans rfl;have hw:=zq i;have hle:=RY hv h1 h2 i;have hnext:(p.ns.l.map Nd.at'++(p.az.l.take (i+1)).flatMap fun a=>a.via.l)=(p.ns.l.map Nd.at'++(p.az.l.take i).flatMap fun a=>a.via.l)++x.via.l:=by rw[zcl hx,kR]
   have main:∃ e dR J2,bh d (J.length+1) (look d ah (aI [p.ns.v,p.az.v,p.fs.v]::(J++[.free]))) (aI [p.ns.v,p.az.v,p.fs.v]::(J++[.free])) 2 lv (x.via.l.flatMap Pt.c) x.via.l.length 0=some (e,dR,aI [p.ns.v,p.az.v,p.fs.v]::J2)/\cg Pt.c 2 d 1 J2 dR (p.ns.l.map Nd.at'++(p.az.l.take (i+1)).flatMap fun a=>a.via.l):=by
    rw[hnext];by_cases h0:x.via.l.length=0
    ·refine⟨.r,lv,J++[.free],?_,?_⟩
     ·unfold bh;rw[bt h0];rcases hO with⟨_,rfl⟩|⟨b,_,rfl,_⟩<;>rfl
     ·rw[sr.1 h0,iL];exact hO.more _
    ·exact zM (Pre:=[aI [p.ns.v,p.az.v,p.fs.v]]) (n0:=J.length+1) (slot:=0) (k:=0) (ah:=ah) (R:=[.free]) Pt.aZ hO (ys:=x.via.l) h0 Ω (by simp only [cu,dw]; omega) rfl (ot.2 fun y hy=>by
      obtain⟨z,_,hz⟩:=qS.1 hy;simp only[Pt.c,zg,fF,j4,k7]at hz;rcases hz with rfl | rfl <;> rfl)
   obtain⟨e,dR,J2,b9,dX⟩:=main;simp only[V0,seval,za p.az h,zh,zk,zo,zw, *];exact bV _ (p.az.l.length-(i+1)) Ω ⟨i+1,J2,dR,Ω,Ω,dX,rfl,cD⟩
  ·simp only[V0,seval,af,h];refine cS _ _ ?_;have dX:cg Pt.c 2 d 1 J lv (jh p):=by rw[gj Ω]at hO;exact hO
   have f1:=yK (Pre:=[aI [p.ns.v,p.az.v,p.fs.v]]) (m:=m) Pt.aZ ZD Ω (Hv hv h1 h2) dX;simp only[gQ,gM]at f1;simp only[V0,seval,af];exact⟨_,rfl,f1⟩
end
section
variable {S:cZ}
theorem agh(hS:bN S)(p:Pn)(hv:bQ p)(h1:p.ns.l.length<=1000)(h2:p.az.l.length<=1000){m d:Nat}{ah:bR}(hm:p.ns.l.length+p.az.l.length+(jh p).length+20<=m){K:fP}(t:List IV)(O:aU)(af:aN 47 t [(1,.ptrM d 0 0)])
  (hK:∀ t' O',aN 47 t' [(2,.bool (!(jh p).any fC))]->K .ret ⟨t',O'⟩) :
  Ex (aM aR S m) d ah m (i85.body.sub [1,1,1]) K ⟨t,aI [p.ns.v,p.az.v,p.fs.v]::O⟩:=by
 simp only[zb,zc]at af
 have c0:=fun aK aa i=>Rv hS p hv h1 h2 m Ω d ah aK aa i
 generalize hpq:eX Pt.aZ (jh p) (Hv hv h1 h2)=q at c0
 have pU:q.l=jh p:=by rw[←hpq,yg]
 rw[←pU]at hK hm
 have Ug:=q.gC
 have cv:∀(u:Pt) dd ah aK aa i,aM aR S m dd ah aK aa i 126 [.agg [aG aH u.x,aG aH u.y]]=some (.r,.bool (!fC u),aa):=fun u dd ah aK aa i=>RE hS u m Ω dd ah aK aa i
 simp only[Pn.c]at c0
 simp only[i85,IC.sub,V0,seval,af,c0]
 refine ze (fun jj st=>∃(i:Nat)(O:aU),q.l.length-i<=jj/\i<=q.l.length/\(q.l.take i).any fC=false/\st.aa=O/\aN 47 st.t [(5,q.v),(6,iv i)]) q.l.length Ω ⟨0,_,Ω,Ω,Ψ,rfl,by simp only[V0,seval,af,eU]⟩ ?_
 clear af
 rintro jj ⟨t,aa⟩ KA ⟨i,O,hjj,hi,ha,ho,af⟩ bV cS dA
 dsimp only at ho af
 subst ho
 simp only[V3]at af
 by_cases h:i<q.l.length
 ·obtain⟨x,hx⟩:=gx (l:=q.l) (i:=i) h
  have hrd:bM (q.l.flatMap Pt.c) (i*2) 2=some [aG aH x.x,aG aH x.y]:=(zd (sz:=2) (fun _=>rfl) 0 2 hx Ω).trans rfl
  have hw:=zq i
  cases hq:fC x
  ·simp only[V0,seval,af,h,za q h,hrd,cv,hq,hw]
   exact bV _ (q.l.length-(i+1)) Ω ⟨i+1,_,Ω,Ω,zF hx ha hq,rfl,by simp only[V0,seval,af]⟩
  ·simp only[V0,seval,af,h,za q h,hrd,cv,hq]
   refine dA _ ?_
   exact hK _ _ (by simp only[V0,seval,af,zZ hx hq])
 ·simp only[V0,seval,af,h]
  refine cS _ _ ?_
  simp only[V0,seval]
  have hh:q.l.any fC=false:=by rw[←gj (l:=q.l) (i:=i) Ω];exact ha
  exact hK _ _ (by simp only[V0,seval,af,hh])
theorem agi(hS:bN S)(p:Pn)(hv:bQ p)(h1:p.ns.l.length<=1000)(h2:p.az.l.length<=1000){m d:Nat}{ah:bR}(xs:List Int)(hxs:xs.length<=1073741824)(hm:p.ns.l.length+p.az.l.length+(jh p).length+xs.length+20<=m){K:fP}(t:List IV)(O:aU)(lv:IV)(hO:cg aL 1 d 1 O lv xs)(af:aN 47 t [(1,.ptrM d 0 0),(3,lv)])
  (hK:∀ t' O',aN 47 t' [(2,.bool (!xs.any iG&&!(jh p).any fC))]->K .ret ⟨t',O'⟩) :
  Ex (aM aR S m) d ah m (i85.body.sub [1,1]) K ⟨t,aI [p.ns.v,p.az.v,p.fs.v]::O⟩:=by
 simp only[zb,zc]at af
 have hR:=fun(K:fP) t O=>agh hS p hv h1 h2 (m:=m) (d:=d) (ah:=ah) Ω (K:=K) t O
 rw[show i85.body.sub [1,1]=.seq (i85.body.sub [1,1,0]) (i85.body.sub [1,1,1])from rfl]
 generalize i85.body.sub [1,1,1]=B at hR ⊢
 rcases hO with⟨rfl,rfl⟩|⟨b,hne,rfl,hb⟩
 ·simp only[i85,IC.sub,V0,seval]
  refine ze (fun jj st=>st.aa=aI [p.ns.v,p.az.v,p.fs.v]::O/\aN 47 st.t [(1,.ptrM d 0 0),(3,.nilsl),(4,aG aH 0)]) 0 Ω ⟨rfl,cD⟩ ?_
  clear af
  rintro jj ⟨t,aa⟩ KA ⟨ho,af⟩ bV cS dA
  dsimp only at ho af
  subst ho
  simp only[zb,zc]at af
  have h0:((0:Int)<0)=False:=eq_false Δ
  simp only[V0,seval,af,h0]
  refine cS _ _ ?_
  simp only[V0,seval]
  refine hR _ _ _ cD fun t' O' ht=>hK t' O' ?_
  simpa using ht
 ·have j8:(aO.cells [p.ns.v,p.az.v,p.fs.v]::O)[1+b]?=some (aI (xs.flatMap aL)):=by rw[qv,jP];exact hb
  simp only[i85,IC.sub,V0,seval]
  refine ze (fun jj st=>∃(i:Nat),xs.length-i<=jj/\i<=xs.length/\(xs.take i).any iG=false/\st.aa=aI [p.ns.v,p.az.v,p.fs.v]::O/\aN 47 st.t [(1,.ptrM d 0 0),(3,.slM d (1+b) 0 xs.length xs.length 1 false),(4,iv i)]) xs.length Ω ⟨0,Ω,Ω,Ψ,rfl,by simp only[V0,seval,af,eU]⟩ ?_
  clear af
  rintro jj ⟨t,aa⟩ KA ⟨i,hjj,hi,ha,ho,af⟩ bV cS dA
  dsimp only at ho af
  subst ho
  simp only[V3]at af
  by_cases h:i<xs.length
  ·obtain⟨x,hx⟩:=gx (l:=xs) (i:=i) h
   have hrd:bM (xs.flatMap aL) (i*1) 1=some [aG aH x]:=zd zf 0 1 hx Ω
   have afi:bM (xs.flatMap aL) (0+i*1) 1=some [aG aH x]:=by rw[fO];exact hrd
   have hw:=zq i
   cases q1:decide (x<1)
   ·cases q2:decide (1073741824<x)
    ·simp only[V0,seval,zm,eZ, *]
     exact bV _ (xs.length-(i+1)) Ω ⟨i+1,Ω,Ω,zF hx ha (by simp only[iG,q1,q2,Sr]),rfl,cD⟩
    ·have pe:xs.any iG=true:=zZ hx (by simp only[iG,q1,q2,iS])
     simp only[V0,seval,zm,eZ, *]
     refine dA _ ?_
     exact hK _ _ (by simp only[V0,seval,af,pe,ew])
   ·have pe:xs.any iG=true:=zZ hx (by simp only[iG,q1,iY])
    simp only[V0,seval,zm, *]
    refine dA _ ?_
    exact hK _ _ (by simp only[V0,seval,af,pe,ew])
  ·simp only[V0,seval,af,h]
   refine cS _ _ ?_
   simp only[V0,seval]
   have hh:xs.any iG=false:=by rw[←gj (l:=xs) (i:=i) Ω];exact ha
   rw[hh]at hK
   refine hR _ _ _ cD fun t' O' ht=>hK t' O' ?_
   simpa using ht
end
theorem Ye(xs:List Int):(xs.flatMap aL).all IV.scalar=true:=by rw[ot];intro x hx;obtain⟨a,_,h⟩:=qS.1 hx;simp only[aL,zg,fF,j4,k7]at h;rw[h];rfl
theorem Du(xs:List Int):seg (xs.flatMap aL) 0 (xs.length*1)=some (xs.flatMap aL):=by unfold seg;rw[zi,zl zf,bt Ω,BV,gj (by rw[zl zf];exact dz _)]
section
variable {S:cZ}
theorem zd1(hS:bN S)(p:Pn)(h1:p.ns.l.length<=1000000)(h2:p.az.l.length<=1000000)(jR:Bool)(h:iD p jR=[]){m d id:Nat}{ah:bR}{aK aa:aU}(hm:p.ns.l.length+p.az.l.length+10<=m)(hid:aa[id]?=some .free):aM aR S m d ah aK aa id 84 [.agg p.c,.bool jR]=some (.r,.nilsl,aa):=by
 obtain⟨r,hr,h3|h3⟩:=RL hS p h1 h2 jR (ah:=ah) (aK:=aK) (d:=d) hm hid
 ·rw[hr,h3.2]
 ·exact absurd h h3.1
theorem zd2(hS:bN S)(p:Pn)(h1:p.ns.l.length<=1000000)(h2:p.az.l.length<=1000000)(jR:Bool)(h:iD p jR≠[]){m d id:Nat}{ah:bR}{aK aa:aU}(hm:p.ns.l.length+p.az.l.length+10<=m)(hid:aa[id]?=some .free):aM aR S m d ah aK aa id 84 [.agg p.c,.bool jR]=some (.a,.slM d id 0 (iD p jR).length (iD p jR).length 1 false,aa.set id (aI ((iD p jR).flatMap aL))):=by
 obtain⟨r,hr,h3|h3⟩:=RL hS p h1 h2 jR (ah:=ah) (aK:=aK) (d:=d) hm hid
 ·exact absurd h3.1 h
 ·rw[hr,h3.2]
def FW(p:Pn):Bool:=!(iD p false++iD p true++p.fs.l).any iG&&!(jh p).any fC
theorem MG(hS:bN S)(p:Pn)(hv:bQ p)(h1:p.ns.l.length<=1000)(h2:p.az.l.length<=1000)(h3:p.fs.l.length<=1000):aP S (2*(p.ns.l.length+p.az.l.length)+p.fs.l.length+(jh p).length+30) 85 [.agg p.c] (.bool (FW p)):=by
 refine gv i85 hS (2*(p.ns.l.length+p.az.l.length)+p.fs.l.length+(jh p).length+29) zj fun m hm d ah t af=>?_;simp only[slotsOf,zb,zc,i85,Pn.c]at af;have hla:(iD p false).length=p.ns.l.length:=by simp[iD]
 have hlb:(iD p true).length=p.az.l.length:=by simp[iD]
 have hR:=fun(K:fP) t O lv=>agi hS p hv h1 h2 (m:=m) (d:=d) (ah:=ah) (iD p false++iD p true++p.fs.l) (by rw[eR,eR,hla,hlb];omega) (by rw[eR,eR,hla,hlb];omega) (K:=K) t O lv;rw[show i85.body=.seq (i85.body.sub [0]) (.seq (i85.body.sub [1,0]) (i85.body.sub [1,1]))from rfl];generalize i85.body.sub [1,1]=B at hR ⊢;unfold FW;have n0:=fun(h:iD p false=[]) aK aa (hid:aa[1]?=some .free)=>zd1 hS p Ω Ω false h (m:=m) (d:=d) (id:=1) (ah:=ah) (aK:=aK) (aa:=aa) Ω hid;have n1:=fun(h:iD p true=[]) aK aa (hid:aa[2]?=some .free)=>zd1 hS p Ω Ω true h (m:=m) (d:=d) (id:=2) (ah:=ah) (aK:=aK) (aa:=aa) Ω hid;have o0:=fun(h:iD p false≠[]) aK aa (hid:aa[1]?=some .free)=>zd2 hS p Ω Ω false h (m:=m) (d:=d) (id:=1) (ah:=ah) (aK:=aK) (aa:=aa) Ω hid;have o1:=fun(h:iD p true≠[]) aK aa (hid:aa[2]?=some .free)=>zd2 hS p Ω Ω true h (m:=m) (d:=d) (id:=2) (ah:=ah) (aK:=aK) (aa:=aa) Ω hid;generalize iD p false=A at *;generalize iD p true=Q at *;have sA:=Du A;have sQ:=Du Q;have fA:=zl zf (l:=A);have fQ:=zl zf (l:=Q);have fAQ:(A.flatMap aL++Q.flatMap aL).length=(A.length+Q.length)*1:=by rw[eR,fA,fQ,BU]
 have e5:[aO.cells [p.ns.v,p.az.v,p.fs.v],.free,.free,.free,.free][1]?=some .free:=rfl;simp only[Pn.c]at n0 n1 o0 o1;by_cases hA:A=[]
 ·skip;by_cases hQ:Q=[]
  ·skip;by_cases hC:p.fs.l=[]
   ·skip;have Gw:p.fs.l.length=0:=by rw[hC];rfl
    have c1:∀ aK,aM aR S m d ah aK [aI [p.ns.v,p.az.v,p.fs.v],.free,.free,.free,.free] 1 84 [.agg [p.ns.v,p.az.v,p.fs.v],.bool false]=some (.r,.nilsl,[aI [p.ns.v,p.az.v,p.fs.v],.free,.free,.free,.free]):=fun aK=>n0 hA aK _ rfl;have c2:∀ aK,aM aR S m d ah aK [aI [p.ns.v,p.az.v,p.fs.v],.free,.free,.free,.free] 2 84 [.agg [p.ns.v,p.az.v,p.fs.v],.bool true]=some (.r,.nilsl,[aI [p.ns.v,p.az.v,p.fs.v],.free,.free,.free,.free]):=fun aK=>n1 hQ aK _ rfl;have k1:∀ lk:Nat->Nat->Option aO,cB lk 1 .nilsl=some ([],0):=fun lk=>rfl;have ha1:∀(lk:Nat->Nat->Option aO) aa,bh d 1 lk aa 1 (.nilsl) [] 0 2=some (.r,.nilsl,aa):=fun lk aa=>rfl;have ha2:∀(lk:Nat->Nat->Option aO) aa,bh d 1 lk aa 1 (.nilsl) (p.fs.l.flatMap aL) p.fs.l.length 3=some (.r,.nilsl,aa):=fun lk aa=>by rw[Gw];rfl
    simp only[i85,IC.sub,V0,seval,af,c1,c2,k1,zh,zk,zo,zw,ha1,ha2];refine hR _ _ _ (.nilsl) (.inl ⟨by simp[hA,hQ,hC],rfl⟩) cD fun t' O' ht=>?_;simp only[zb,zc]at ht;simp only[V0,seval,ht]
   ·skip;have Gw:p.fs.l.length≠0:=fun h=>hC (Fv h);have c1:∀ aK,aM aR S m d ah aK [aI [p.ns.v,p.az.v,p.fs.v],.free,.free,.free,.free] 1 84 [.agg [p.ns.v,p.az.v,p.fs.v],.bool false]=some (.r,.nilsl,[aI [p.ns.v,p.az.v,p.fs.v],.free,.free,.free,.free]):=fun aK=>n0 hA aK _ rfl;have c2:∀ aK,aM aR S m d ah aK [aI [p.ns.v,p.az.v,p.fs.v],.free,.free,.free,.free] 2 84 [.agg [p.ns.v,p.az.v,p.fs.v],.bool true]=some (.r,.nilsl,[aI [p.ns.v,p.az.v,p.fs.v],.free,.free,.free,.free]):=fun aK=>n1 hQ aK _ rfl;have k1:∀ lk:Nat->Nat->Option aO,cB lk 1 .nilsl=some ([],0):=fun lk=>rfl;have ha1:∀(lk:Nat->Nat->Option aO) aa,bh d 1 lk aa 1 (.nilsl) [] 0 2=some (.r,.nilsl,aa):=fun lk aa=>rfl;have ha2:∀ lk:Nat->Nat->Option aO,bh d 1 lk [aI [p.ns.v,p.az.v,p.fs.v],.free,.free,.free,.free] 1 .nilsl (p.fs.l.flatMap aL) p.fs.l.length 3=some (.a,.slM d 4 0 p.fs.l.length p.fs.l.length 1 false,[aI [p.ns.v,p.az.v,p.fs.v],.free,.free,.free,aI (p.fs.l.flatMap aL)]):=fun lk=>by rw[yT Gw (by unfold bound;omega)];rfl
    simp only[i85,IC.sub,V0,seval,af,c1,c2,k1,zh,zk,zo,zw,ha1,ha2];refine hR _ _ _ (.slM d 4 0 p.fs.l.length p.fs.l.length 1 false) (.inr ⟨3,by simp[hA,hQ,hC],by simp[hA,hQ],by simp[hA,hQ]⟩) cD fun t' O' ht=>?_;simp only[zb,zc]at ht;simp only[V0,seval,ht]
  ·skip;have hq:Q.length≠0:=fun h=>hQ (Fv h);by_cases hC:p.fs.l=[]
   ·skip;have Gw:p.fs.l.length=0:=by rw[hC];rfl
    have c1:∀ aK,aM aR S m d ah aK [aI [p.ns.v,p.az.v,p.fs.v],.free,.free,.free,.free] 1 84 [.agg [p.ns.v,p.az.v,p.fs.v],.bool false]=some (.r,.nilsl,[aI [p.ns.v,p.az.v,p.fs.v],.free,.free,.free,.free]):=fun aK=>n0 hA aK _ rfl;have c2:∀ aK,aM aR S m d ah aK [aI [p.ns.v,p.az.v,p.fs.v],.free,.free,.free,.free] 2 84 [.agg [p.ns.v,p.az.v,p.fs.v],.bool true]=some (.a,.slM d 2 0 Q.length Q.length 1 false,[aI [p.ns.v,p.az.v,p.fs.v],.free,aI (Q.flatMap aL),.free,.free]):=fun aK=>o1 hQ aK _ rfl;have k1:cB (look d ah (b7 [0,1] 1 [aI [p.ns.v,p.az.v,p.fs.v],.free,aI (Q.flatMap aL),.free,.free])) 1 (.slM d 2 0 Q.length Q.length 1 false)=some (Q.flatMap aL,Q.length):=by
     have hl:look d ah (b7 [0,1] 1 [aI [p.ns.v,p.az.v,p.fs.v],.free,aI (Q.flatMap aL),.free,.free]) d 2=some (aI (Q.flatMap aL)):=by unfold look;rw[bt rfl,zp];rfl
     simp only[cB,hl,sQ,gH]
    have ha1:∀ lk:Nat->Nat->Option aO,bh d 1 lk [aI [p.ns.v,p.az.v,p.fs.v],.free,aI (Q.flatMap aL),.free,.free] 1 .nilsl (Q.flatMap aL) Q.length 2=some (.a,.slM d 3 0 Q.length Q.length 1 false,[aI [p.ns.v,p.az.v,p.fs.v],.free,aI (Q.flatMap aL),aI (Q.flatMap aL),.free]):=fun lk=>by rw[yT hq (by unfold bound;omega)];rfl
    have ha2:∀(lk:Nat->Nat->Option aO) aa,bh d 1 lk aa 1 (.slM d 3 0 Q.length Q.length 1 false) (p.fs.l.flatMap aL) p.fs.l.length 3=some (.r,.slM d 3 0 Q.length Q.length 1 false,aa):=fun lk aa=>by rw[Gw];rfl
    simp only[i85,IC.sub,V0,seval,af,c1,c2,k1,zh,zk,zo,zw,ha1,ha2];refine hR _ _ _ (.slM d 3 0 Q.length Q.length 1 false) (.inr ⟨2,by simp[hA,hQ,hC],by simp[hA,hC],by simp[hA,hC]⟩) cD fun t' O' ht=>?_;simp only[zb,zc]at ht;simp only[V0,seval,ht]
   ·skip;have Gw:p.fs.l.length≠0:=fun h=>hC (Fv h);have c1:∀ aK,aM aR S m d ah aK [aI [p.ns.v,p.az.v,p.fs.v],.free,.free,.free,.free] 1 84 [.agg [p.ns.v,p.az.v,p.fs.v],.bool false]=some (.r,.nilsl,[aI [p.ns.v,p.az.v,p.fs.v],.free,.free,.free,.free]):=fun aK=>n0 hA aK _ rfl;have c2:∀ aK,aM aR S m d ah aK [aI [p.ns.v,p.az.v,p.fs.v],.free,.free,.free,.free] 2 84 [.agg [p.ns.v,p.az.v,p.fs.v],.bool true]=some (.a,.slM d 2 0 Q.length Q.length 1 false,[aI [p.ns.v,p.az.v,p.fs.v],.free,aI (Q.flatMap aL),.free,.free]):=fun aK=>o1 hQ aK _ rfl;have k1:cB (look d ah (b7 [0,1] 1 [aI [p.ns.v,p.az.v,p.fs.v],.free,aI (Q.flatMap aL),.free,.free])) 1 (.slM d 2 0 Q.length Q.length 1 false)=some (Q.flatMap aL,Q.length):=by
     have hl:look d ah (b7 [0,1] 1 [aI [p.ns.v,p.az.v,p.fs.v],.free,aI (Q.flatMap aL),.free,.free]) d 2=some (aI (Q.flatMap aL)):=by unfold look;rw[bt rfl,zp];rfl
     simp only[cB,hl,sQ,gH]
    have ha1:∀ lk:Nat->Nat->Option aO,bh d 1 lk [aI [p.ns.v,p.az.v,p.fs.v],.free,aI (Q.flatMap aL),.free,.free] 1 .nilsl (Q.flatMap aL) Q.length 2=some (.a,.slM d 3 0 Q.length Q.length 1 false,[aI [p.ns.v,p.az.v,p.fs.v],.free,aI (Q.flatMap aL),aI (Q.flatMap aL),.free]):=fun lk=>by rw[yT hq (by unfold bound;omega)];rfl
    have ha2:bh d 1 (look d ah (b7 [0,1,2] 1 [aI [p.ns.v,p.az.v,p.fs.v],.free,aI (Q.flatMap aL),aI (Q.flatMap aL),.free])) [aI [p.ns.v,p.az.v,p.fs.v],.free,aI (Q.flatMap aL),aI (Q.flatMap aL),.free] 1 (.slM d 3 0 Q.length Q.length 1 false) (p.fs.l.flatMap aL) p.fs.l.length 3=some (.k 3 4,.slM d 4 0 (Q.length+p.fs.l.length) (Q.length+p.fs.l.length) 1 false,[aI [p.ns.v,p.az.v,p.fs.v],.free,aI (Q.flatMap aL),.gone,aI (Q.flatMap aL++p.fs.l.flatMap aL)]):=by rw[zY Gw Ω fQ (Ye _) (by unfold look;rw[bt rfl,zp];rfl)];rfl
    simp only[i85,IC.sub,V0,seval,af,c1,c2,k1,zh,zk,zo,zw,ha1,ha2];refine hR _ _ _ (.slM d 4 0 (Q.length+p.fs.l.length) (Q.length+p.fs.l.length) 1 false) (.inr ⟨3,by simp[hA,hQ,hC],by simp[hA],by simp[hA,B6]⟩) cD fun t' O' ht=>?_;simp only[zb,zc]at ht;simp only[V0,seval,ht]
 ·skip;by_cases hQ:Q=[]
  ·skip;by_cases hC:p.fs.l=[]
   ·skip;have Gw:p.fs.l.length=0:=by rw[hC];rfl
    have c1:∀ aK,aM aR S m d ah aK [aI [p.ns.v,p.az.v,p.fs.v],.free,.free,.free,.free] 1 84 [.agg [p.ns.v,p.az.v,p.fs.v],.bool false]=some (.a,.slM d 1 0 A.length A.length 1 false,[aI [p.ns.v,p.az.v,p.fs.v],aI (A.flatMap aL),.free,.free,.free]):=fun aK=>o0 hA aK _ rfl;have c2:∀ aK,aM aR S m d ah aK [aI [p.ns.v,p.az.v,p.fs.v],aI (A.flatMap aL),.free,.free,.free] 2 84 [.agg [p.ns.v,p.az.v,p.fs.v],.bool true]=some (.r,.nilsl,[aI [p.ns.v,p.az.v,p.fs.v],aI (A.flatMap aL),.free,.free,.free]):=fun aK=>n1 hQ aK _ rfl;have k1:∀ lk:Nat->Nat->Option aO,cB lk 1 .nilsl=some ([],0):=fun lk=>rfl;have ha1:∀(lk:Nat->Nat->Option aO) aa,bh d 1 lk aa 1 (.slM d 1 0 A.length A.length 1 false) [] 0 2=some (.r,.slM d 1 0 A.length A.length 1 false,aa):=fun lk aa=>rfl;have ha2:∀(lk:Nat->Nat->Option aO) aa,bh d 1 lk aa 1 (.slM d 1 0 A.length A.length 1 false) (p.fs.l.flatMap aL) p.fs.l.length 3=some (.r,.slM d 1 0 A.length A.length 1 false,aa):=fun lk aa=>by rw[Gw];rfl
    simp only[i85,IC.sub,V0,seval,af,c1,c2,k1,zh,zk,zo,zw,ha1,ha2];refine hR _ _ _ (.slM d 1 0 A.length A.length 1 false) (.inr ⟨0,by simp[hA,hQ,hC],by simp[hQ,hC],by simp[hQ,hC]⟩) cD fun t' O' ht=>?_;simp only[zb,zc]at ht;simp only[V0,seval,ht]
   ·skip;have Gw:p.fs.l.length≠0:=fun h=>hC (Fv h);have c1:∀ aK,aM aR S m d ah aK [aI [p.ns.v,p.az.v,p.fs.v],.free,.free,.free,.free] 1 84 [.agg [p.ns.v,p.az.v,p.fs.v],.bool false]=some (.a,.slM d 1 0 A.length A.length 1 false,[aI [p.ns.v,p.az.v,p.fs.v],aI (A.flatMap aL),.free,.free,.free]):=fun aK=>o0 hA aK _ rfl;have c2:∀ aK,aM aR S m d ah aK [aI [p.ns.v,p.az.v,p.fs.v],aI (A.flatMap aL),.free,.free,.free] 2 84 [.agg [p.ns.v,p.az.v,p.fs.v],.bool true]=some (.r,.nilsl,[aI [p.ns.v,p.az.v,p.fs.v],aI (A.flatMap aL),.free,.free,.free]):=fun aK=>n1 hQ aK _ rfl;have k1:∀ lk:Nat->Nat->Option aO,cB lk 1 .nilsl=some ([],0):=fun lk=>rfl;have ha1:∀(lk:Nat->Nat->Option aO) aa,bh d 1 lk aa 1 (.slM d 1 0 A.length A.length 1 false) [] 0 2=some (.r,.slM d 1 0 A.length A.length 1 false,aa):=fun lk aa=>rfl;have ha2:bh d 1 (look d ah (b7 [0,1,2] 1 [aI [p.ns.v,p.az.v,p.fs.v],aI (A.flatMap aL),.free,.free,.free])) [aI [p.ns.v,p.az.v,p.fs.v],aI (A.flatMap aL),.free,.free,.free] 1 (.slM d 1 0 A.length A.length 1 false) (p.fs.l.flatMap aL) p.fs.l.length 3=some (.k 1 4,.slM d 4 0 (A.length+p.fs.l.length) (A.length+p.fs.l.length) 1 false,[aI [p.ns.v,p.az.v,p.fs.v],.gone,.free,.free,aI (A.flatMap aL++p.fs.l.flatMap aL)]):=by rw[zY Gw Ω fA (Ye _) (by unfold look;rw[bt rfl,zp];rfl)];rfl
    simp only[i85,IC.sub,V0,seval,af,c1,c2,k1,zh,zk,zo,zw,ha1,ha2];refine hR _ _ _ (.slM d 4 0 (A.length+p.fs.l.length) (A.length+p.fs.l.length) 1 false) (.inr ⟨3,by simp[hA,hQ,hC],by simp[hQ],by simp[hQ,B6]⟩) cD fun t' O' ht=>?_;simp only[zb,zc]at ht;simp only[V0,seval,ht]
  ·skip;have hq:Q.length≠0:=fun h=>hQ (Fv h);by_cases hC:p.fs.l=[]
   ·skip;have Gw:p.fs.l.length=0:=by rw[hC];rfl
    have c1:∀ aK,aM aR S m d ah aK [aI [p.ns.v,p.az.v,p.fs.v],.free,.free,.free,.free] 1 84 [.agg [p.ns.v,p.az.v,p.fs.v],.bool false]=some (.a,.slM d 1 0 A.length A.length 1 false,[aI [p.ns.v,p.az.v,p.fs.v],aI (A.flatMap aL),.free,.free,.free]):=fun aK=>o0 hA aK _ rfl;have c2:∀ aK,aM aR S m d ah aK [aI [p.ns.v,p.az.v,p.fs.v],aI (A.flatMap aL),.free,.free,.free] 2 84 [.agg [p.ns.v,p.az.v,p.fs.v],.bool true]=some (.a,.slM d 2 0 Q.length Q.length 1 false,[aI [p.ns.v,p.az.v,p.fs.v],aI (A.flatMap aL),aI (Q.flatMap aL),.free,.free]):=fun aK=>o1 hQ aK _ rfl;have k1:cB (look d ah (b7 [0,1] 1 [aI [p.ns.v,p.az.v,p.fs.v],aI (A.flatMap aL),aI (Q.flatMap aL),.free,.free])) 1 (.slM d 2 0 Q.length Q.length 1 false)=some (Q.flatMap aL,Q.length):=by
     have hl:look d ah (b7 [0,1] 1 [aI [p.ns.v,p.az.v,p.fs.v],aI (A.flatMap aL),aI (Q.flatMap aL),.free,.free]) d 2=some (aI (Q.flatMap aL)):=by unfold look;rw[bt rfl,zp];rfl
     simp only[cB,hl,sQ,gH]
    have ha1:bh d 1 (look d ah (b7 [0,1] 1 [aI [p.ns.v,p.az.v,p.fs.v],aI (A.flatMap aL),aI (Q.flatMap aL),.free,.free])) [aI [p.ns.v,p.az.v,p.fs.v],aI (A.flatMap aL),aI (Q.flatMap aL),.free,.free] 1 (.slM d 1 0 A.length A.length 1 false) (Q.flatMap aL) Q.length 2=some (.k 1 3,.slM d 3 0 (A.length+Q.length) (A.length+Q.length) 1 false,[aI [p.ns.v,p.az.v,p.fs.v],.gone,aI (Q.flatMap aL),aI (A.flatMap aL++Q.flatMap aL),.free]):=by rw[zY hq Ω fA (Ye _) (by unfold look;rw[bt rfl,zp];rfl)];rfl
    have ha2:∀(lk:Nat->Nat->Option aO) aa,bh d 1 lk aa 1 (.slM d 3 0 (A.length+Q.length) (A.length+Q.length) 1 false) (p.fs.l.flatMap aL) p.fs.l.length 3=some (.r,.slM d 3 0 (A.length+Q.length) (A.length+Q.length) 1 false,aa):=fun lk aa=>by rw[Gw];rfl
    simp only[i85,IC.sub,V0,seval,af,c1,c2,k1,zh,zk,zo,zw,ha1,ha2];refine⟨by simp[comm] ,?_⟩;simp only[V0,seval];refine hR _ _ _ (.slM d 3 0 (A.length+Q.length) (A.length+Q.length) 1 false) (.inr ⟨2,by simp[hA,hQ,hC],by simp[hC],by simp[hC,B6]⟩) cD fun t' O' ht=>?_;simp only[zb,zc]at ht;simp only[V0,seval,ht]
   ·skip;have Gw:p.fs.l.length≠0:=fun h=>hC (Fv h);have c1:∀ aK,aM aR S m d ah aK [aI [p.ns.v,p.az.v,p.fs.v],.free,.free,.free,.free] 1 84 [.agg [p.ns.v,p.az.v,p.fs.v],.bool false]=some (.a,.slM d 1 0 A.length A.length 1 false,[aI [p.ns.v,p.az.v,p.fs.v],aI (A.flatMap aL),.free,.free,.free]):=fun aK=>o0 hA aK _ rfl;have c2:∀ aK,aM aR S m d ah aK [aI [p.ns.v,p.az.v,p.fs.v],aI (A.flatMap aL),.free,.free,.free] 2 84 [.agg [p.ns.v,p.az.v,p.fs.v],.bool true]=some (.a,.slM d 2 0 Q.length Q.length 1 false,[aI [p.ns.v,p.az.v,p.fs.v],aI (A.flatMap aL),aI (Q.flatMap aL),.free,.free]):=fun aK=>o1 hQ aK _ rfl;have k1:cB (look d ah (b7 [0,1] 1 [aI [p.ns.v,p.az.v,p.fs.v],aI (A.flatMap aL),aI (Q.flatMap aL),.free,.free])) 1 (.slM d 2 0 Q.length Q.length 1 false)=some (Q.flatMap aL,Q.length):=by
     have hl:look d ah (b7 [0,1] 1 [aI [p.ns.v,p.az.v,p.fs.v],aI (A.flatMap aL),aI (Q.flatMap aL),.free,.free]) d 2=some (aI (Q.flatMap aL)):=by unfold look;rw[bt rfl,zp];rfl
     simp only[cB,hl,sQ,gH]
    have ha1:bh d 1 (look d ah (b7 [0,1] 1 [aI [p.ns.v,p.az.v,p.fs.v],aI (A.flatMap aL),aI (Q.flatMap aL),.free,.free])) [aI [p.ns.v,p.az.v,p.fs.v],aI (A.flatMap aL),aI (Q.flatMap aL),.free,.free] 1 (.slM d 1 0 A.length A.length 1 false) (Q.flatMap aL) Q.length 2=some (.k 1 3,.slM d 3 0 (A.length+Q.length) (A.length+Q.length) 1 false,[aI [p.ns.v,p.az.v,p.fs.v],.gone,aI (Q.flatMap aL),aI (A.flatMap aL++Q.flatMap aL),.free]):=by rw[zY hq Ω fA (Ye _) (by unfold look;rw[bt rfl,zp];rfl)];rfl
    have ha2:bh d 1 (look d ah (b7 [0,1,2] 1 [aI [p.ns.v,p.az.v,p.fs.v],.gone,aI (Q.flatMap aL),aI (A.flatMap aL++Q.flatMap aL),.free])) [aI [p.ns.v,p.az.v,p.fs.v],.gone,aI (Q.flatMap aL),aI (A.flatMap aL++Q.flatMap aL),.free] 1 (.slM d 3 0 (A.length+Q.length) (A.length+Q.length) 1 false) (p.fs.l.flatMap aL) p.fs.l.length 3=some (.k 3 4,.slM d 4 0 ((A.length+Q.length)+p.fs.l.length) ((A.length+Q.length)+p.fs.l.length) 1 false,[aI [p.ns.v,p.az.v,p.fs.v],.gone,aI (Q.flatMap aL),.gone,aI ((A.flatMap aL++Q.flatMap aL)++p.fs.l.flatMap aL)]):=by rw[zY Gw Ω fAQ (Ye _) (by unfold look;rw[bt rfl,zp];rfl)];rfl
    simp only[i85,IC.sub,V0,seval,af,c1,c2,k1,zh,zk,zo,zw,ha1,ha2];refine⟨by simp[comm] ,?_⟩;simp only[V0,seval];refine hR _ _ _ (.slM d 4 0 ((A.length+Q.length)+p.fs.l.length) ((A.length+Q.length)+p.fs.l.length) 1 false) (.inr ⟨3,by simp[hA,hQ,hC],by simp[uO],by simp[B6]⟩) cD fun t' O' ht=>?_;simp only[zb,zc]at ht;simp only[V0,seval,ht]
end
def kI(ns:List Nd)(s t:Sp):Bool:=bif s.id==t.id then iR s t else iy ns s t
def kG(ns:List Nd)(l:List Rg):Bool:=!(l.zipIdx.any fun ti=>!eL ns ti.1.sp||(l.take ti.2).any fun s=>!kI ns s.sp ti.1.sp)
theorem aak{p:Pn}(hv:∀ a∈p.az.l,a.via.l.length<=1000){s:Rg}(h:s∈mz p):s.k<s.n/\s.n<=1000000:=by obtain⟨a,ha,hs⟩:=qS.1 h;unfold kE at hs;obtain⟨k,hk,rfl⟩:=jA.1 hs;have:=rN.1 hk;have:=zcq (p:=p) (hv a ha);dsimp only;omega
section
variable {S:cZ}
theorem MH(hS:bN S)(p:Pn)(hv:∀ a∈p.az.l,a.via.l.length<=1000)(ha:p.az.l.length<=1000):∃ N,aP S N 89 [.agg p.c] (.bool (kG p.ns.l (mz p))):=by
 obtain⟨N0,h0⟩:=Vu hS p hv ha;have hok:∀ s∈mz p,s.k<s.n/\s.n<=1000000:=fun s=>aak hv;have hlen:(mz p).length<=1001000:=by have:=zfp hv p.az.l.length;rw[E7]at this;unfold mz;omega
 have pU:=yg Rg.aZ (mz p) (zd0 hv ha);generalize eX Rg.aZ (mz p) (zd0 hv ha)=q at h0 pU;rw[←pU]at hok hlen ⊢;refine⟨N0+p.ns.l.length+2*q.l.length+60,gv i89 hS (N0+p.ns.l.length+2*q.l.length+59) zj fun m hm d ah t af=>?_⟩;simp only[slotsOf,zb,zc,i89,Pn.c]at af;have c0:=h0 m Ω;have Ug:=q.gC;have cl:∀ s:Rg,s∈q.l->∀ dd ah aK aa i,aM aR S m dd ah aK aa i 129 [.agg [p.ns.v,p.az.v,p.fs.v],.agg s.c]=some (.r,.bool (eL p.ns.l s.sp),aa):=fun s hs dd ah aK aa i=>RT hS p s (hok s hs) m Ω dd ah aK aa i;have cp:∀ s u:Rg,s∈q.l->u∈q.l->∀ dd ah aK aa i,aM aR S m dd ah aK aa i 130 [.agg s.c,.agg u.c]=some (.r,.bool (iR s.sp u.sp),aa):=fun s u hs hu dd ah aK aa i=>RR hS s u (hok s hs) (hok u hu) m Ω dd ah aK aa i;have cj:∀ s u:Rg,∀ dd ah aK aa i,aM aR S m dd ah aK aa i 131 [.agg [p.ns.v,p.az.v,p.fs.v],.agg s.c,.agg u.c]=some (.r,.bool (iy p.ns.l s.sp u.sp),aa):=fun s u dd ah aK aa i=>MJ hS p s u m Ω dd ah aK aa i;simp only[Pn.c]at c0;have jw:∀ y z:Int,(y != z)=!(y==z):=fun y z=>rfl;simp only[i89,V0,seval,af,c0];refine ze (fun jj st=>∃(i:Nat)(O:aU),q.l.length-i<=jj/\i<=q.l.length/\(q.l.zipIdx.take i).any (fun ti=>!eL p.ns.l ti.1.sp||(q.l.take ti.2).any fun s=>!kI p.ns.l s.sp ti.1.sp)=false/\st.aa=aI [p.ns.v,p.az.v,p.fs.v]::O/\aN 79 st.t [(1,.ptrM d 0 0),(3,q.v),(4,iv i)]) q.l.length Ω ⟨0,_,Ω,Ω,Ψ,rfl,by simp only[V0,seval,af,eU]⟩ ?_;clear af;rintro jj ⟨t,bO⟩ KA ⟨i,O,hjj,hi,ha2,ho,af⟩ bV cS dA;dsimp only at ho af;subst ho;simp only[V3]at af;by_cases h:i<q.l.length
 ·have hx:q.l[i]?=some q.l[i]:=cK h;have tS:q.l[i]∈q.l:=gU h;generalize q.l[i]=x at hx tS;have hxz:q.l.zipIdx[i]?=some (x,i):=by rw[znn,hx];simp
  have hrd:bM (q.l.flatMap Rg.c) (i*12) 12=some x.c:=(zd Rg.aZ 0 12 hx Ω).trans rfl;have Uf:bM (q.l.flatMap Rg.c) (i*12) 1=some [aG aH x.a.id]:=(zd Rg.aZ 0 1 hx Ω).trans rfl;have hw:=zq i;have cx:=cl x tS;have hmk:∀ s:Rg,mg true s.c=some (.agg s.c):=fun s=>rfl;cases hal:eL p.ns.l x.sp
  ·have pe:kG p.ns.l q.l=false:=by unfold kG;rw[zZ (q:=fun ti:Rg×Nat=>!eL p.ns.l ti.1.sp||(q.l.take ti.2).any fun s=>!kI p.ns.l s.sp ti.1.sp) hxz (by simp only[hal,BW,iY])];rfl
   simp only[V0,seval,af,h,za q h,hrd,hmk,cx,hal];refine dA _ ?_;simp only[V0,seval,af,pe]
  ·simp only[V0,seval,af,h,za q h,hrd,hmk,cx,hal];refine ze (fun jj st=>∃(k:Nat)(O:aU),i-k<=jj/\k<=i/\(q.l.take k).any (fun s=>!kI p.ns.l s.sp x.sp)=false/\st.aa=aI [p.ns.v,p.az.v,p.fs.v]::O/\aN 79 st.t [(1,.ptrM d 0 0),(3,q.v),(4,iv i),(5,iv k)]) i Ω ⟨0,_,Ω,Ω,Ψ,rfl,by simp only[V0,seval,af,eU]⟩ ?_;clear af;rintro jj2 ⟨t,bO⟩ KB ⟨k,O,hjk,hk,hb,ho,af⟩ jo lX mE;dsimp only at ho af;subst ho;simp only[V3]at af;by_cases h2:k<i
   ·have nP:k<q.l.length:=Ω;have hy:q.l[k]?=some q.l[k]:=cK nP;have hym:q.l[k]∈q.l:=gU nP;generalize q.l[k]=y at hy hym;have va:bM (q.l.flatMap Rg.c) (k*12) 12=some y.c:=(zd Rg.aZ 0 12 hy Ω).trans rfl;have Ud:bM (q.l.flatMap Rg.c) (k*12) 1=some [aG aH y.a.id]:=(zd Rg.aZ 0 1 hy Ω).trans rfl;have hwk:=zq k;have cpp:=cp y x hym tS;have cjj:=cj y x;have hit:kI p.ns.l y.sp x.sp=false->kG p.ns.l q.l=false:=fun hp=>by have h9:(q.l.take i).any (fun s=>!kI p.ns.l s.sp x.sp)=true:=zZ (q:=fun s:Rg=>!kI p.ns.l s.sp x.sp) (show(q.l.take i)[k]?=some y by rw[Fq,bt h2];exact hy) (by rw[hp];rfl);unfold kG;rw[zZ (q:=fun ti:Rg×Nat=>!eL p.ns.l ti.1.sp||(q.l.take ti.2).any fun s=>!kI p.ns.l s.sp ti.1.sp) hxz (by show(!eL p.ns.l x.sp||_)=true;rw[h9,Kq])];rfl
    have next:kI p.ns.l y.sp x.sp=true->(q.l.take (k+1)).any (fun s=>!kI p.ns.l s.sp x.sp)=false:=fun hp=>zF hy hb (by rw[hp];rfl)
    have Uh:kI p.ns.l y.sp x.sp=bif y.a.id==x.a.id then iR y.sp x.sp else iy p.ns.l y.sp x.sp:=rfl
    cases hid:y.a.id==x.a.id
    ·rw[hid,bL]at Uh;cases hj:iy p.ns.l y.sp x.sp
     ·simp only[V0,seval,af,h2,za q h,za q nP,hrd,va,Uf,Ud,hmk,jw,hid,cjj,hj];refine mE _ ?_;simp only[V0,seval];refine dA _ ?_;simp only[V0,seval,af,hit (Uh.trans hj)]
     ·simp only[V0,seval,af,h2,za q h,za q nP,hrd,va,Uf,Ud,hmk,jw,hid,cjj,hj,hwk];exact jo _ (i-(k+1)) Ω ⟨k+1,_,Ω,Ω,next (Uh.trans hj),rfl,cD⟩
    ·rw[hid,bT]at Uh;cases hj:iR y.sp x.sp
     ·simp only[V0,seval,af,h2,za q h,za q nP,hrd,va,Uf,Ud,hmk,hid,cpp,hj];refine mE _ ?_;simp only[V0,seval];refine dA _ ?_;simp only[V0,seval,af,hit (Uh.trans hj)]
     ·simp only[V0,seval,af,h2,za q h,za q nP,hrd,va,Uf,Ud,hmk,jw,hid,cpp,hj,hwk];exact jo _ (i-(k+1)) Ω ⟨k+1,_,Ω,Ω,next (Uh.trans hj),rfl,cD⟩
   ·simp only[V0,seval,af,h2];refine lX _ _ ?_;simp only[V0,seval,af,hw];have hki:k=i:=Ω;subst hki;exact bV _ (q.l.length-(k+1)) Ω ⟨k+1,_,Ω,Ω,zF hxz ha2 (by simp only[hal,hb,vA,Sr]),rfl,cD⟩
 ·have adx:kG p.ns.l q.l=true:=by unfold kG;rw[gj (by rw[zn2];omega)]at ha2;rw[ha2];rfl
  simp only[V0,seval,af,h];refine cS _ _ ?_;simp only[V0,seval,af,adx]
end
def jK(p:Pn)(a:Ac):Bool:=(dN p a.fr).isSome&&(dN p a.to).isSome
def eD(p:Pn)(n:Int):Bool:=qh p.fs.l n||n==0
def CO(p:Pn):Int:=bif p.az.l.any (fun a=>!jK p a)then 7 else bif p.az.l.any (fun a=>!eD p a.l||!eD p a.r)then 12 else bif kG p.ns.l (mz p)then 0 else 11
def Lc(p:Pn):Int:=bif !FW p then 2 else bif kP p.ns.l then 8 else CO p
def jf(p:Pn):Int:=bif mU p||nX p then 3 else bif !q8 p then 10 else Lc p
section
variable {S:cZ}
theorem LG{p:Pn}(h:mU p=false)(h2:nX p=false):p.ns.l.length<=256/\p.az.l.length<=256/\p.fs.l.length<=64/\∀ a∈p.az.l,a.via.l.length<=64:=by simp only[mU,uQ,vB]at h;refine⟨Ω,Ω,Ω,fun a ha=>?_⟩;have:=qT.1 h2 a ha;simp only[jk]at this;omega
theorem U3(hS:bN S)(p:Pn)(hl:p.ns.l.length<=256/\p.az.l.length<=256/\p.fs.l.length<=64/\∀ a∈p.az.l,a.via.l.length<=64):∃ N,∀{m d:Nat}{ah:bR},N<=m->∀{K:fP}(t:List IV)(O:aU),aN 79 t [(1,.ptrM d 0 0)] ->
  (∀ t' O',aN 79 t' [(2,aG aH (CO p))]->K .ret ⟨t',O'⟩) ->
  Ex (aM aR S m) d ah m (i57.body.sub [1,1,1,1,1]) K ⟨t,aI [p.ns.v,p.az.v,p.fs.v]::O⟩:=by
 obtain⟨l1,l2,l3,l4⟩:=hl
 obtain⟨N1,hP⟩:=MH hS p (fun a ha=>by have:=l4 a ha;omega) Ω
 have P5:∀ a∈p.az.l,∃ N,∀ m,N<=m->∃(v:IV),∀ d ah aK aa id,aM aR S m d ah aK aa id 87 [.agg p.c,.agg a.c]=some (.r,.tuple [v,.bool (jK p a)],aa):=fun a h=>by obtain⟨q',h1,N,h2⟩:=zan hS p a (by have:=l4 a h;omega);exact⟨N,fun m hm=>⟨q'.v,h2 m hm⟩⟩
 obtain⟨N2,Us⟩:=Fe p.az.l P5
 refine⟨N1+N2+800,fun{m d ah} hm {K} t O af hK=>?_⟩
 simp only[zb,zc]at af
 have Qf:=p.az.gC
 simp only[i57,IC.sub,V0,seval]
 refine ze (fun jj st=>∃(i:Nat)(O:aU),p.az.l.length-i<=jj/\i<=p.az.l.length/\(p.az.l.take i).any (fun a=>!jK p a)=false/\st.aa=aI [p.ns.v,p.az.v,p.fs.v]::O/\aN 79 st.t [(1,.ptrM d 0 0),(3,iv i)]) p.az.l.length Ω ⟨0,_,Ω,Ω,Ψ,rfl,by simp only[V0,seval,af,eU]⟩ ?_
 clear af
 rintro jj ⟨t,aa⟩ KA ⟨i,O,hjj,hi,ha,ho,af⟩ bV cS dA
 dsimp only at ho af
 subst ho
 simp only[V3]at af
 by_cases h:i<p.az.l.length
 ·have hx:p.az.l[i]?=some p.az.l[i]:=cK h
  obtain⟨lv,hlc⟩:=Us _ (gU h) m Ω
  generalize p.az.l[i]=x at hx hlc
  have hrd:bM (p.az.l.flatMap Ac.c) (i*6) 6=some [aG aH x.id,aG aH x.fr,aG aH x.to,x.via.v,aG aH x.l,aG aH x.r]:=(zd Ac.aZ 0 6 hx Ω).trans rfl
  have hw:=zq i
  simp only[Pn.c,Ac.c,zg]at hlc
  cases hq:jK p x
  ·simp only[V0,seval,za p.az h, *]
   refine dA _ ?_
   exact hK _ _ (by simp only[V0,seval,af,CO,zZ (q:=fun a=>!jK p a) hx (by simp only[hq,BW]),bT])
  ·simp only[V0,seval,za p.az h, *]
   exact bV _ (p.az.l.length-(i+1)) Ω ⟨i+1,_,Ω,Ω,zF hx ha (by simp only[hq,vA]),rfl,cD⟩
 ·have hn1:p.az.l.any (fun a=>!jK p a)=false:=by rw[←gj (l:=p.az.l) (i:=i) Ω];exact ha
  simp only[V0,seval,af,h]
  refine cS _ _ ?_
  simp only[V0,seval]
  refine ze (fun jj st=>∃(i:Nat)(O:aU),p.az.l.length-i<=jj/\i<=p.az.l.length/\(p.az.l.take i).any (fun a=>!eD p a.l||!eD p a.r)=false/\st.aa=aI [p.ns.v,p.az.v,p.fs.v]::O/\aN 79 st.t [(1,.ptrM d 0 0),(6,iv i)]) p.az.l.length Ω ⟨0,_,Ω,Ω,Ψ,rfl,by simp only[V0,seval,af,eU]⟩ ?_
  clear af ha bV cS dA O i hi hjj jj h
  rintro jj ⟨t,aa⟩ KA ⟨i,O,hjj,hi,ha,ho,af⟩ bV cS dA
  dsimp only at ho af
  subst ho
  simp only[V3]at af
  have cf:∀(z:Int) dd ah aK aa i,aM aR S m dd ah aK aa i 88 [.agg [p.ns.v,p.az.v,p.fs.v],aG aH z]=some (.r,.bool (eD p z),aa):=fun z dd ah aK aa i=>VB hS p z m Ω dd ah aK aa i
  by_cases h:i<p.az.l.length
  ·obtain⟨x,hx⟩:=gx (l:=p.az.l) (i:=i) h
   have hr4:bM (p.az.l.flatMap Ac.c) (i*6+4) 1=some [aG aH x.l]:=(zd Ac.aZ 4 1 hx Ω).trans rfl
   have hr5:bM (p.az.l.flatMap Ac.c) (i*6+5) 1=some [aG aH x.r]:=(zd Ac.aZ 5 1 hx Ω).trans rfl
   have hw:=zq i
   cases h1:eD p x.l
   ·simp only[V0,seval,za p.az h, *]
    refine dA _ ?_
    exact hK _ _ (by simp only[V0,seval,af,CO,hn1,zZ (q:=fun a=>!eD p a.l||!eD p a.r) hx (by simp only[h1,BW,iY]),bT,bL])
   ·cases h2:eD p x.r
    ·simp only[V0,seval,za p.az h, *]
     refine dA _ ?_
     exact hK _ _ (by simp only[V0,seval,af,CO,hn1,zZ (q:=fun a=>!eD p a.l||!eD p a.r) hx (by simp only[h2,BW,Kq]),bT,bL])
    ·simp only[V0,seval,za p.az h, *]
     exact bV _ (p.az.l.length-(i+1)) Ω ⟨i+1,_,Ω,Ω,zF hx ha (by simp only[h1,h2,vA,Sr]),rfl,cD⟩
  ·have hn2:p.az.l.any (fun a=>!eD p a.l||!eD p a.r)=false:=by rw[←gj (l:=p.az.l) (i:=i) Ω];exact ha
   have c9:=fun dd ah aK aa i=>hP m Ω dd ah aK aa i
   simp only[Pn.c]at c9
   simp only[V0,seval,af,h]
   refine cS _ _ ?_
   unfold CO at hK
   rw[hn1,hn2,bL,bL]at hK
   cases hp:kG p.ns.l (mz p)
   ·rw[hp]at hK
    simp only[V0,seval,af,c9,hp]
    exact hK _ _ (by simp only[V0,seval,af,bL])
   ·rw[hp]at hK
    simp only[V0,seval,af,c9,hp]
    exact hK _ _ (by simp only[V0,seval,af,bT])
theorem aek(hS:bN S)(p:Pn)(hl:p.ns.l.length<=256/\p.az.l.length<=256/\p.fs.l.length<=64/\∀ a∈p.az.l,a.via.l.length<=64):∃ N,∀{m d:Nat}{ah:bR},N<=m->∀{K:fP}(t:List IV)(O:aU),aN 79 t [(1,.ptrM d 0 0)] ->
  (∀ t' O',aN 79 t' [(2,aG aH (Lc p))]->K .ret ⟨t',O'⟩) ->
  Ex (aM aR S m) d ah m (i57.body.sub [1,1,1]) K ⟨t,aI [p.ns.v,p.az.v,p.fs.v]::O⟩:=by
 obtain⟨N3,h3⟩:=U3 hS p hl
 obtain⟨l1,l2,l3,l4⟩:=hl
 have hr:=MG hS p (fun a ha=>by have:=l4 a ha;omega) Ω Ω Ω
 have ht:=RF hS p
 refine⟨N3+2*(p.ns.l.length+p.az.l.length)+p.fs.l.length+(jh p).length+2*p.ns.l.length+60,fun{m d ah} hm {K} t O af hK=>?_⟩
 simp only[zb,zc]at af
 have c1:=fun dd ah aK aa i=>hr m Ω dd ah aK aa i
 have c2:=fun dd ah aK aa i=>ht m Ω dd ah aK aa i
 simp only[Pn.c]at c1 c2
 have h4:=fun(K:fP) t O=>@h3 m d ah Ω K t O
 rw[show i57.body.sub [1,1,1]=.seq (i57.body.sub [1,1,1,0]) (.seq (i57.body.sub [1,1,1,1,0]) (i57.body.sub [1,1,1,1,1]))from rfl]
 generalize i57.body.sub [1,1,1,1,1]=B at h4 ⊢
 unfold Lc at hK
 cases q1:FW p
 ·rw[q1]at hK
  simp only[i57,IC.sub,V0,seval,af,c1,q1]
  exact hK _ _ (by simp only[V0,seval,af,bT])
 ·rw[q1]at hK
  cases q2:kP p.ns.l
  ·rw[q2]at hK
   simp only[i57,IC.sub,V0,seval, *]
   exact h4 _ _ _ cD fun t' O' ht'=>hK t' O' ht'
  ·rw[q2]at hK
   simp only[i57,IC.sub,V0,seval, *]
   exact hK _ _ (by simp only[V0,seval,af,bT,bL])
end
section
variable {S:cZ}
theorem zap(hS:bN S)(p:Pn):∃ N,aP S N 57 [.agg p.c] (aG aH (jf p)):=by
 by_cases hlim:(mU p||nX p)=true
 ·refine⟨p.az.l.length+8,gv i57 hS (p.az.l.length+7) zn fun m hm d ah t af=>?_⟩;simp only[slotsOf,zb,zc,i57,Pn.c]at af;have c0:=fun dd ah aK aa i=>xA hS p m Ω dd ah aK aa i;simp only[Pn.c,hlim]at c0;simp only[i57,V0,seval,af,c0,jf,hlim,bT]
 ·have hlim:(mU p||nX p)=false:=by simpa using hlim
  have hl:mU p=false/\nX p=false:=by simpa[uQ]using hlim
  have wC:=LG hl.1 hl.2;obtain⟨N2,h2⟩:=aek hS p wC;obtain⟨l1,l2,l3,l4⟩:=wC;refine⟨N2+2000,gv i57 hS (N2+1999) zn fun m hm d ah t af=>?_⟩;simp only[slotsOf,zb,zc,i57,Pn.c]at af;have c0:=fun dd ah aK aa i=>xA hS p m Ω dd ah aK aa i;simp only[Pn.c,hlim]at c0;have hla:(iD p false).length=p.ns.l.length:=by simp[iD]
  have hlb:(iD p true).length=p.az.l.length:=by simp[iD]
  have hR:=fun(K:fP) t O=>@h2 m d ah Ω K t O;have DI:q8 p=(dP (iD p false)&&(dP (iD p true)&&dP p.fs.l)):=rfl;have hval:jf p=bif !q8 p then 10 else Lc p:=by simp only[jf,hlim,bL]
  rw[hval,DI];rw[show i57.body=.seq (i57.body.sub [0]) (.seq (i57.body.sub [1,0]) (.seq (i57.body.sub [1,1,0]) (i57.body.sub [1,1,1])))from rfl];generalize i57.body.sub [1,1,1]=B at hR ⊢;have n0:=fun(h:iD p false=[]) aK aa (hid:aa[2]?=some .free)=>zd1 hS p Ω Ω false h (m:=m) (d:=d) (id:=2) (ah:=ah) (aK:=aK) (aa:=aa) Ω hid;have n1:=fun(h:iD p true=[]) aK aa (hid:aa[4]?=some .free)=>zd1 hS p Ω Ω true h (m:=m) (d:=d) (id:=4) (ah:=ah) (aK:=aK) (aa:=aa) Ω hid;have o0:=fun(h:iD p false≠[]) aK aa (hid:aa[2]?=some .free)=>zd2 hS p Ω Ω false h (m:=m) (d:=d) (id:=2) (ah:=ah) (aK:=aK) (aa:=aa) Ω hid;have o1:=fun(h:iD p true≠[]) aK aa (hid:aa[4]?=some .free)=>zd2 hS p Ω Ω true h (m:=m) (d:=d) (id:=4) (ah:=ah) (aK:=aK) (aa:=aa) Ω hid;generalize iD p false=A at *;generalize iD p true=Q at *;have f0:∀ dd ah aK aa i,aM aR S m dd ah aK aa i 83 [p.fs.v]=some (.r,.bool (dP p.fs.l),aa):=fun dd ah aK aa i=>Hp hS p.fs m Ω dd ah aK aa i;have az:∀ dd ah aK aa i,aM aR S m dd ah aK aa i 83 [.nilsl]=some (.r,.bool true,aa):=fun dd ah aK aa i=>Vp hS Ω;have aA:∀ aK aa i,aK[2]?=some (aI (A.flatMap aL))->aM aR S m d ah aK aa i 83 [.slM d 2 0 A.length A.length 1 false]=some (.r,.bool (dP A),aa):=fun aK aa i h=>J4 hS Ω Ω h;have aQ:∀ aK aa i,aK[4]?=some (aI (Q.flatMap aL))->aM aR S m d ah aK aa i 83 [.slM d 4 0 Q.length Q.length 1 false]=some (.r,.bool (dP Q),aa):=fun aK aa i h=>J4 hS Ω Ω h;simp only[Pn.c]at n0 n1 o0 o1 hR;by_cases hA:A=[]
  ·skip;by_cases hQ:Q=[]
   ·skip;have c1:∀ aK,aM aR S m d ah aK [aI [p.ns.v,p.az.v,p.fs.v],.free,.free,.free,.free,.free,.free] 2 84 [.agg [p.ns.v,p.az.v,p.fs.v],.bool false]=some (.r,.nilsl,[aI [p.ns.v,p.az.v,p.fs.v],.free,.free,.free,.free,.free,.free]):=fun aK=>n0 hA aK _ rfl;have a1:dP A=true:=by rw[hA];rfl
    have c2:∀ aK,aM aR S m d ah aK [aI [p.ns.v,p.az.v,p.fs.v],.free,.free,.free,.free,.free,.free] 4 84 [.agg [p.ns.v,p.az.v,p.fs.v],.bool true]=some (.r,.nilsl,[aI [p.ns.v,p.az.v,p.fs.v],.free,.free,.free,.free,.free,.free]):=fun aK=>n1 hQ aK _ rfl;have a2:dP Q=true:=by rw[hQ];rfl
    cases hx:dP p.fs.l
    ·skip;simp only[i57,IC.sub,V0,seval,af,c0,c1,c2,a1,a2,az,f0,hx,l8,bT]
    ·skip;simp only[i57,IC.sub,V0,seval,af,c0,c1,c2,a1,a2,az,f0,hx,bL];refine hR _ _ _ cD fun t' O' ht=>?_;simp only[zb,zc]at ht;simp only[V0,seval,ht]
   ·skip;have c1:∀ aK,aM aR S m d ah aK [aI [p.ns.v,p.az.v,p.fs.v],.free,.free,.free,.free,.free,.free] 2 84 [.agg [p.ns.v,p.az.v,p.fs.v],.bool false]=some (.r,.nilsl,[aI [p.ns.v,p.az.v,p.fs.v],.free,.free,.free,.free,.free,.free]):=fun aK=>n0 hA aK _ rfl;have a1:dP A=true:=by rw[hA];rfl
    have c2:∀ aK,aM aR S m d ah aK [aI [p.ns.v,p.az.v,p.fs.v],.free,.free,.free,.free,.free,.free] 4 84 [.agg [p.ns.v,p.az.v,p.fs.v],.bool true]=some (.a,.slM d 4 0 Q.length Q.length 1 false,[aI [p.ns.v,p.az.v,p.fs.v],.free,.free,.free,aI (Q.flatMap aL),.free,.free]):=fun aK=>o1 hQ aK _ rfl;have a2:∀ aa i,aM aR S m d ah [aI [p.ns.v,p.az.v,p.fs.v],.free,.free,.free,aI (Q.flatMap aL),.free,.free] aa i 83 [.slM d 4 0 Q.length Q.length 1 false]=some (.r,.bool (dP Q),aa):=fun aa i=>aQ _ aa i rfl;cases hw:dP Q
    ·skip;simp only[i57,IC.sub,V0,seval,af,c0,c1,c2,a1,a2,az,hw,ew,l8,bT]
    ·skip;cases hx:dP p.fs.l
     ·skip;simp only[i57,IC.sub,V0,seval,af,c0,c1,c2,a1,a2,az,f0,hw,hx,l8,bT]
     ·skip;simp only[i57,IC.sub,V0,seval,af,c0,c1,c2,a1,a2,az,f0,hw,hx,bL];refine hR _ _ _ cD fun t' O' ht=>?_;simp only[zb,zc]at ht;simp only[V0,seval,ht]
  ·skip;by_cases hQ:Q=[]
   ·skip;have c1:∀ aK,aM aR S m d ah aK [aI [p.ns.v,p.az.v,p.fs.v],.free,.free,.free,.free,.free,.free] 2 84 [.agg [p.ns.v,p.az.v,p.fs.v],.bool false]=some (.a,.slM d 2 0 A.length A.length 1 false,[aI [p.ns.v,p.az.v,p.fs.v],.free,aI (A.flatMap aL),.free,.free,.free,.free]):=fun aK=>o0 hA aK _ rfl;have a1:∀ aa i,aM aR S m d ah [aI [p.ns.v,p.az.v,p.fs.v],.free,aI (A.flatMap aL),.free,.free,.free,.free] aa i 83 [.slM d 2 0 A.length A.length 1 false]=some (.r,.bool (dP A),aa):=fun aa i=>aA _ aa i rfl;have c2:∀ aK,aM aR S m d ah aK [aI [p.ns.v,p.az.v,p.fs.v],.free,aI (A.flatMap aL),.free,.free,.free,.free] 4 84 [.agg [p.ns.v,p.az.v,p.fs.v],.bool true]=some (.r,.nilsl,[aI [p.ns.v,p.az.v,p.fs.v],.free,aI (A.flatMap aL),.free,.free,.free,.free]):=fun aK=>n1 hQ aK _ rfl;have a2:dP Q=true:=by rw[hQ];rfl
    cases hu:dP A
    ·skip;simp only[i57,IC.sub,V0,seval,af,c0,c1,a1,a2,hu,ew,bT]
    ·skip;cases hx:dP p.fs.l
     ·skip;simp only[i57,IC.sub,V0,seval,af,c0,c1,c2,a1,a2,az,f0,hu,hx,l8,bT]
     ·skip;simp only[i57,IC.sub,V0,seval,af,c0,c1,c2,a1,a2,az,f0,hu,hx,bL];refine hR _ _ _ cD fun t' O' ht=>?_;simp only[zb,zc]at ht;simp only[V0,seval,ht]
   ·skip;have c1:∀ aK,aM aR S m d ah aK [aI [p.ns.v,p.az.v,p.fs.v],.free,.free,.free,.free,.free,.free] 2 84 [.agg [p.ns.v,p.az.v,p.fs.v],.bool false]=some (.a,.slM d 2 0 A.length A.length 1 false,[aI [p.ns.v,p.az.v,p.fs.v],.free,aI (A.flatMap aL),.free,.free,.free,.free]):=fun aK=>o0 hA aK _ rfl;have a1:∀ aa i,aM aR S m d ah [aI [p.ns.v,p.az.v,p.fs.v],.free,aI (A.flatMap aL),.free,.free,.free,.free] aa i 83 [.slM d 2 0 A.length A.length 1 false]=some (.r,.bool (dP A),aa):=fun aa i=>aA _ aa i rfl;have c2:∀ aK,aM aR S m d ah aK [aI [p.ns.v,p.az.v,p.fs.v],.free,aI (A.flatMap aL),.free,.free,.free,.free] 4 84 [.agg [p.ns.v,p.az.v,p.fs.v],.bool true]=some (.a,.slM d 4 0 Q.length Q.length 1 false,[aI [p.ns.v,p.az.v,p.fs.v],.free,aI (A.flatMap aL),.free,aI (Q.flatMap aL),.free,.free]):=fun aK=>o1 hQ aK _ rfl;have a2:∀ aa i,aM aR S m d ah [aI [p.ns.v,p.az.v,p.fs.v],.free,aI (A.flatMap aL),.free,aI (Q.flatMap aL),.free,.free] aa i 83 [.slM d 4 0 Q.length Q.length 1 false]=some (.r,.bool (dP Q),aa):=fun aa i=>aQ _ aa i rfl;cases hu:dP A
    ·skip;simp only[i57,IC.sub,V0,seval,af,c0,c1,a1,hu,ew,bT]
    ·skip;cases hw:dP Q
     ·skip;simp only[i57,IC.sub,V0,seval,af,c0,c1,c2,a1,a2,hu,hw,ew,l8,bT]
     ·skip;cases hx:dP p.fs.l
      ·skip;simp only[i57,IC.sub,V0,seval,af,c0,c1,c2,a1,a2,f0,hu,hw,hx,l8,bT]
      ·skip;simp only[i57,IC.sub,V0,seval,af,c0,c1,c2,a1,a2,f0,hu,hw,hx,bL];refine hR _ _ _ cD fun t' O' ht=>?_;simp only[zb,zc]at ht;simp only[V0,seval,ht]
end
theorem zcs{u v B:Int}(h1:-B<=u)(h2:u<=B)(h3:-B<=v)(h4:v<=B):-(B*B)<=u*v/\u*v<=B*B:=by have a1:=Fa (show 0<=B-u by omega) (show 0<=B+v by omega);have a2:=Fa (show 0<=B+u by omega) (show 0<=B-v by omega);have a3:=Fa (show 0<=B-u by omega) (show 0<=B-v by omega);have a4:=Fa (show 0<=B+u by omega) (show 0<=B+v by omega);constructor<;>grind
theorem Zx(x y:Int):x<y∨y<=x:=Ω
theorem zK{x:Int}(h1:-9223372036854775808<=x)(h2:x<9223372036854775808):aT .i64 x=x:=by rw[zT];exact IntWalk.i64_in _ (by constructor<;>omega)
theorem Yf{p:Pt}:bl p=true↔(-2097152<=p.x/\p.x<=2097152)/\(-2097152<=p.y/\p.y<=2097152):=by simp only[bl,tB,uQ,vB,Int.not_lt];omega
def cr(a b c d:Pt):Int:=(b.x-a.x)*(d.y-c.y)-(b.y-a.y)*(d.x-c.x)
def dot(a b c d:Pt):Int:=(b.x-a.x)*(d.x-c.x)+(b.y-a.y)*(d.y-c.y)
section
variable {a b c d p:Pt}
theorem zB(ha:bl a=true)(hb:bl b=true)(hc:bl c=true)(hd:bl d=true):pI a b c d=cr a b c d:=by rw[Yf]at ha hb hc hd;unfold pI cr;rw[zK (x:=b.x-a.x) Ω Ω,zK (x:=d.y-c.y) Ω Ω,zK (x:=b.y-a.y) Ω Ω,zK (x:=d.x-c.x) Ω Ω];have h1:=zcs (B:=4194304) (u:=b.x-a.x) (v:=d.y-c.y) Ω Ω Ω Ω;have h2:=zcs (B:=4194304) (u:=b.y-a.y) (v:=d.x-c.x) Ω Ω Ω Ω;generalize(b.x-a.x)*(d.y-c.y)=s at *;generalize(b.y-a.y)*(d.x-c.x)=t at *;rw[zK (x:=s) Ω Ω,zK (x:=t) Ω Ω,zK Ω Ω]
theorem YB(ha:bl a=true)(hb:bl b=true)(hc:bl c=true)(hd:bl d=true):-35184372088832<=cr a b c d/\cr a b c d<=35184372088832:=by rw[Yf]at ha hb hc hd;unfold cr;have h1:=zcs (B:=4194304) (u:=b.x-a.x) (v:=d.y-c.y) Ω Ω Ω Ω;have h2:=zcs (B:=4194304) (u:=b.y-a.y) (v:=d.x-c.x) Ω Ω Ω Ω;generalize(b.x-a.x)*(d.y-c.y)=s at *;generalize(b.y-a.y)*(d.x-c.x)=t at *;omega
theorem Br(ha:bl a=true)(hb:bl b=true)(hc:bl c=true)(hd:bl d=true):Mg a b c d=dot a b c d:=by rw[Yf]at ha hb hc hd;unfold Mg dot;rw[zK (x:=b.x-a.x) Ω Ω,zK (x:=d.x-c.x) Ω Ω,zK (x:=b.y-a.y) Ω Ω,zK (x:=d.y-c.y) Ω Ω];have h1:=zcs (B:=4194304) (u:=b.x-a.x) (v:=d.x-c.x) Ω Ω Ω Ω;have h2:=zcs (B:=4194304) (u:=b.y-a.y) (v:=d.y-c.y) Ω Ω Ω Ω;generalize(b.x-a.x)*(d.x-c.x)=s at *;generalize(b.y-a.y)*(d.y-c.y)=t at *;rw[zK (x:=s) Ω Ω,zK (x:=t) Ω Ω,zK Ω Ω]
theorem XT(ha:bl a=true)(hb:bl b=true)(hc:bl c=true):KH a b c=cr a b a c:=by rw[←zB ha hb ha hc];rfl
theorem ZY:eO a b=true↔a=b:=by cases a;cases b;simp[eO]
theorem Dj{u v z:Int}:sC u v<=z↔u<=z∨v<=z:=by unfold sC;split<;>omega
theorem Dp{u v z:Int}:z<=s9 u v↔z<=u∨z<=v:=by unfold s9;split<;>omega
theorem af1{u v z:Int}:(u<=z∨v<=z)/\(z<=u∨z<=v)↔(z-u)*(z-v)<=0:=by
 constructor
 ·rintro⟨h1,h2⟩;rcases zok u z with h|h<;>rcases zok v z with g|g
  ·rcases h2 with h2|h2
   ·rw[show z-u=0 by omega,M4];omega
   ·rw[show z-v=0 by omega,VJ];omega
  ·exact NG Ω Ω
  ·exact VQ Ω Ω
  ·rcases h1 with h1|h1
   ·rw[show z-u=0 by omega,M4];omega
   ·rw[show z-v=0 by omega,VJ];omega
 ·intro h;constructor
  ·rcases Zx z u with g|g
   ·rcases Zx z v with k|k
    ·have:=SS (show z-u<0 by omega) (show z-v<0 by omega);omega
    ·exact .inr k
   ·exact .inl g
  ·rcases Zx u z with g|g
   ·rcases Zx v z with k|k
    ·have:=Ko (show 0<z-u by omega) (show 0<z-v by omega);omega
    ·exact .inr k
   ·exact .inl g
theorem AL(ha:bl a=true)(hb:bl b=true)(hp:bl p=true):mZ a b p=qP a b p:=by
 unfold mZ qP;rw[XT ha hb hp,zB ha hb ha hp,Br ha hp hb hp];have hall:[a,b,p].all bl=true:=by simp[ha,hb,hp]
 rw[hall,pX,pX];cases h0:cr a b a p==0
 ·simp
 ·have h0:cr a b a p=0:=by simpa using h0
  rw[pX,pX,nU];simp only[gJ,jk,Dj,Dp];have e:dot a p b p=(p.x-a.x)*(p.x-b.x)+(p.y-a.y)*(p.y-b.y):=rfl;rw[e];have hx:=@af1 a.x b.x p.x;have hy:=@af1 a.y b.y p.y;unfold cr at h0;constructor
  ·rintro⟨h1,h2,h3,h4⟩;have:=hx.1 ⟨h1,h2⟩;have:=hy.1 ⟨h3,h4⟩;omega
  ·intro h;generalize hX:p.x-a.x=X at *;generalize hX2:p.x-b.x=X2 at *;generalize hY:p.y-a.y=Y at *;generalize hY2:p.y-b.y=Y2 at *;have hc:X2*Y=Y2*X:=by have e1:b.x-a.x=X-X2:=Ω;have e2:b.y-a.y=Y-Y2:=Ω;rw[e1,e2]at h0;grind
   have sq:(X*X2)*(Y*Y2)=(X2*Y)*(X2*Y):=by
    have:(X*X2)*(Y*Y2)=(X2*Y)*(Y2*X):=by grind
    rw[this,←hc]
   have hsq:0<=(X2*Y)*(X2*Y):=by
    rcases zok 0 (X2*Y)with h|h
    ·exact Fa h h
    ·exact zm6 h h
   generalize X*X2=s at *;generalize Y*Y2=w at *;have hs:s<=0:=by
    rcases Zx 0 s with g|g
    ·have:=zlr g (show w<0 by omega);omega
    ·exact g
   have hw:w<=0:=by
    rcases Zx 0 w with g|g
    ·have:=zlq (show s<0 by omega) g;omega
    ·exact g
   have a1:=hx.2 hs;have a2:=hy.2 hw;exact⟨a1.1,a1.2,a2.1,a2.2⟩
theorem zd3(ha:bl a=true)(hb:bl b=true)(hc:bl c=true):fB a b c=if 0<cr a b a c then 1 else if cr a b a c<0 then -1 else 0:=by
 have hall:[a,b,c].all bl=true:=by simp[ha,hb,hc]
 unfold fB X1;rw[hall,bT,XT ha hb hc];split
 ·rw[decide_eq_true ‹_›,bT]
 ·rw[decide_eq_false ‹_›,bL];split
  ·rw[decide_eq_true ‹_›,bT]
  ·rw[decide_eq_false ‹_›,bL]
def Ff(x:Int):Int:=if 0<x then 1 else if x<0 then -1 else 0
theorem Ti{x y:Int}:aT .i64 (Ff x*Ff y)<=0↔(x<=0/\0<=y)∨(0<=x/\y<=0):=by
 have hb:-1<=Ff x*Ff y/\Ff x*Ff y<=1:=by unfold Ff;split<;>split<;>(try split)<;>(try split)<;>omega
 rw[zK Ω Ω];unfold Ff;split<;>split<;>(try split)<;>(try split)<;>omega
theorem LF(ha:bl a=true)(hb:bl b=true)(hc:bl c=true)(hd:bl d=true)(aq:eO a b=false)(hcd:eO c d=false):wk a b c d=dH a b c d:=by
 have hall:[a,b,c,d].all bl=true:=by simp[ha,hb,hc,hd]
 unfold wk dH tO;rw[hall,bT,bT,aq,bL,hcd,bL,ew,bL];simp only[zB ha hb hc hd,zB ha hb ha hc,zB ha hb ha hd,zB hc hd hc ha,zB hc hd hc hb,zB ha hc hc hd,zB ha hc ha hb];have e1:fB a b c=Ff (cr a b a c):=zd3 ha hb hc;have e2:fB a b d=Ff (cr a b a d):=zd3 ha hb hd;have e3:fB c d a=Ff (cr c d c a):=zd3 hc hd ha;have e4:fB c d b=Ff (cr c d c b):=zd3 hc hd hb;rw[e1,e2,e3,e4];have n1:cr a b a d=cr a b a c+cr a b c d:=by unfold cr;grind
 have n2:cr c d c b=cr c d c a-cr a b c d:=by unfold cr;grind
 have n3:cr a c c d=cr c d c a:=by unfold cr;grind
 have n4:cr a c a b=- cr a b a c:=by unfold cr;grind
 have z1:=YB ha hb hc hd;have z2:=YB ha hb ha hc;have z3:=YB hc hd hc ha;have hs0:∀ x:Int,(Ff x==0)=(x==0):=fun x=>by
  unfold Ff;split
  ·simp;omega
  ·split
   ·simp;omega
   ·have:x=0:=Ω;subst this;rfl
 have Qb:cr a b c d=0->cr a b a c=0->cr c d c a=0:=fun h1 h2=>by
  have hne:¬ (b.x-a.x=0/\b.y-a.y=0):=by
   intro h;have:a=b:=by cases a;cases b;simp only[Pt.mk.injEq]at *;constructor<;>omega
   rw[ZY.2 this]at aq;cases aq
  unfold cr at *;generalize b.x-a.x=e at *;generalize b.y-a.y=f at *;have k1:e*((d.x-c.x)*(a.y-c.y)-(d.y-c.y)*(a.x-c.x))=0:=by grind
  have k2:f*((d.x-c.x)*(a.y-c.y)-(d.y-c.y)*(a.x-c.x))=0:=by grind
  rcases zmg.1 k1 with h|h
  ·rcases zmg.1 k2 with g|g
   ·exact absurd ⟨h,g⟩ hne
   ·exact g
  ·exact h
 rw[hs0,hs0,n3,n4,n2,n1];generalize cr a b c d=n at *;generalize cr a b a c=u at *;generalize cr c d c a=s at *;clear e1 e2 e3 e4 n1 n2 n3 n4;have hsg:∀ x y:Int,decide (aT .i64 (Ff x*Ff y)<=0)=decide ((x<=0/\0<=y)∨(0<=x/\y<=0)):=fun x y=>decide_eq_decide.2 Ti;rw[hsg,hsg];by_cases h0:n=0
 ·subst h0;rw[show((0:Int)==0)=true from rfl,bT];by_cases hu:u=0
  ·subst hu;have:=Qb rfl rfl;subst this;simp
  ·rw[show(u==0)=false by simpa using hu,ew,bL];have q1:decide ((u<=0/\0<=u+0)∨(0<=u/\u+0<=0))=false:=by rw[vB];omega
   have q2:(u != 0)=true:=by simpa using hu
   rw[q1,q2,ew,iY,bL,bT]
 ·rw[show(n==0)=false by simpa using h0,bL];have q0:((u==0)&&(u+n==0))=false:=by
   cases hz:u==0
   ·rfl
   ·have:u=0:=by simpa using hz
    subst this;rw[pX];simp;omega
  rw[q0,bL];unfold u6;by_cases hn:n<0
  ·rw[decide_eq_true hn,bT,zK (x:=0-n) Ω Ω,zK (x:=0-s) Ω Ω,zK (x:=0 - -u) Ω Ω];congr 1;rw[nU];simp only[gJ,jk];omega
  ·rw[decide_eq_false hn,bL];congr 1;rw[nU];simp only[gJ,jk];omega
end
section
variable {a b c d:Pt}
theorem zd4{u v:Pt}(h:jN u v=true):jN v u=false:=by simp only[jN,nu,gJ,jk,n9]at h;simp only[jN,uQ,VN,vB,beq_eq_false_iff_ne];omega
theorem Xj{u v:Pt}(h:jN u v=false)(h2:jN v u=false):u=v:=by cases u;cases v;simp only[jN,uQ,VN,vB,beq_eq_false_iff_ne]at h h2;simp only[Pt.mk.injEq];omega
theorem Cs:dQ a b c d=dQ c d a b:=by
 unfold dQ;have e1:(bif jN (je a b).1 (je c d).1 then(je c d).1 else(je a b).1)=(bif jN (je c d).1 (je a b).1 then(je a b).1 else(je c d).1):=by
  cases h:jN (je a b).1 (je c d).1<;>cases h2:jN (je c d).1 (je a b).1
  ·exact Xj h h2
  ·rfl
  ·rfl
  ·rw[zd4 h]at h2;cases h2
 have e2:(bif jN (je c d).2 (je a b).2 then(je c d).2 else(je a b).2)=(bif jN (je a b).2 (je c d).2 then(je a b).2 else(je c d).2):=by
  cases h:jN (je c d).2 (je a b).2<;>cases h2:jN (je a b).2 (je c d).2
  ·exact Xj h2 h
  ·rfl
  ·rfl
  ·rw[zd4 h]at h2;cases h2
 rw[e1,e2]
theorem meet_comm(ha:bl a=true)(hb:bl b=true)(hc:bl c=true)(hd:bl d=true)(aq:eO a b=false)(hcd:eO c d=false):dH a b c d=dH c d a b:=by
 have h1:[a,b,c,d].all bl=true:=by simp[ha,hb,hc,hd]
 have h2:[c,d,a,b].all bl=true:=by simp[ha,hb,hc,hd]
 unfold dH tO;rw[h1,h2,bT,bT,aq,hcd,ew,bL,ew,bL];simp only[zB ha hb hc hd,zB ha hb ha hc,zB ha hb ha hd,zB hc hd hc ha,zB hc hd hc hb,zB ha hc hc hd,zB ha hc ha hb,zB hc hd ha hb,zB hc ha ha hb,zB hc ha hc hd];have n1:cr c d a b=- cr a b c d:=by unfold cr;grind
 have n2:cr c a a b=- cr a c a b:=by unfold cr;grind
 have n3:cr c a c d=- cr a c c d:=by unfold cr;grind
 have z1:=YB ha hb hc hd;have z2:=YB ha hc ha hb;have z3:=YB ha hc hc hd;rw[n1,n2,n3,Cs];generalize cr a b c d=n at *;generalize cr a c a b=t at *;generalize cr a c c d=s at *;have Jl:((cr a b a c != 0)||((cr a b a d != 0)||((cr c d c a != 0)||(cr c d c b != 0))))=((cr c d c a != 0)||((cr c d c b != 0)||((cr a b a c != 0)||(cr a b a d != 0)))):=by cases(cr a b a c != 0)<;>cases(cr a b a d != 0)<;>cases(cr c d c a != 0)<;>cases(cr c d c b != 0)<;>rfl
 rw[Jl];have e0:(-n==0)=(n==0):=by rw[nU];simp only[n9];omega
 rw[e0];cases hn0:n==0
 ·have hn0:n≠0:=by simpa using hn0
  rw[bL,bL];rw[zK (x:=0-n) Ω Ω,zK (x:=0-t) Ω Ω,zK (x:=0-s) Ω Ω,zK (x:=0 - -n) Ω Ω,zK (x:=0 - -t) Ω Ω,zK (x:=0 - -s) Ω Ω];unfold u6;by_cases hn:n<0
  ·rw[decide_eq_true hn,decide_eq_false (show ¬ -n<0 by omega),bT,bL];congr 1;rw[nU];simp only[gJ,jk];omega
  ·rw[decide_eq_false hn,decide_eq_true (show -n<0 by omega),bT,bL];congr 1;rw[nU];simp only[gJ,jk];omega
 ·rfl
theorem Gc(ha:bl a=true)(hb:bl b=true)(hc:bl c=true)(hd:bl d=true)(aq:eO a b=false)(hcd:eO c d=false)(h:s9 a.x b.x<sC c.x d.x):dH a b c d=0:=by
 have x1:a.x<=s9 a.x b.x:=Dp.2 (.inl (Fp _));have x2:b.x<=s9 a.x b.x:=Dp.2 (.inr (Fp _));have x3:sC c.x d.x<=c.x:=Dj.2 (.inl (Fp _));have x4:sC c.x d.x<=d.x:=Dj.2 (.inr (Fp _));generalize s9 a.x b.x=M at *;generalize sC c.x d.x=m at *;have h1:[a,b,c,d].all bl=true:=by simp[ha,hb,hc,hd]
 unfold dH tO;rw[h1,bT,aq,ew,bL];simp only[zB ha hb hc hd,zB ha hb ha hc,zB ha hb ha hd,zB hc hd hc ha,zB hc hd hc hb,zB ha hc hc hd,zB ha hc ha hb];have z1:=YB ha hb hc hd;have z2:=YB ha hc ha hb;have z3:=YB ha hc hc hd;have id:cr a b c d*a.x+cr a c c d*(b.x-a.x)=cr a b c d*c.x+cr a c a b*(d.x-c.x):=by unfold cr;grind
 cases hn0:cr a b c d==0
 ·have hn0:cr a b c d≠0:=by simpa using hn0
  rw[bL];generalize cr a b c d=n at *;generalize cr a c a b=t at *;generalize cr a c c d=s at *;have key:∀ n s t:Int,0<n->0<=s->s<=n->0<=t->t<=n->n*a.x+s*(b.x-a.x)=n*c.x+t*(d.x-c.x)->False:=fun n s t hn hs1 hs2 ht1 ht2 e=>by have p1:=Fa (show 0<=n-s by omega) (show 0<=M-a.x by omega);have p2:=Fa hs1 (show 0<=M-b.x by omega);have p3:=Fa (show 0<=n-t by omega) (show 0<=c.x-m by omega);have p4:=Fa ht1 (show 0<=d.x-m by omega);have p5:=Ko hn (show 0<m-M by omega);grind
  unfold u6;rw[zK (x:=0-n) Ω Ω,zK (x:=0-t) Ω Ω,zK (x:=0-s) Ω Ω];by_cases hn:n<0
  ·rw[decide_eq_true hn,bT];have:(decide (0<=0-s)&&(decide (0-s<=0-n)&&(decide (0<=0-t)&&decide (0-t<=0-n))))=false:=by rw[←sZ];simp only[gJ,jk];rintro⟨g1,g2,g3,g4⟩;refine key (0-n) (0-s) (0-t) Ω g1 g2 g3 g4 ?_;rw[Su,Su,Su,Su];omega
   rw[this,bL]
  ·rw[decide_eq_false hn,bL];have:(decide (0<=s)&&(decide (s<=n)&&(decide (0<=t)&&decide (t<=n))))=false:=by rw[←sZ];simp only[gJ,jk];rintro⟨g1,g2,g3,g4⟩;exact key n s t Ω g1 g2 g3 g4 id
   rw[this,bL]
 ·rw[bT];have hsh:dQ a b c d=0:=by
   unfold dQ;have sx:∀ u v:Pt,u.x<=M->v.x<=M->(je u v).1.x<=M/\(je u v).2.x<=M:=fun u v h1 h2=>by
    unfold je;cases jN v u
    ·exact⟨h1,h2⟩
    ·exact⟨h2,h1⟩
   have sy:∀ u v:Pt,m<=u.x->m<=v.x->m<=(je u v).1.x/\m<=(je u v).2.x:=fun u v h1 h2=>by
    unfold je;cases jN v u
    ·exact⟨h1,h2⟩
    ·exact⟨h2,h1⟩
   have s1:=sx a b x1 x2;have s2:=sy c d x3 x4;generalize je a b=p at *;generalize je c d=q at *;have e1:jN p.1 q.1=true:=by simp only[jN,nu,jk];left;omega
   have e2:jN q.2 p.2=false:=zd4 (by simp only[jN,nu,jk];left;omega);have e3:eO q.1 p.2=false:=by simp only[eO,VN,beq_eq_false_iff_ne];left;omega
   have e4:jN q.1 p.2=false:=zd4 (by simp only[jN,nu,jk];left;omega);simp only[e1,e2,e3,e4,bT,bL]
  rw[hsh];cases(cr a b a c != 0||(cr a b a d != 0||(cr c d c a != 0||cr c d c b != 0))) <;> rfl
end
theorem Zf{α:Type}{f:α->Int}:∀{l:List α}{x:α},(l.map f).Pairwise (·<·)->x∈l->l.find? (fun y=>f y==f x)=some x
 |y::l,x,h,hx=>by
  rw[nK,Cb]at h;rw[Ca];rcases fF.1 hx with rfl|hx
  ·simp
  ·have au:=h.1 (f x) (HJ hx);rw[show(f y==f x)=false by rw[beq_eq_false_iff_ne];omega];exact Zf h.2 hx
theorem ZN{α:Type}{f:α->Int}{l:List α}{x y:α}(h:(l.map f).Pairwise (·<·))(hx:x∈l)(hy:y∈l)(he:f x=f y):x=y:=by have h1:=Zf h hx;have h2:=Zf h hy;rw[he,h2]at h1;exact(kT h1).symm
structure mJ(p:Pn):Prop where
 Wg:(p.ns.l.map Nd.id).Pairwise (·<·)
 Nr:(p.az.l.map Ac.id).Pairwise (·<·)
 Lz:∀ x∈p.ns.l,bl x.at'=true
 vpt:∀ a∈p.az.l,∀ q∈a.via.l,bl q=true
 fr:∀ a∈p.az.l,(dN p a.fr).isSome=true
 VX:∀ a∈p.az.l,(dN p a.to).isSome=true
theorem yG{p:Pn}{id:Int}(h:(dN p id).isSome=true):cF p id∈p.ns.l/\(cF p id).id=id:=by
 obtain⟨x,hx⟩:=zmy.1 h;have:cF p id=x:=by unfold cF;rw[hx];rfl
 rw[this];have h2:=List.find?_some hx;exact⟨VS hx,by simpa using h2⟩
theorem mJ.last{p:Pn}(h:mJ p){x:Nd}(hx:x∈p.ns.l):rq p.ns.l x.id=x.at':=by
 unfold rq;cases hf:p.ns.l.reverse.find? fun y=>x.id==y.id with
 |none =>
  have:=XD.1 hf x (by simpa using hx)
  simp at this
 |some y =>
  have h1:y∈p.ns.l:=by simpa using VS hf
  have h2:=List.find?_some hf
  have:x=y:=ZN h.Wg hx h1 (by simpa using h2)
  rw[this]
  rfl
theorem mJ.path{p:Pn}(h:mJ p){a:Ac}(ha:a∈p.az.l):dJ p a.id=true/\eH p a.id=bu p a:=by
 have h1:mH p a.id=some a:=Zf h.Nr ha;have h2:gI p a.id=a:=by unfold gI;rw[h1];rfl
 constructor
 ·unfold dJ;rw[h2,h1,h.fr a ha,h.VX a ha];rfl
 ·unfold eH bu;rw[h2]
def eM(p:Pn):List Sp:=p.az.l.flatMap fun a=>kC a (bu p a)
theorem Yw{α β:Type}{f g:α->List β}:∀{l:List α},(∀ x∈l,f x=g x)->l.flatMap f=l.flatMap g
 |[],_=>rfl
 |x::l,h=>by rw[fJ,fJ,h x (kB ..),Yw fun y hy=>h y (nk _ hy)]
theorem mJ.sps{p:Pn}(h:mJ p):NW p=eM p:=Yw fun a ha=>by rw[(h.path ha).2]
theorem Ir(p:Pn):(mz p).map Rg.sp=eM p:=by unfold mz eM;rw[List.map_flatMap];refine Yw fun a _=>?_;unfold kE kC;rw[SN];rfl
theorem Yg{p:Pn}(h:mJ p){a:Ac}(ha:a∈p.az.l):∀ q∈bu p a,bl q=true:=fun q hq=>by
 unfold bu at hq;rcases fF.1 hq with rfl|hq
 ·exact h.Lz _ (yG (h.fr a ha)).1
 ·rcases og.1 hq with hq|hq
  ·exact h.vpt a ha q hq
  ·rw[qx]at hq;subst hq;exact h.Lz _ (yG (h.VX a ha)).1
theorem zN{p:Pn}{a:Ac}:2<=(bu p a).length:=by simp[bu]
theorem Zg{p:Pn}{t:Sp}(ht:t∈eM p):∃ a∈p.az.l,∃ k,k<(bu p a).length-1/\t=⟨a.id,a.fr,a.to,k,(bu p a).length-1,(bu p a).getD k gB,(bu p a).getD (k+1) gB⟩:=by obtain⟨a,ha,h⟩:=qS.1 ht;obtain⟨k,hk,rfl⟩:=jA.1 h;exact⟨a,ha,k,rN.1 hk,rfl⟩
theorem YC{p:Pn}{a:Ac}(ha:a∈p.az.l){k:Nat}(hk:k<(bu p a).length-1):(⟨a.id,a.fr,a.to,k,(bu p a).length-1,(bu p a).getD k gB,(bu p a).getD (k+1) gB⟩:Sp)∈eM p :=
 qS.2 ⟨a,ha,jA.2 ⟨k,rN.2 hk,rfl⟩⟩
theorem zL{l:List Pt}{k:Nat}(hk:k<l.length):l.getD k gB∈l:=by rw[mN,cK hk];exact gU hk
structure mq(s:Sp):Prop where
 a:bl s.A=true
 b:bl s.B=true
 ne:eO s.A s.B=false
def mR(ns:List Nd)(s u:Sp):Bool:=bif s.id==u.id then(bif decide (u.k<s.k)then iR u s else iR s u)else iy ns s u
def Sc(ns:List Nd)(s u:Sp):Prop:=mq s->mq u->(s.id=u.id->s.k≠u.k)->mR ns s u=true
theorem zd5{s u:Sp}(h1:mq s)(h2:mq u):s.dH u=u.dH s:=meet_comm h1.a h1.b h2.a h2.b h1.ne h2.ne
theorem yC{α:Type}{f g:α->Bool}:∀{l:List α},(∀ x∈l,f x=g x)->l.any f=l.any g
 |[],_=>rfl
 |x::l,h=>by rw[Xv,Xv,h x (kB ..),yC fun y hy=>h y (nk _ hy)]
theorem Ds{ns:List Nd}{s u:Sp}(h1:mq s)(h2:mq u):iy ns s u=iy ns u s:=by
 unfold iy;rw[zd5 h1 h2];have:ns.any (iE s u)=ns.any (iE u s):=yC fun x _=>by unfold iE;cases vk s x.id<;>cases vk u x.id<;>cases qP s.A s.B x.at'<;>cases qP u.A u.B x.at'<;>rfl
 rw[this]
theorem CM{ns:List Nd}{s u:Sp}(h:Sc ns s u):Sc ns u s:=fun h1 h2 h3=>by
 have h4:=h h2 h1 fun he=>uE (h3 he.symm);unfold mR at h4 ⊢;cases hid:s.id==u.id
 ·rw[hid,bL]at h4;rw[show(u.id==s.id)=false by rw[beq_eq_false_iff_ne]at hid ⊢;exact uE hid,bL,Ds h1 h2];exact h4
 ·rw[hid,bT]at h4;have he:s.id=u.id:=by simpa using hid
  rw[show(u.id==s.id)=true by rw[he];simp,bT];have hk:=h3 he.symm;by_cases au:u.k<s.k
  ·rw[decide_eq_true au,bT]at h4;rw[decide_eq_false (show ¬ s.k<u.k by omega),bL];exact h4
  ·rw[decide_eq_false au,bL]at h4;rw[decide_eq_true (show s.k<u.k by omega),bT];exact h4
theorem zft(s u:Sg)(c:Int):j6 c s u=bif (u.k:Int)==((s.k+1:Nat):Int)then c==1 else bif (s.k:Int)==0&&((u.k:Int)==((u.sp.n-1:Nat):Int)&&s.a.fr==s.a.to)then c==1 else c==0:=by
 unfold j6;have e1:(((s.k+1:Nat):Int)==(u.k:Int))=((u.k:Int)==((s.k+1:Nat):Int)):=by rw[nU];simp only[n9];exact eq_comm
 have e2:u.path.l.length-2=u.sp.n-1:=by show _=u.path.l.length-1-1;omega
 rw[e1,e2];cases(u.k:Int)==((s.k+1:Nat):Int)<;>cases s.a.fr==s.a.to<;>cases(s.k:Int)==0<;>cases(u.k:Int)==((u.sp.n-1:Nat):Int)<;>rfl
theorem Mq{p:Pn}(hN:mJ p){L:List (Int×Pt)}(hL:∀ id,jB L id=rq p.ns.l id){s u:Sg}(h1:mq s.sp)(h2:mq u.sp)(hf:(dN p s.a.fr).isSome=true)(ht:(dN p s.a.to).isSome=true):mW L s u=mR p.ns.l s.sp u.sp:=by
 have hm:s.meet u=s.sp.dH u.sp:=LF h1.a h1.b h2.a h2.b h1.ne h2.ne;unfold mW mR;rw[hm];show(bif s.a.id==u.a.id then _ else _)=bif s.a.id==u.a.id then _ else _
 cases hid:s.a.id==u.a.id
 ·rw[bL,bL];unfold iy;cases h1c:s.sp.dH u.sp==1
  ·rfl
  ·rw[bT,bT];have on1:∀ x∈p.ns.l,mZ s.p0 s.p1 x.at'=qP s.sp.A s.sp.B x.at':=fun x hx=>AL h1.a h1.b (hN.Lz x hx);have on2:∀ x∈p.ns.l,mZ u.p0 u.p1 x.at'=qP u.sp.A u.sp.B x.at':=fun x hx=>AL h2.a h2.b (hN.Lz x hx);have nh:∀ x∈p.ns.l,dx L s u x.id=(vk u.sp x.id&&(qP s.sp.A s.sp.B x.at'&&qP u.sp.A u.sp.B x.at')):=fun x hx=>by
    unfold dx vk;rw[hL,hN.last hx,on1 x hx,on2 x hx];have e:∀ y:Int,(x.id==y)=(y==x.id):=fun y=>by rw[nU];simp only[n9];exact eq_comm
    rw[e,e];rfl
   rw[nU];constructor
   ·intro h;rcases nu _ _▸h with h|h
    ·obtain⟨m1,m2⟩:=yG hf;rw[←m2,nh _ m1]at h;refine rR.2 ⟨_,m1,?_⟩;unfold iE;rw[h,Kn];show(s.a.fr==_||_)=true;rw[m2];simp
    ·obtain⟨m1,m2⟩:=yG ht;rw[←m2,nh _ m1]at h;refine rR.2 ⟨_,m1,?_⟩;unfold iE;rw[h,Kn];show(_||s.a.to==_)=true;rw[m2];simp
   ·intro h;obtain⟨x,hx,h⟩:=rR.1 h;unfold iE at h;rw[gJ]at h;rw[←nh x hx]at h;have he:(s.a.fr==x.id||s.a.to==x.id)=true:=h.1;rw[nu,n9,n9]at he;rw[nu];rcases he with he|he
    ·left;rw[he];exact h.2
    ·right;rw[he];exact h.2
 ·rw[bT,bT];show(bif decide (u.k<s.k)then _ else _)=bif decide (u.k<s.k)then _ else _
  cases decide (u.k<s.k)
  ·rw[bL,bL,zft];rfl
  ·rw[bT,bT,zft];unfold iR;rw[zd5 h2 h1];rfl
theorem yk{α:Type}{R:α->α->Prop}{l:List α}:l.Pairwise R↔∀(i j:Nat)(x y:α),i<j->l[i]?=some x->l[j]?=some y->R x y:=by
 rw[List.pairwise_iff_getElem];constructor
 ·intro h i j x y hij hx hy;obtain⟨h1,rfl⟩:=cU.1 hx;obtain⟨h2,rfl⟩:=cU.1 hy;exact h i j h1 h2 hij
 ·intro h i j h1 h2 hij;exact h i j _ _ hij (cK h1) (cK h2)
theorem Yh{ns:List Nd}{l:List Rg}:kG ns l=true↔(∀ t∈l.map Rg.sp,eL ns t=true)/\(l.map Rg.sp).Pairwise fun s t=>kI ns s t=true:=by
 unfold kG;rw[tB,qT];constructor
 ·intro h;have hz:∀(i:Nat)(t:Rg),l[i]?=some t->eL ns t.sp=true/\∀(k:Nat)(s:Rg),k<i->l[k]?=some s->kI ns s.sp t.sp=true:=fun i t hi=>by have h1:=h (t,i) (zli.2 hi);simp only[sZ,uQ,zm7]at h1;refine⟨h1.1,fun k s hk hs=>?_⟩;have h2:=qT.1 h1.2 s (j5 (i:=k) (by rw[Fq,bt hk];exact hs));simpa using h2
  refine⟨fun t ht=>?_,?_⟩
  ·obtain⟨s,hs,rfl⟩:=jA.1 ht;obtain⟨i,hi⟩:=pY hs;exact(hz i s hi).1
  ·rw[qO];exact yk.2 fun i j x y hij hx hy=>(hz j y hy).2 i x hij hx
 ·rintro⟨h1,h2⟩⟨t,i⟩ hti;have hi:l[i]?=some t:=zli.1 hti;simp only[sZ,uQ,zm7];refine⟨h1 _ (HJ (j5 hi)),?_⟩;rw[qT];intro s hs;obtain⟨k,hk⟩:=pY hs;rw[Fq]at hk;split at hk
  ·rw[qO]at h2;rw[yk.1 h2 k i s t ‹_› hk hi];simp
  ·cases hk
theorem zct{p:Pn}(h:mJ p):(eM p).Pairwise fun s t=>s.id=t.id->s.k<t.k:=by
 unfold eM;rw[zla];constructor
 ·intro a _;unfold kC;rw[qO];refine List.pairwise_lt_range.imp ?_;intro x y hxy _;exact hxy
 ·have h2:=h.Nr;rw[qO]at h2;refine h2.imp fun{a b} aq x hx y hy he=>?_;obtain⟨k,_,rfl⟩:=jA.1 hx;obtain⟨k',_,rfl⟩:=jA.1 hy;dsimp only at he;omega
theorem Yx{ns:List Nd}{s t:Sp}(h:s.id=t.id->s.k<t.k):kI ns s t=mR ns s t:=by
 unfold kI mR;cases hid:s.id==t.id
 ·rfl
 ·have he:s.id=t.id:=by simpa using hid
  have:=h he;rw[bT,bT,decide_eq_false (show ¬ t.k<s.k by omega),bL]
theorem Qk{p:Pn}(h:mJ p)(hb:p.az.l.any (l6 p)=false){t:Sp}(ht:t∈eM p):mq t/\(t.fr != t.to||decide ((3:Int)<=(t.n:Int)))=true:=by
 obtain⟨a,ha,k,hk,rfl⟩:=Zg ht;have hba:l6 p a=false:=by have:=qT.1 hb a ha;simpa using this
 unfold l6 at hba;rw[(h.path ha).1,(h.path ha).2]at hba;simp only[vA,iS,uQ]at hba;obtain⟨j8,fG⟩:=hba;have hn:=Yg h ha;refine⟨⟨hn _ (zL Ω),hn _ (zL Ω),?_⟩,?_⟩
 ·unfold qp at fG;have:=qT.1 fG k (rN.2 hk);simpa using this
 ·cases hft:a.fr==a.to
  ·simp[bne,hft]
  ·rw[hft,pX,vB]at j8;rw[nu,jk];right;show(3:Int)<=(((bu p a).length-1:Nat):Int);omega
theorem Ro{p:Pn}(h:mJ p)(hb:p.az.l.any (l6 p)=true):∃ t∈eM p,eL p.ns.l t=false:=by
 obtain⟨a,ha,hba⟩:=rR.1 hb;unfold l6 at hba;rw[(h.path ha).1,(h.path ha).2]at hba;simp only[vA,iS,nu]at hba;rcases hba with j8|fG
 ·rw[gJ,jk]at j8;have h2:=@zN p a;refine⟨_,YC ha (k:=0) Ω,?_⟩;unfold eL;have e1:(a.fr != a.to)=false:=by simp[bne,j8.1]
  have e2:decide ((3:Int)<=(((bu p a).length-1:Nat):Int))=false:=by rw[vB];omega
  dsimp only;rw[e1,e2,Sr,l8,l8]
 ·unfold qp at fG;obtain⟨k,hk,he⟩:=rR.1 fG;refine⟨_,YC ha (rN.1 hk),?_⟩;unfold eL;dsimp only;rw[he,vA,ew,l8]
theorem I3{p:Pn}(hN:mJ p){t:Sp}(h:mq t){x:Nd}(hx:x∈p.ns.l):jm t x=lE t x:=by unfold jm lE gL;rw[AL h.a h.b (hN.Lz x hx),Bool.not_or,zoo]
theorem xE{p:Pn}(hN:mJ p){t:Sp}(h:mq t)(h2:(t.fr != t.to||decide ((3:Int)<=(t.n:Int)))=true):eL p.ns.l t=true↔∀ x∈p.ns.l,jm t x=false:=by
 unfold eL;rw[h.ne,h2,BW,Kn,Kn,tB,qT];constructor
 ·intro h3 x hx;rw[I3 hN h hx];simpa using h3 x hx
 ·intro h3 x hx;rw[←I3 hN h hx,h3 x hx];decide
theorem Ht{p:Pn}(hN:mJ p){s t:Sp}(hs:s∈eM p)(ht:t∈eM p)(g1:mq s)(g2:mq t)(h:s9 s.A.x s.B.x<sC t.A.x t.B.x):mR p.ns.l s t=true:=by
 have hm:s.dH t=0:=Gc g1.a g1.b g2.a g2.b g1.ne g2.ne h;have x1:s.A.x<=s9 s.A.x s.B.x:=Dp.2 (.inl (Fp _));have x2:s.B.x<=s9 s.A.x s.B.x:=Dp.2 (.inr (Fp _));have x3:sC t.A.x t.B.x<=t.A.x:=Dj.2 (.inl (Fp _));have x4:sC t.A.x t.B.x<=t.B.x:=Dj.2 (.inr (Fp _));unfold mR;cases hid:s.id==t.id
 ·rw[bL];unfold iy;rw[hm];rfl
 ·rw[bT];have he:s.id=t.id:=by simpa using hid
  have link:∀ s t:Sp,s∈eM p->t∈eM p->s.id=t.id->(t.k=s.k+1->s.B=t.A)/\(s.k=0->t.k=t.n-1->s.fr=s.to->t.B=s.A):=fun s t hs ht he=>by
   obtain⟨a,ha,k,hk,rfl⟩:=Zg hs;obtain⟨b,hb,k',hk',rfl⟩:=Zg ht;have aq:a=b:=ZN hN.Nr ha hb he;subst aq;refine⟨fun e=>?_,fun e1 e2 e3=>?_⟩
   ·dsimp only at e ⊢;rw[e]
   ·dsimp only at e1 e2 e3 ⊢;subst e1;have hl:=@zN p a;have e4:k'+1=(bu p a).length-1:=Ω;rw[e4];unfold bu;rw[e3];simp[mN]
  have hap:∀ s t:Sp,s∈eM p->t∈eM p->s.id=t.id->s.dH t=0->(s.B=t.A->False)->(t.B=s.A->False)->iR s t=true:=fun s t hs ht he hm n1 n2=>by
   obtain⟨l1,l2⟩:=link s t hs ht he;unfold iR;rw[hm];have e1:((t.k:Int)==((s.k+1:Nat):Int))=false:=by rw[beq_eq_false_iff_ne];exact fun h=>n1 (l1 Ω)
   rw[e1,bL];cases hc:((s.k:Int)==0&&((t.k:Int)==((t.n-1:Nat):Int)&&s.fr==s.to))
   ·rfl
   ·simp only[gJ,n9]at hc;exact absurd (l2 Ω Ω hc.2.2) n2
  cases decide (t.k<s.k)
  ·rw[bL];exact hap s t hs ht he hm (fun h=>by have:=ep Pt.x h;omega) fun h=>by have:=ep Pt.x h;omega
  ·rw[bT];exact hap t s ht hs he.symm ((zd5 g2 g1).trans hm) (fun h=>by have:=ep Pt.x h;omega) fun h=>by have:=ep Pt.x h;omega
theorem Q9{x y:Int}:uo x y<0↔x<y:=by
 unfold uo;split
 ·simp[*]
 ·split<;>simp[*]
theorem C5{p:Pn}(hN:mJ p){v:Bool}(hv:kr p v):v=kG p.ns.l (mz p):=by
 have hQ:=Ir p;unfold kr at hv;cases hb:p.az.l.any (l6 p)
 ·rw[hb,bL,hN.sps]at hv;have hg:=fun{t:Sp}(ht:t∈eM p)=>Qk hN hb ht;rcases hv with⟨h1,rfl⟩|⟨L,l,hL,iF,Gn,hres⟩
  ·symm;rw[Yh,hQ,h1];exact⟨fun t ht=>by simp at ht,List.Pairwise.nil⟩
  ·have hmem:∀{s:Sg},s∈l->s.sp∈eM p:=fun hs=>iF.mem_iff.1 (HJ hs);have Jw:∀{s:Sg},s∈l->(dN p s.a.fr).isSome=true/\(dN p s.a.to).isSome=true:=fun{s} hs=>by obtain⟨a,ha,k,hk,he⟩:=Zg (hmem hs);have e1:s.a.fr=a.fr:=ep Sp.fr he;have e2:s.a.to=a.to:=ep Sp.to he;rw[e1,e2];exact⟨hN.fr a ha,hN.VX a ha⟩
   have hcp:∀{s u:Sg},s∈l->u∈l->mW L s u=mR p.ns.l s.sp u.sp:=fun hs hu=>Mq hN hL (hg (hmem hs)).1 (hg (hmem hu)).1 (Jw hs).1 (Jw hs).2;have DI:=zct hN;have afq:(l.map Sg.sp).Pairwise fun s t=>s.id=t.id->s.k≠t.k :=
    (iF.pairwise_iff (R:=fun s t:Sp=>s.id=t.id->s.k≠t.k) (fun{x y} h he=>uE (h he.symm))).2 (DI.imp fun h he=>by have:=h he;omega)
   have ad2:∀(i j:Nat)(s u:Sg),i<j->l[i]?=some s->l[j]?=some u->(s.sp.id=u.sp.id->s.sp.k≠u.sp.k):=fun i j s u hij hs hu=>by rw[qO]at afq;exact yk.1 afq i j s u hij hs hu
   have mD:(l.map Sg.sp).Pairwise (Sc p.ns.l)↔(eM p).Pairwise (Sc p.ns.l):=iF.pairwise_iff fun{x y} h=>CM h;have hRL:(eM p).Pairwise (Sc p.ns.l)↔(eM p).Pairwise fun s t=>kI p.ns.l s t=true:=by
    constructor
    ·intro h;refine yk.2 fun i j x y hij hx hy=>?_;have ho:=yk.1 DI i j x y hij hx hy;rw[Yx ho];exact yk.1 h i j x y hij hx hy (hg (j5 hx)).1 (hg (j5 hy)).1 fun he=>by have:=ho he;omega
    ·intro h;refine yk.2 fun i j x y hij hx hy _ _ _=>?_;have ho:=yk.1 DI i j x y hij hx hy;rw[←Yx ho];exact yk.1 h i j x y hij hx hy
   have hal:(∀ t∈eM p,eL p.ns.l t=true)↔∀ s∈l,∀ x∈p.ns.l,jm s.sp x=false:=by
    constructor
    ·intro h s hs;have g:=hg (hmem hs);exact(xE hN g.1 g.2).1 (h _ (hmem hs))
    ·intro h t ht;have g:=hg ht;obtain⟨s,hs,rfl⟩:=jA.1 (iF.mem_iff.2 ht);exact(xE hN g.1 g.2).2 (h s hs)
   cases PG:v
   ·obtain⟨i,s,hs,pe⟩:=hres.2 PG;symm;rw[←sZ];intro hp;rw[Yh,hQ]at hp;rcases pe with⟨j,u,hij,hu,hc⟩|⟨x,hx,hxb⟩
    ·have h1:=mD.2 (hRL.2 hp.2);rw[qO]at h1;have h2:=yk.1 h1 i j s u hij hs hu (hg (hmem (j5 hs))).1 (hg (hmem (j5 hu))).1 (ad2 i j s u hij hs hu);rw[←hcp (j5 hs) (j5 hu),hc]at h2;cases h2
    ·have:=hal.1 hp.1 s (j5 hs) x hx;rw[hxb]at this;cases this
   ·have hr:=hres.1 PG;symm;rw[Yh,hQ];refine⟨hal.2 fun s hs=>?_,hRL.1 (mD.1 ?_)⟩
    ·obtain⟨i,hi⟩:=pY hs;exact(hr i s hi).2
    ·rw[qO];refine yk.2 fun i j s u hij hs hu g1 g2 _=>?_;rcases(hr i s hs).1 j u hij hu with h1|⟨j',u',h2,h3,h4,h5⟩
     ·rw[←hcp (j5 hs) (j5 hu)];exact h1
     ·have hw:u'.w<=u.w:=by
       by_cases hjj:j'=j
       ·subst hjj;rw[hu]at h4;cases h4;exact Fp _
       ·have:=Gn j' j u' u (NA _) Ω (cU.1 hu).1 h4 hu;unfold up at this;rw[Q9]at this;omega
      exact Ht hN (hmem (j5 hs)) (hmem (j5 hu)) g1 g2 (by
       have:s.ea<u.w:=Ω;exact this)
 ·rw[hb,bT]at hv;rw[hv];symm;rw[←sZ];intro hp;rw[Yh,hQ]at hp;obtain⟨t,ht,h2⟩:=Ro hN hb;rw[hp.1 t ht]at h2;cases h2
theorem CI(p:Pn):FW p=uX p:=by unfold FW uX jc iD jh;simp only[bL,bT,SR,List.any_map,List.any_flatMap];have e1:(p.ns.l.any fun n=>fC n.at')=p.ns.l.any (fC ∘ Nd.at'):=rfl;rw[e1];cases p.ns.l.any (iG ∘ Nd.id)<;>cases p.az.l.any (iG ∘ Ac.id)<;>cases p.fs.l.any iG<;>cases p.ns.l.any (fC ∘ Nd.at')<;>cases(p.az.l.any fun a=>a.via.l.any fC)<;>rfl
theorem DP(p:Pn)(z:Int):qh (p.ns.l.map Nd.id) z=(dN p z).isSome:=by
 unfold qh dN;rw[List.any_map,nU,List.find?_isSome,rR];simp only[Function.comp,n9];constructor
 ·rintro⟨x,h1,h2⟩;exact⟨x,h1,h2.symm⟩
 ·rintro⟨x,h1,h2⟩;exact⟨x,h1,h2.symm⟩
theorem xg(p:Pn):lp p (p.ns.l.map Nd.id)=bif kP p.ns.l then 8 else bif p.az.l.any (fun a=>!jK p a)then 7 else bif p.az.l.any (fun a=>!eD p a.l||!eD p a.r)then 12 else 0:=by
 unfold lp;have e1:p.az.l.any (loose (p.ns.l.map Nd.id))=p.az.l.any (fun a=>!jK p a):=yC fun a _=>by unfold loose jK;rw[DP,DP,Bool.not_and]
 have e2:∀ z,dW p.fs.l z=!eD p z:=fun z=>by unfold dW eD;rw[Bool.not_or,zoo];rfl
 have e3:p.az.l.any (fun a=>dW p.fs.l a.l||dW p.fs.l a.r)=p.az.l.any (fun a=>!eD p a.l||!eD p a.r):=yC fun a _=>by rw[e2,e2]
 rw[e1,e3]
theorem Yy{q:Pt}(h:fC q=false):bl q=true:=by rw[Yf];simp only[fC,uQ,vB,Int.not_lt]at h;omega
theorem SC{a b c:Pt}:tw a b c=cr a b a c:=by unfold tw cr;grind
theorem abq{a b c d:Pt}:cr a b c d=tw a b d-tw a b c:=by unfold tw cr;grind
theorem ahn{a c d:Pt}:cr a c c d=tw c d a:=by unfold tw cr;grind
theorem ahm{a b c:Pt}:cr a c a b=- tw a b c:=by unfold tw cr;grind
theorem HZ{a b c d:Pt}:tw c d b=tw c d a-cr a b c d:=by unfold tw cr;grind
theorem zdg{x y:Int}(h:x*y=0)(hx:x≠0):y=0:=by
 rcases zmg.1 h with h|h
 ·exact absurd h hx
 ·exact h
theorem Q8{a b c d:Pt}(aq:a≠b)(h1:tw a b c=0)(h2:tw a b d=0):tw c d a=0:=by
 have e1:(b.x-a.x)*tw c d a=(c.x-a.x)*tw a b d-(d.x-a.x)*tw a b c:=by unfold tw;grind
 have e2:(b.y-a.y)*tw c d a=(c.y-a.y)*tw a b d-(d.y-a.y)*tw a b c:=by unfold tw;grind
 rw[h1,h2,VJ,VJ,zoi]at e1 e2;by_cases hx:b.x-a.x=0
 ·by_cases hy:b.y-a.y=0
  ·exfalso;apply aq;cases a;cases b;simp only[Pt.mk.injEq]at *;omega
  ·exact zdg e2 hy
 ·exact zdg e1 hx
theorem Ji{n s t:Int}(h1:0<=s)(h2:s<=n)(h3:0<=t)(h4:t<=n):u6 n s t=1:=by unfold u6;rw[decide_eq_true h1,decide_eq_true h2,decide_eq_true h3,decide_eq_true h4];rfl
theorem TU{a b c d:Pt}(ha:bl a=true)(hb:bl b=true)(hc:bl c=true)(hd:bl d=true)(aq:a≠b):dH a b c d=bif cr a b c d==0 then(bif (tw a b c != 0)||((tw a b d != 0)||((cr c d c a != 0)||(cr c d c b != 0)))then 0 else dQ a b c d)else bif decide (cr a b c d<0)then u6 (0-cr a b c d) (0-tw c d a) (tw a b c)else u6 (cr a b c d) (tw c d a) (0-tw a b c):=by
 have hall:[a,b,c,d].all bl=true:=by simp[ha,hb,hc,hd]
 have hE:eO a b=false:=Sy.2 fun h=>aq (ZY.1 h);unfold dH tO;rw[hall,hE,ew,bT,bL];simp only[zB ha hb hc hd,zB ha hb ha hc,zB ha hb ha hd,zB hc hd hc ha,zB hc hd hc hb,zB ha hc hc hd,zB ha hc ha hb];have b1:=YB ha hb hc hd;have b2:=YB ha hc hc hd;have b3:=YB ha hc ha hb;rw[zK (x:=0-cr a b c d) Ω Ω,zK (x:=0-cr a c c d) Ω Ω,zK (x:=0-cr a c a b) Ω Ω,ahm (a:=a) (b:=b) (c:=c),ahn (a:=a) (c:=c) (d:=d),←SC (a:=a) (b:=b) (c:=c),←SC (a:=a) (b:=b) (c:=d),show 0 - -tw a b c=tw a b c by omega,show -tw a b c=0-tw a b c by omega]
theorem zar{a b c d:Pt}(ha:bl a=true)(hb:bl b=true)(hc:bl c=true)(hd:bl d=true)(aq:a≠b)(h:nN a b c d):dH a b c d≠0/\(tw a b c=0->tw a b d=0->dH a b c d=dQ a b c d):=by
 rw[TU ha hb hc hd aq];have hD:=abq (a:=a) (b:=b) (c:=c) (d:=d);have col:tw a b c=0->tw a b d=0->(bif cr a b c d==0 then(bif (tw a b c != 0)||((tw a b d != 0)||((cr c d c a != 0)||(cr c d c b != 0)))then 0 else dQ a b c d)else bif decide (cr a b c d<0)then u6 (0-cr a b c d) (0-tw c d a) (tw a b c)else u6 (cr a b c d) (tw c d a) (0-tw a b c))=dQ a b c d:=fun h1 h2=>by have e1:=Q8 aq h1 h2;have e2:=HZ (a:=a) (b:=b) (c:=c) (d:=d);rw[h1,h2]at hD;have e3:tw c d b=0:=Ω;rw[←SC,←SC,e1,e3,h1,h2,hD];rfl
 refine⟨?_,col⟩;rcases h with⟨h1,h2,h3⟩|⟨h1,⟨h2,h3⟩,h4,h5⟩
 ·rw[col h1 h2];exact h3
 ·have e2:=HZ (a:=a) (b:=b) (c:=c) (d:=d);by_cases h0:cr a b c d=0
  ·exfalso;omega
  ·rw[show(cr a b c d==0)=false from beq_eq_false_iff_ne.2 h0,bL];by_cases hn:cr a b c d<0
   ·rw[decide_eq_true hn,bT,Ji Ω Ω Ω Ω];decide
   ·rw[decide_eq_false hn,bL,Ji Ω Ω Ω Ω];decide
structure aV(p:Pn):Prop where
 nice:mJ p
 pid:∀ a∈p.az.l,1<=a.id/\a.id<=1073741824
 pts:kP p.ns.l=false
 fac:∀ a∈p.az.l,eD p a.l=true/\eD p a.r=true
 alone:∀ t∈eM p,eL p.ns.l t=true
 pair:(eM p).Pairwise fun s t=>kI p.ns.l s t=true
theorem WT{p:Pn}(h:jf p=0):aV p:=by
 unfold jf at h;cases h1:(mU p||nX p);rotate_left
 ·rw[h1]at h;simp at h
 rw[h1,bL]at h;cases h2:q8 p
 ·rw[h2]at h;simp at h
 rw[h2,vA,bL]at h;unfold Lc at h;cases h3:FW p
 ·rw[h3]at h;simp at h
 rw[h3,vA,bL]at h;cases h4:kP p.ns.l;rotate_left
 ·rw[h4]at h;simp at h
 rw[h4,bL]at h;unfold CO at h;cases h5:p.az.l.any (fun a=>!jK p a);rotate_left
 ·rw[h5]at h;simp at h
 rw[h5,bL]at h;cases h6:p.az.l.any (fun a=>!eD p a.l||!eD p a.r);rotate_left
 ·rw[h6]at h;simp at h
 rw[h6,bL]at h;cases h7:kG p.ns.l (mz p)
 ·rw[h7]at h;simp at h
 rw[CI]at h3;unfold q8 at h2;simp only[gJ]at h2;unfold uX jc at h3;simp only[gJ,tB]at h3;have hlo:∀ a∈p.az.l,(dN p a.fr).isSome=true/\(dN p a.to).isSome=true:=fun a ha=>by have:=qT.1 h5 a ha;simp only[sZ,zm7,jK,gJ]at this;exact this
 rw[Yh,Ir]at h7;refine⟨⟨y6.1 h2.1,y6.1 h2.2.1,fun x hx=>Yy ?_,fun a ha q hq=>Yy ?_,fun a ha=>(hlo a ha).1,fun a ha=>(hlo a ha).2⟩,fun a ha=>?_,h4,fun a ha=>?_,h7.1,h7.2⟩
 ·have:=qT.1 h3.2.2.2.1 x hx;simpa using this
 ·have:=qT.1 h3.2.2.2.2 a ha;have h9:a.via.l.any fC=false:=by simpa only[sZ]using this
  have:=qT.1 h9 q hq;simpa using this
 ·have:=qT.1 h3.2.1 a.id (HJ ha);simp only[iG,nu,jk]at this;omega
 ·have:=qT.1 h6 a ha;simp only[nu,tB,not_or,Bool.not_eq_false]at this;exact this
section
variable {p:Pn} (h:aV p)
include h
theorem aV.good{t:Sp}(ht:t∈eM p):mq t:=by obtain⟨a,ha,k,hk,rfl⟩:=Zg ht;have hal:=h.alone _ ht;unfold eL at hal;simp only[gJ,tB]at hal;exact⟨Yg h.nice ha _ (zL Ω),Yg h.nice ha _ (zL Ω),hal.2.1⟩
theorem aV.adh{t:Sp}(ht:t∈eM p)(he:t.fr=t.to):3<=t.n:=by
 have hal:=h.alone _ ht;unfold eL at hal;simp only[gJ,nu,jk]at hal;rcases hal.2.2 with h1|h1
 ·rw[he]at h1;simp at h1
 ·omega
theorem aV.gL{t:Sp}(ht:t∈eM p){x:Nd}(hx:x∈p.ns.l)(ho:qP t.A t.B x.at'=true):gL t x=true:=by have hal:=h.alone _ ht;unfold eL at hal;simp only[gJ,tB]at hal;have:=qT.1 hal.1 x hx;unfold lE at this;rw[ho,Kn]at this;simpa using this
theorem aV.rel{s t:Sp}(hs:s∈eM p)(ht:t∈eM p)(hne:s.id=t.id->s.k≠t.k):mR p.ns.l s t=true:=by
 obtain⟨i,hi⟩:=pY hs;obtain⟨j,hj⟩:=pY ht;have DI:=yk.1 (zct h.nice);have hp:=yk.1 h.pair;rcases zl2 i j with hij|hij|hij
 ·have:=hp i j s t hij hi hj;rwa [Yx (DI i j s t hij hi hj)]at this
 ·subst hij;rw[hi]at hj;cases hj;exact absurd rfl (hne rfl)
 ·have h1:=hp j i t s hij hj hi;rw[Yx (DI j i t s hij hj hi)]at h1;exact CM (s:=t) (u:=s) (fun _ _ _=>h1) (h.good hs) (h.good ht) hne
theorem aV.sJ{t:Sp}(ht:t∈eM p){x:Nd}(hx:x∈p.ns.l)(he:Go.Proofs.YtdacpmgnhkmnkaaGreatDoor.gL t x=true):(t.k=0/\t.fr=x.id/\t.A=x.at')∨(t.k+1=t.n/\t.to=x.id/\t.B=x.at'):=by
 obtain⟨a,ha,k,hk,rfl⟩:=Zg ht;unfold Go.Proofs.YtdacpmgnhkmnkaaGreatDoor.gL at he;simp only[nu,gJ,n9]at he;have ak:∀ id,(dN p id).isSome=true->id=x.id->cF p id=x:=fun id hi e=>by obtain⟨m1,m2⟩:=yG hi;exact ZN h.nice.Wg m1 hx (by rw[m2,e])
 rcases he with⟨h1,h2⟩|⟨h1,h2⟩
 ·left;have hk0:k=0:=Ω;subst hk0;refine⟨rfl,h2,?_⟩;show(cF p a.fr).at'=x.at';rw[ak _ (h.nice.fr a ha) h2]
 ·right;have h2l:=zN (p:=p) (a:=a);have hkn:k+1=(bu p a).length-1:=by omega
  refine⟨hkn,h2,?_⟩;show(bu p a).getD (k+1) gB=x.at';rw[hkn];unfold bu;rw[mN,cu,eR,cu,dw,show a.via.l.length+(0+1)+1-1=a.via.l.length+1 by omega,jP,jd (dz _),rM];show(cF p a.to).at'=x.at';rw[ak _ (h.nice.VX a ha) h2]
end
def iI(p:Pt):Int:=8388608*p.x+p.y
theorem aba{p q:Pt}(hp:bl p=true)(hq:bl q=true):jN p q=decide (iI p<iI q):=by rw[Yf]at hp hq;unfold jN iI;rw[nU];simp only[nu,gJ,jk,n9];omega
theorem Pp{p q:Pt}(hp:bl p=true)(hq:bl q=true):eO p q=decide (iI p=iI q):=by rw[Yf]at hp hq;unfold eO iI;rw[nU];simp only[gJ,jk,n9];omega
theorem aa9{p q:Pt}(hp:bl p=true)(hq:bl q=true)(h:iI p=iI q):p=q:=by have:=Pp hp hq;rw[decide_eq_true h]at this;exact ZY.1 this
section
variable {a b c d:Pt} (ha:bl a=true) (hb:bl b=true) (hc:bl c=true) (hd:bl d=true)
include ha hb hc hd
theorem Og:dQ a b c d=if max (min (iI a) (iI b)) (min (iI c) (iI d))=min (max (iI a) (iI b)) (max (iI c) (iI d))then 1 else if max (min (iI a) (iI b)) (min (iI c) (iI d))<min (max (iI a) (iI b)) (max (iI c) (iI d))then 2 else 0:=by
 have hn:∀ p,p∈[a,b,c,d]->bl p=true:=fun p hp=>by
  simp only[fF,j4,k7]at hp;rcases hp with rfl|rfl|rfl|rfl
  ·exact ha
  ·exact hb
  ·exact hc
  ·exact hd
 exact zfm (fun p q hp hq=>aba (hn p hp) (hn q hq)) (fun p q hp hq=>Pp (hn p hp) (hn q hq))
theorem acn{P:Pt}(h1:P=a∨P=b)(h2:P=c∨P=d):dQ a b c d≠0:=by
 rw[Og ha hb hc hd];have hle:max (min (iI a) (iI b)) (min (iI c) (iI d))<=min (max (iI a) (iI b)) (max (iI c) (iI d)):=by rcases h1 with rfl|rfl<;>rcases h2 with rfl|rfl<;>omega
 split
 ·decide
 ·split
  ·decide
  ·omega
theorem X9(aq:a≠b)(h:(a=c/\b=d)∨(a=d/\b=c)):dQ a b c d=2:=by
 rw[Og ha hb hc hd];have hne:iI a≠iI b:=fun e=>aq (aa9 ha hb e);rcases h with⟨rfl,rfl⟩|⟨rfl,rfl⟩
 ·rw[bC Ω,bt Ω]
 ·rw[bC Ω,bt Ω]
theorem wW{P:Pt}(h1:P=a∨P=b)(h2:P=c∨P=d):nN a b c d:=by
 by_cases Qb:tw a b c=0/\tw a b d=0
 ·exact .inl ⟨Qb.1,Qb.2,acn ha hb hc hd h1 h2⟩
 ·refine .inr ⟨Qb,?_,?_⟩
  ·have:tw a b c=0∨tw a b d=0:=by
    have z1:tw a b a=0:=by unfold tw;grind
    have z2:tw a b b=0:=by unfold tw;grind
    rcases h1 with rfl|rfl<;>rcases h2 with rfl|rfl
    ·exact .inl z1
    ·exact .inr z1
    ·exact .inl z2
    ·exact .inr z2
   unfold opp;omega
  ·have:tw c d a=0∨tw c d b=0:=by
    have z1:tw c d c=0:=by unfold tw;grind
    have z2:tw c d d=0:=by unfold tw;grind
    rcases h1 with rfl|rfl<;>rcases h2 with rfl|rfl
    ·exact .inl z1
    ·exact .inl z2
    ·exact .inr z1
    ·exact .inr z2
   unfold opp;omega
theorem QO(aq:a≠b){P:Pt}(h1:P=a∨P=b)(h2:P=c∨P=d):dH a b c d≠0:=(zar ha hb hc hd aq (wW ha hb hc hd h1 h2)).1
theorem KF(aq:a≠b)(h:(a=c/\b=d)∨(a=d/\b=c)):dH a b c d=2:=by
 have ht:nN a b c d:=wW ha hb hc hd (P:=a) (.inl rfl) (by rcases h with⟨h,_⟩|⟨h,_⟩;exact .inl h;exact .inr h);have z1:tw a b a=0:=by unfold tw;grind
 have z2:tw a b b=0:=by unfold tw;grind
 rw[(zar ha hb hc hd aq ht).2 (by rcases h with⟨rfl,rfl⟩|⟨rfl,rfl⟩<;>assumption) (by rcases h with⟨rfl,rfl⟩|⟨rfl,rfl⟩<;>assumption)];exact X9 ha hb hc hd aq h
end
section
variable {p:Pn} (h:aV p)
include h
theorem aV.meet{s t:Sp}(hs:s∈eM p)(ht:t∈eM p)(hne:s.id=t.id->s.k≠t.k)(hm:s.dH t≠0):s.dH t=1/\∃ P,(P=s.A∨P=s.B)/\(P=t.A∨P=t.B):=by
 have hr:=h.rel hs ht hne;have gs:=h.good hs;have gt:=h.good ht;unfold mR at hr;have same:∀{u v:Sp},u∈eM p->v∈eM p->u.id=v.id->u.dH v≠0->iR u v=true->u.dH v=1/\∃ P,(P=u.A∨P=u.B)/\(P=v.A∨P=v.B):=fun{u v} hu hv hid hm hap=>by
  obtain⟨a,ha,k,hk,rfl⟩:=Zg hu;obtain⟨b,hb,j,hj,rfl⟩:=Zg hv;have aq:a=b:=ZN h.nice.Nr ha hb hid;subst aq;unfold iR at hap;cases c1:((j:Int)==((k+1:Nat):Int))
  ·rw[c1,bL]at hap;cases c2:((k:Int)==0&&((j:Int)==(((bu p a).length-1-1:Nat):Int)&&a.fr==a.to))
   ·rw[c2,bL]at hap;exact absurd (eq_of_beq hap) hm
   ·rw[c2,bT]at hap;simp only[gJ,n9]at c2;obtain⟨d1,d2,d3⟩:=c2;refine⟨eq_of_beq hap,(cF p a.fr).at',.inl ?_,.inr ?_⟩
    ·have:k=0:=Ω;subst this;rfl
    ·have h2l:=zN (p:=p) (a:=a);have hjn:j+1=(bu p a).length-1:=Ω;show(cF p a.fr).at'=(bu p a).getD (j+1) gB;rw[hjn];unfold bu;rw[mN,cu,eR,cu,dw,show a.via.l.length+(0+1)+1-1=a.via.l.length+1 by omega,jP,jd (dz _),rM,d3];rfl
  ·rw[c1,bT]at hap;have hj1:j=k+1:=by have:=eq_of_beq c1;omega
   subst hj1;exact⟨eq_of_beq hap,_,.inr rfl,.inl rfl⟩
 cases hid:s.id==t.id
 ·rw[hid,bL]at hr;unfold iy at hr;cases hm1:s.dH t==1
  ·rw[hm1,bL]at hr;exact absurd (eq_of_beq hr) hm
  ·rw[hm1,bT]at hr;obtain⟨x,hx,hj⟩:=rR.1 hr;unfold iE at hj;simp only[gJ]at hj;obtain⟨_,_,o1,o2⟩:=hj;refine⟨eq_of_beq hm1,x.at',?_,?_⟩
   ·rcases h.sJ hs hx (h.gL hs hx o1)with⟨_,_,e⟩|⟨_,_,e⟩
    ·exact .inl e.symm
    ·exact .inr e.symm
   ·rcases h.sJ ht hx (h.gL ht hx o2)with⟨_,_,e⟩|⟨_,_,e⟩
    ·exact .inl e.symm
    ·exact .inr e.symm
 ·rw[hid,bT]at hr;have he:=eq_of_beq hid;cases au:decide (t.k<s.k)
  ·rw[au,bL]at hr;exact same hs ht he hm hr
  ·rw[au,bT]at hr;rw[zd5 gs gt]at hm ⊢;obtain⟨h1,P,h2,h3⟩:=same ht hs he.symm hm hr;exact⟨h1,P,h3,h2⟩
end
def uC(p:Pn)(L:List (Int×aS 2 Pt.c)):Prop:=∀ a∈p.az.l,(kS rY L a.id).l=eH p a.id
section
variable {S:cZ}
theorem AH(hS:bN S)(p:Pn)(h0:aV p)(iz:bQ p):∃ L:List (Int×aS 2 Pt.c),uC p L/\∃ N,aP S N 74 [.agg p.c] (.eF (gK L) (gR mY L)):=by
 obtain⟨qf,Ug⟩:=zof fun id=>Yr hS p id iz;obtain⟨N,hN⟩:=Fe p.az.l fun a (_:a∈p.az.l)=>(Ug a.id).2;obtain⟨G,hG0,hG1⟩:∃ G:List Ac->List (Int×aS 2 Pt.c),G []=[]/\∀ l a,G (l++[a])=oP (G l) a.id (qf a.id):=⟨fun l=>l.foldl (fun L a=>oP L a.id (qf a.id)) [],rfl,fun l a=>by simp[zmo]⟩;have hst:∀{i:Nat}{x:Ac},p.az.l[i]?=some x->G (p.az.l.take (i+1))=oP (G (p.az.l.take i)) x.id (qf x.id):=fun hx=>by rw[lH,hx,rP,hG1]
 have hsp:∀ i,∀ a∈p.az.l.take i,(kS rY (G (p.az.l.take i)) a.id).l=eH p a.id:=fun i=>by
  induction i with
  |zero=>intro a ha;simp at ha
  |succ i ih =>
   cases hx:p.az.l[i]? with
   |none=>rw[lH,hx,Option.toList_none,iL];exact ih
   |some x =>
    intro a ha
    rw[hst hx,AZ]
    by_cases he:a.id=x.id
    ·rw[bt he,(Ug x.id).1 (h0.nice.path (j5 hx)).1,he]
    ·rw[bC he]
     rw[lH,hx]at ha
     rcases og.1 ha with h1|h1
     ·exact ih a h1
     ·simp only[rP,qx]at h1
      exact absurd (by rw[h1]) he
 have hall:=hsp p.az.l.length;rw[E7]at hall;refine⟨G p.az.l,hall,N+p.az.l.length+200000,fun m hm d ah aK aa id=>?_⟩;obtain⟨m,rfl⟩:=me m 2;have main:∃ v,aM aR S (m+1+1) d ah aK aa id 74 [.agg p.c]=some (.r,v,aa)/\v=.eF (gK (G p.az.l)) (gR mY (G p.az.l)):=by
  refine ZG (i:=i74) (ns hS) rfl rfl (lb rfl) fun t af=>?_;simp only[slotsOf,zb,zc,i74,Pn.c]at af;generalize(fun l=>if l=d then aK else ah l:bR)=cQ
  suffices kY:∀ K:fP,(∀ t' O bs ck,O[1]?=some (.map (gK (G p.az.l)) (gR mY (G p.az.l)) bs ck)->aN 31 t' [(2,.mapM (d+1) 1)]->K .ret ⟨t',O⟩)->Ex (aM aR S (m+1)) (d+1) cQ (m+1) i74.body K ⟨t,[]⟩from kY _ fun t' O bs ck hO ht=>by simp only[zb,zc]at ht;rw[yV];refine⟨_,_,?_,OX Ω hO,rfl⟩;simp only[i74,V0,seval,ht]
  intro K fin;have Qf:=p.az.gC;have cmp:∀ a b,(IV.mapM a b).cells=[.mapM a b]:=fun _ _=>rfl;simp only[i74,V0,seval,af];refine ze (fun jj st=>∃(i:Nat)(bs:List Nat)(ck:Nat)(J:aU),p.az.l.length-i<=jj/\i<=p.az.l.length/\st.aa=aI [p.ns.v,p.az.v,p.fs.v]::.map (gK (G (p.az.l.take i))) (gR mY (G (p.az.l.take i))) bs ck::J/\aN 31 st.t [(1,.ptrM (d+1) 0 0),(3,.mapM (d+1) 1),(10,p.az.v),(11,iv (p.az.l.length:Nat)),(12,iv i)]) p.az.l.length Ω ⟨0,[],0,[],Ω,Ω,by rw[xI,hG0];rfl,by simp only[V0,seval,af,eU]⟩ ?_;clear af;rintro jj ⟨t,aa⟩ KA ⟨i,bs,ck,J,hjj,hi,ho,af⟩ bV cS dA;dsimp only at ho af;subst ho;simp only[V3]at af;by_cases h:i<p.az.l.length
  ·have hx:p.az.l[i]?=some p.az.l[i]:=cK h;have cp:=hN _ (gU h) (m+1) Ω;have tS:=gU h;generalize p.az.l[i]=x at hx cp tS;have hrd:bM (p.az.l.flatMap Ac.c) (i*6) 6=some [aG aH x.id,aG aH x.fr,aG aH x.to,x.via.v,aG aH x.l,aG aH x.r]:=(zd Ac.aZ 0 6 hx Ω).trans rfl;have hw:=zq i;simp only[Pn.c,zg]at cp;have SG:=(h0.nice.path tS).1;obtain⟨bs',iO,DC⟩:=HY (u:=mY) (G (p.az.l.take i)) bs ck x.id (qf x.id);have u7:=fun C n0 aK aa t a b c=>DC C (d+1) cQ n0 1 aK aa t a b c;simp only[show mY (qf x.id)=(qf x.id).v from rfl]at u7;simp only[V0,seval,za p.az h,bT,show((0:Int)==0)=true from rfl, *];refine bV _ (p.az.l.length-(i+1)) Ω ⟨i+1,bs',iO,_,Ω,Ω,by rw[hst hx],cD⟩
  ·simp only[V0,seval,af,h];refine cS _ _ ?_;simp only[V0,seval,af];rw[gj Ω];exact fin _ _ bs ck rfl cD
 obtain⟨v,h1,rfl⟩:=main;exact h1
end
theorem zbz{l:List Nd}(h:kP l=false){a b:Nd}(ha:a∈l)(hb:b∈l)(hx:a.at'.x=b.at'.x)(hy:a.at'.y=b.at'.y):a.id=b.id:=by
 obtain⟨i,hi,rfl⟩:=SB.1 ha;obtain⟨j,hj,rfl⟩:=SB.1 hb;have key:∀(i j:Nat)(hi:i<l.length)(hj:j<l.length),i<j->l[i].at'.x=l[j].at'.x->l[i].at'.y=l[j].at'.y->False:=fun i j hi hj hij hx hy=>by
  unfold kP at h;have h1:=qT.1 h (l[j],j) (by
   rw[zli];exact cK hj)
  simp only[rR,not_exists,not_and]at h1;refine h1 l[i] ?_ ?_
  ·rw[SB];exact⟨i,by rw[k8];omega,by rw[List.getElem_take]⟩
  ·simp[eO,hx,hy]
 rcases zl2 i j with h1|h1|h1
 ·exact(key i j hi hj h1 hx hy).elim
 ·subst h1;rfl
 ·exact(key j i hj hi h1 hx.symm hy.symm).elim
def jW(p:Pn)(a:Ac)(k:Nat):Sp:=⟨a.id,a.fr,a.to,k,(bu p a).length-1,(bu p a).getD k gB,(bu p a).getD (k+1) gB⟩
theorem zb0{s t:Sp}(hap:iR s t=true)(hm:s.dH t≠0):(t.k=s.k+1/\s.dH t=1)∨(s.k=0/\t.k=t.n-1/\s.fr=s.to/\s.dH t=1):=by
 unfold iR at hap;cases c1:((t.k:Int)==((s.k+1:Nat):Int))
 ·rw[c1,bL]at hap;cases c2:((s.k:Int)==0&&((t.k:Int)==((t.n-1:Nat):Int)&&s.fr==s.to))
  ·rw[c2,bL]at hap;exact absurd (eq_of_beq hap) hm
  ·rw[c2,bT]at hap;simp only[gJ,n9]at c2;obtain⟨d1,d2,d3⟩:=c2;exact .inr ⟨Ω,Ω,d3,eq_of_beq hap⟩
 ·rw[c1,bT]at hap;exact .inl ⟨by have:=eq_of_beq c1;omega,eq_of_beq hap⟩
section
variable {p:Pn} (h:aV p)
include h
theorem aV.apart{s t:Sp}(hs:s∈eM p)(ht:t∈eM p)(hid:s.id=t.id)(hk:s.k<t.k):iR s t=true:=by
 have hr:=h.rel hs ht fun _=>by omega
 unfold mR at hr;rw[show(s.id==t.id)=true by rw[hid];simp,bT,decide_eq_false (show ¬ t.k<s.k by omega),bL]at hr;exact hr
theorem aV.Wo{s t:Sp}(hs:s∈eM p)(ht:t∈eM p)(hid:s.id≠t.id)(hm:s.dH t≠0):∃ x∈p.ns.l,Go.Proofs.YtdacpmgnhkmnkaaGreatDoor.gL s x=true/\Go.Proofs.YtdacpmgnhkmnkaaGreatDoor.gL t x=true:=by
 have hr:=h.rel hs ht fun e=>absurd e hid;unfold mR at hr;rw[beq_eq_false_iff_ne.2 hid,bL]at hr;unfold iy at hr;cases hm1:s.dH t==1
 ·rw[hm1,bL]at hr;exact absurd (eq_of_beq hr) hm
 ·rw[hm1,bT]at hr;obtain⟨x,hx,hj⟩:=rR.1 hr;unfold iE at hj;simp only[gJ]at hj;exact⟨x,hx,h.gL hs hx hj.2.2.1,h.gL ht hx hj.2.2.2⟩
theorem aV.nN{s t:Sp}(hs:s∈eM p)(ht:t∈eM p){P:Pt}(h1:P=s.A∨P=s.B)(h2:P=t.A∨P=t.B):s.dH t≠0:=by have gs:=h.good hs;have gt:=h.good ht;exact QO gs.a gs.b gt.a gt.b (fun e=>by have:=gs.ne;rw[e,ZY.2 rfl]at this;cases this) h1 h2
theorem aV.twin{s t:Sp}(hs:s∈eM p)(ht:t∈eM p)(h1:s.A=t.B)(h2:s.B=t.A):s.dH t=2:=by have gs:=h.good hs;have gt:=h.good ht;exact KF gs.a gs.b gt.a gt.b (fun e=>by have:=gs.ne;rw[e,ZY.2 rfl]at this;cases this) (.inr ⟨h1,h2⟩)
theorem aV.ne{s:Sp}(hs:s∈eM p):s.A≠s.B:=fun e=>by have:=(h.good hs).ne;rw[e,ZY.2 rfl]at this;cases this
theorem aV.via{a b:Ac}(ha:a∈p.az.l)(hb:b∈p.az.l){k j:Nat}(hk0:0<k)(hk:k<(bu p a).length-1)(hj:j<=(bu p b).length-1)(he:(bu p b).getD j gB=(bu p a).getD k gB):b=a/\j=k:=by
 have sW:=zN (p:=p) (a:=b);have m1:jW p a (k-1)∈eM p:=YC ha Ω;have m2:jW p a k∈eM p:=YC ha hk;have e1:(jW p a (k-1)).B=(bu p a).getD k gB:=by show(bu p a).getD (k-1+1) gB=_;rw[zn3 hk0]
 have e2:(jW p a k).A=(bu p a).getD k gB:=rfl;by_cases hid:b.id=a.id
 ·have hba:b=a:=ZN h.nice.Nr hb ha hid;subst hba;refine⟨rfl,?_⟩;rcases zl2 j k with hjk|hjk|hjk
  ·exfalso;have mu:jW p b j∈eM p:=YC hb Ω;have eu:(jW p b j).A=(bu p b).getD k gB:=he;by_cases hj1:j=k-1
   ·subst hj1;exact h.ne m1 (eu.trans e1.symm)
   ·have t2:=h.nN mu m2 (.inl eu.symm) (.inl e2.symm);have t1:=h.nN mu m1 (.inl eu.symm) (.inr e1.symm);rcases zb0 (h.apart mu m2 rfl (show j<k by omega)) t2 with⟨c1,_⟩|⟨c1,c2,_,_⟩
    ·have c1:k=j+1:=c1;omega
    ·have c1:j=0:=c1;have c2:k=(bu p b).length-1-1:=c2;rcases zb0 (h.apart mu m1 rfl (show j<k-1 by omega)) t1 with⟨d1,d2⟩|⟨_,d2,_,_⟩
     ·have d1:k-1=j+1:=d1;have:=h.twin mu m1 (eu.trans e1.symm) (by show(bu p b).getD (j+1) gB=(bu p b).getD (k-1) gB;rw[d1]);omega
     ·have d2:k-1=(bu p b).length-1-1:=d2;omega
  ·exact hjk
  ·exfalso;have mu:jW p b (j-1)∈eM p:=YC hb Ω;have eu:(jW p b (j-1)).B=(bu p b).getD k gB:=by show(bu p b).getD (j-1+1) gB=_;rw[zn3 Ω];exact he
   by_cases hj1:j-1=k
   ·rw[hj1]at eu;exact h.ne m2 (e2.trans eu.symm)
   ·have t1:=h.nN m1 mu (.inr e1.symm) (.inr eu.symm);have t2:=h.nN m2 mu (.inl e2.symm) (.inr eu.symm);rcases zb0 (h.apart m1 mu rfl (show k-1<j-1 by omega)) t1 with⟨c1,_⟩|⟨c1,c2,_,_⟩
    ·have c1:j-1=k-1+1:=c1;omega
    ·have c1:k-1=0:=c1;have c2:j-1=(bu p b).length-1-1:=c2;rcases zb0 (h.apart m2 mu rfl (show k<j-1 by omega)) t2 with⟨d1,d2⟩|⟨d1,_,_,_⟩
     ·have d1:j-1=k+1:=d1;have:=h.twin m2 mu (e2.trans eu.symm) (by show(bu p b).getD (k+1) gB=(bu p b).getD (j-1) gB;rw[d1]);omega
     ·have d1:k=0:=d1;omega
 ·exfalso;obtain⟨t,mt,tid,tP⟩:∃ t∈eM p,t.id=b.id/\((bu p a).getD k gB=t.A∨(bu p a).getD k gB=t.B):=by
   by_cases hjl:j<(bu p b).length-1
   ·exact⟨jW p b j,YC hb hjl,rfl,.inl he.symm⟩
   ·refine⟨jW p b (j-1),YC hb Ω,rfl,.inr ?_⟩;show _=(bu p b).getD (j-1+1) gB;rw[zn3 Ω];exact he.symm
  have d1:(jW p a (k-1)).id≠t.id:=fun e=>hid (tid.symm.trans e.symm);have d2:(jW p a k).id≠t.id:=fun e=>hid (tid.symm.trans e.symm);obtain⟨x1,hx1,f1,g1⟩:=h.Wo m1 mt d1 (h.nN m1 mt (.inr e1.symm) tP);obtain⟨x2,hx2,f2,g2⟩:=h.Wo m2 mt d2 (h.nN m2 mt (.inl e2.symm) tP);have n1:=h.ne m1;have n2:=h.ne m2;have nt:=h.ne mt;rcases h.sJ m1 hx1 f1 with⟨r1,r2,r3⟩|⟨r1,_,_⟩
  ·rcases h.sJ m2 hx2 f2 with⟨q1,_,_⟩|⟨q1,q2,q3⟩
   ·have q1:k=0:=q1;omega
   ·have r1:k-1=0:=r1;have q1:k+1=(bu p a).length-1:=q1;have w1:x1.at'=t.A∨x1.at'=t.B:=by
     rcases h.sJ mt hx1 g1 with⟨_,_,e⟩|⟨_,_,e⟩
     ·exact .inl e.symm
     ·exact .inr e.symm
    have w2:x2.at'=t.A∨x2.at'=t.B:=by
     rcases h.sJ mt hx2 g2 with⟨_,_,e⟩|⟨_,_,e⟩
     ·exact .inl e.symm
     ·exact .inr e.symm
    have v1:x1.at'≠(bu p a).getD k gB:=fun e=>n1 (r3.trans (e.trans e1.symm));have v2:x2.at'≠(bu p a).getD k gB:=fun e=>n2 (e2.trans (e.symm.trans q3.symm));have DB:x1.at'=x2.at':=by
     rcases tP with tP|tP<;>rw[tP]at v1 v2<;>rcases w1 with w1|w1<;>rcases w2 with w2|w2
     ·exact absurd w1 v1
     ·exact absurd w1 v1
     ·exact absurd w2 v2
     ·exact w1.trans w2.symm
     ·exact w1.trans w2.symm
     ·exact absurd w2 v2
     ·exact absurd w1 v1
     ·exact absurd w1 v1
    have agq:x1.id=x2.id:=zbz h.pts hx1 hx2 (by rw[DB]) (by rw[DB]);have hft:a.fr=a.to:=by have r2:a.fr=x1.id:=r2;have q2:a.to=x2.id:=q2;rw[r2,q2,agq]
    have:=h.adh m2 hft;have:3<=(bu p a).length-1:=this;omega
  ·have r1:k-1+1=(bu p a).length-1:=r1;omega
end
def aV.bp{p:Pn}(h:aV p):Net where
 E:=(eM p).map fun s=>(s.id,s.k)
 len a:=(eH p a).length-1
 pt a k:=(eH p a).getD k gB
 nodup:=by
  rw[List.Nodup,qO];exact(zct h.nice).imp fun{s t} hst e=>by rw[qN]at e;have:=hst e.1;omega
 mem a k hm:=by obtain⟨s,hs,e⟩:=jA.1 hm;obtain⟨x,hx,j,hj,rfl⟩:=Zg hs;cases e;rw[(h.nice.path hx).2];have:=h.pid x hx;exact⟨show 0<x.id by omega,hj⟩
 whole a k j hm hj:=by obtain⟨s,hs,e⟩:=jA.1 hm;obtain⟨x,hx,i,hi,rfl⟩:=Zg hs;cases e;rw[(h.nice.path hx).2]at hj;exact jA.2 ⟨_,YC hx hj,rfl⟩
 near a k j hm hj:=by obtain⟨s,hs,e⟩:=jA.1 hm;obtain⟨x,hx,i,hi,rfl⟩:=Zg hs;cases e;rw[(h.nice.path hx).2]at hj ⊢;have:=zN (p:=p) (a:=x);exact Yv (Yg h.nice hx _ (zL Ω))
 ne a k hm:=by obtain⟨s,hs,e⟩:=jA.1 hm;obtain⟨x,hx,i,hi,rfl⟩:=Zg hs;cases e;rw[(h.nice.path hx).2];exact h.ne hs
 meet a k b j hm hm2 hne ht:=by obtain⟨s,hs,e⟩:=jA.1 hm;obtain⟨x,hx,i,hi,rfl⟩:=Zg hs;cases e;obtain⟨t,hs2,e⟩:=jA.1 hm2;obtain⟨y,hy,i2,hi2,rfl⟩:=Zg hs2;cases e;rw[(h.nice.path hx).2,(h.nice.path hy).2]at ht ⊢;have gs:=h.good hs;have gt:=h.good hs2;have htm:=zar gs.a gs.b gt.a gt.b (h.ne hs) ht;obtain⟨h1,h2⟩:=h.meet hs hs2 (fun e1 e2=>hne (Prod.ext e1 e2)) htm.1;exact⟨h2,fun c1 c2=>(htm.2 c1 c2).symm.trans h1⟩
 via a k b j hm hm2 hk0 hk hj he:=by obtain⟨s,hs,e⟩:=jA.1 hm;obtain⟨x,hx,i,hi,rfl⟩:=Zg hs;cases e;obtain⟨t,hs2,e⟩:=jA.1 hm2;obtain⟨y,hy,i2,hi2,rfl⟩:=Zg hs2;cases e;rw[(h.nice.path hx).2]at hk he;rw[(h.nice.path hy).2]at hj he;obtain⟨e1,e2⟩:=h.via hx hy hk0 hk hj he;exact⟨by rw[e1],e2⟩
theorem AX{o p:Pt}:lss o p p=false:=by
 cases h:lss o p p
 ·rfl
 ·exact(Zw h h).elim
theorem Net.ring(N:Net){o:Pt}(ho:o.near)(hv:¬ ∃ a k,(a,0)∈N.E/\0<k/\k<N.len a/\N.pt a k=o):∃ l:List Int,(∀ e,e∈l↔N.eY e/\N.sp e=o)/\l.Pairwise (fun a b=>lss o (N.sc a) (N.sc b)=true):=by
 obtain⟨PI,bK,hd⟩:=zco (fun i=>(N.drawn.B i).h-(N.drawn.A i).h) (fun i=>N.drawn.hne i);obtain⟨R1,R2,hR,hless⟩:=N.drawn.vS bK hd (o:=o) (m:=o.h) ho rfl;have gP:∀ z,z∈(N.drawn.bn bK hd).bk.ring o.h->N.drawn.gP z=o:=fun z hz=>SV (N.drawn.kK z).1 ho ((N.drawn.jJ bK hd).1 hz);have hin:∀ z:Dt (Ix N.E.length),(N.E[z.s].1,0)∈N.E:=fun z=>N.first (N.get_mem z.s);have key:∀ z,z∈(N.drawn.bn bK hd).bk.ring o.h->N.eY (N.bE z)/\N.sp (N.bE z)=o/\N.sc (N.bE z)=N.drawn.to z:=fun z hz=>by
  have e:=gP z hz;have hm:=N.mem _ _ (N.get_mem z.s);unfold Net.eY Net.sp Net.sc Net.bE;cases hf:N.fwd z
  ·obtain⟨e1,e2⟩:=N.kj hf;rw[e1]at e;have hk:N.E[z.s].2+1=N.len N.E[z.s].1:=by
    by_cases hk:N.E[z.s].2+1<N.len N.E[z.s].1
    ·exact absurd ⟨_,_,hin z,Ω,hk,e⟩ hv
    ·omega
   simp only[l7,if_false,tA];rw[bC Ω,bC Ω,←hk,e2];exact⟨.inr (hin z),e,Ψ⟩
  ·obtain⟨e1,e2⟩:=N.j9 hf;rw[e1]at e;have hk:N.E[z.s].2=0:=by
    by_cases hk:0<N.E[z.s].2
    ·exact absurd ⟨_,_,hin z,hk,hm.2,e⟩ hv
    ·omega
   simp only[if_true];rw[bt Ω,bt Ω,e2,hk];rw[hk]at e;exact⟨.inl (hin z),e,rfl⟩
 have hmem:∀ z,z∈R2++R1↔z∈(N.drawn.bn bK hd).bk.ring o.h:=fun z=>by rw[hR,og,og];exact Or.comm
 refine⟨(R2++R1).map N.bE,fun e=>⟨fun he=>?_,fun⟨hde,hsp⟩=>?_⟩,?_⟩
 ·obtain⟨z,hz,rfl⟩:=jA.1 he;obtain⟨k1,k2,_⟩:=key z ((hmem z).1 hz);exact⟨k1,k2⟩
 ·rcases hde with hde|hde
  ·have hp:=(N.mem _ _ hde).1;obtain⟨z,z1,z2⟩:=N.ex hde true;refine jA.2 ⟨z,(hmem z).2 ((N.drawn.jJ bK hd).2 ?_),?_⟩
   ·unfold Net.sp at hsp;rw[bt hp]at hsp;rw[(N.j9 z2).1,z1,hsp]
   ·unfold Net.bE;rw[z2,bt rfl,z1]
  ·have hp:=(N.mem _ _ hde).1;have hl:=(N.mem _ _ hde).2;obtain⟨z,z1,z2⟩:=N.ex (N.whole _ _ (N.len (-e)-1) hde Ω) false;refine jA.2 ⟨z,(hmem z).2 ((N.drawn.jJ bK hd).2 ?_),?_⟩
   ·unfold Net.sp at hsp;rw[bC Ω]at hsp;rw[(N.kj z2).1,z1];simp only;rw[show N.len (-e)-1+1=N.len (-e) by omega,hsp]
   ·unfold Net.bE;rw[z2,bC Δ,z1];simp only[tA]
 ·rw[qO];refine hless.imp_of_mem fun{a b} ha hb aq=>?_;rw[(key a ((hmem a).1 ha)).2.2,(key b ((hmem b).1 hb)).2.2];exact aq
theorem JB{C:Call}{d n:Nat}{ah:bR}{a b c:IC}{K:fP}{st:St}(h:Ex C d ah n (.seq a b) (andThen (Ex C d ah n c K) K) st):Ex C d ah n (.seq a (.seq b c)) K st:=by
 rw[zez]at h ⊢;refine h.mono fun o st' ho=>?_;cases o with
 |normal =>
  have A7:Ex C d ah n b (andThen (Ex C d ah n c K) K) st':=ho
  show Ex C d ah n (.seq b c) K st'
  rw[zez]
  exact A7
 |ret=>exact ho
 |exit id=>exact ho
section
variable {S:cZ}
theorem Vw(hS:bN S)(c:Pt)(to:List Pt)(hl:to.length<=300000){m d:Nat}{ah:bR}(hm:to.length+12<=m){K:fP}(t:List IV)(Q J:aU)(tv dv lv:IV)(ds xs:List Int)(hdl:ds.length=to.length)(hxl:xs.length<to.length)(n0:Int)
  (Qh:Q[2]?=some (aI [aG aH n0,aG aH c.x,aG aH c.y])) (hD:MV aL 1 d Q dv ds) (hT:MV Pt.c 2 d Q tv to) (hO:cg aL 1 d Q.length J lv xs) (af:aN 127 t [(5,.ptrM d 2 0),(7,dv),(9,tv),(11,lv)])
  (hK:∀ t' J' dR z,pick ds (s7 (gu c) to) xs.length=some z->cg aL 1 d Q.length J' dR (xs++[z])->aN 127 t' [(5,.ptrM d 2 0),(7,dv),(9,tv),(11,dR)]->K .normal ⟨t',Q++J'⟩)
  (hR:∀ t' O',pick ds (s7 (gu c) to) xs.length=none->aN 127 t' [(4,.nilsl)]->K .ret ⟨t',O'⟩) :
  Ex (aM aR S m) d ah m (i209.body.sub [1,1,1,1,1,1,1,1,0,0,0,1]) K ⟨t,Q++J⟩:=by
 have Jk:=fun K t J i x hx af hK=>@J8 S hS c to hl m d ah Ω K t Q J tv dv lv ds hdl i x hx n0 Qh hD hT af hK
 rw[show i209.body.sub [1,1,1,1,1,1,1,1,0,0,0,1]=.block 5 (.seq (i209.body.sub [1,1,1,1,1,1,1,1,0,0,0,1,0,0]) (.block 6 (.loop (.seq (.seq (i209.body.sub [1,1,1,1,1,1,1,1,0,0,0,1,0,1,0,0,0,0]) (i209.body.sub [1,1,1,1,1,1,1,1,0,0,0,1,0,1,0,0,0,1])) (.seq (.block 7 (.seq (i209.body.sub [1,1,1,1,1,1,1,1,0,0,0,1,0,1,0,0,1,0,0,0]) (.seq (i209.body.sub [1,1,1,1,1,1,1,1,0,0,0,1,0,1,0,0,1,0,0,1,0]) (i209.body.sub [1,1,1,1,1,1,1,1,0,0,0,1,0,1,0,0,1,0,0,1,1])))) (i209.body.sub [1,1,1,1,1,1,1,1,0,0,0,1,0,1,0,0,1,1]))))))from rfl]
 have hG:∀(K:fP)(t:List IV)(J:aU)(lv:IV)(i:Nat)(x:Pt),to[i]?=some x->aN 127 t [(5,.ptrM d 2 0),(7,dv),(9,tv),(11,lv),(12,iv i)]->(∀ t' R,aN 127 t' [(5,.ptrM d 2 0),(7,dv),(9,tv),(11,lv),(12,iv i),(13,iv (qB (gu c) to x to.length:Nat))]->Ex (aM aR S m) d ah m (i209.body.sub [1,1,1,1,1,1,1,1,0,0,0,1,0,1,0,0,1,0,0,1,1]) K ⟨t',Q++(J++R)⟩)->Ex (aM aR S m) d ah m (.seq (i209.body.sub [1,1,1,1,1,1,1,1,0,0,0,1,0,1,0,0,1,0,0,0]) (.seq (i209.body.sub [1,1,1,1,1,1,1,1,0,0,0,1,0,1,0,0,1,0,0,1,0]) (i209.body.sub [1,1,1,1,1,1,1,1,0,0,0,1,0,1,0,0,1,0,0,1,1]))) K ⟨t,Q++J⟩:=fun K t J lv i x hx af hK=>JB (@J8 S hS c to hl m d ah Ω _ t Q J tv dv lv ds hdl i x hx n0 Qh hD hT af hK)
 clear Jk
 generalize IC.seq (i209.body.sub [1,1,1,1,1,1,1,1,0,0,0,1,0,1,0,0,1,0,0,0]) (.seq (i209.body.sub [1,1,1,1,1,1,1,1,0,0,0,1,0,1,0,0,1,0,0,1,0]) (i209.body.sub [1,1,1,1,1,1,1,1,0,0,0,1,0,1,0,0,1,0,0,1,1]))=G at hG ⊢
 have sG:=fun{D:Nat}{ah:bR}{aK aa:aU}=>hD.len (D:=D) (ah:=ah) (aK:=aK) (aa:=aa)
 rw[hdl]at sG
 have WD:∀{J lv} {xs:List Int},cg aL 1 d Q.length J lv xs->∀{D:Nat}{ah:bR}{aK aa:aU},jL D ah aK aa 1 lv=some (.p,aG aH (xs.length:Nat),aa):=fun h=>(zfh h).len
 have hlx:=fun{D:Nat}{ah:bR}{aK aa:aU}=>WD hO (D:=D) (ah:=ah) (aK:=aK) (aa:=aa)
 simp only[zb,zc]at af
 simp only[i209,IC.sub,V0]
 have hrl:(s7 (gu c) to).length=to.length:=ig ..
 have hri:∀(i:Nat)(x:Pt),to[i]?=some x->(s7 (gu c) to)[i]?=some (qB (gu c) to x to.length):=fun i x hx=>by unfold s7;rw[k9,hx];rfl
 refine ze (fun jj st=>∃(i:Nat)(R:aU),to.length-1-i<=jj/\i<to.length/\(∀ j r,j<i->(s7 (gu c) to)[j]?=some r->r≠xs.length)/\st.aa=Q++(J++R)/\aN 127 st.t [(5,.ptrM d 2 0),(7,dv),(9,tv),(11,lv),(12,iv i)]) to.length Ω ⟨0,[],Ω,Ω,fun j r h=>absurd h (zm4 _),Ψ,by simp only[V0,Xa,Xe,af,eU]⟩ ?_
 clear af
 rintro jj ⟨t,aa⟩ KA ⟨i,R,hjj,hi,Gq,ho,af⟩ bV cS dA
 dsimp only at ho af
 subst ho
 simp only[V3]at af
 obtain⟨x,hx⟩:=gx (l:=to) (i:=i) hi
 have kM:=hri i x hx
 simp only[V0,Xa,Xe,af,sG,hi]
 refine hG _ _ _ lv i x hx (by simp only[V0,Xe,af]) fun t' R2 ht=>?_
 clear af
 simp only[V3]at ht
 generalize hrk:qB (gu c) to x to.length=r at ht kM
 have dX:cg aL 1 d Q.length (J++(R++R2)) lv xs:=hO.more _
 simp only[kR]
 generalize hJ2:J++(R++R2)=J2 at dX ⊢
 have jD:=fun{D:Nat}{ah:bR}{aK aa:aU}=>WD dX (D:=D) (ah:=ah) (aK:=aK) (aa:=aa)
 cases g1:r==xs.length
 ·have hne:¬ r=xs.length:=by simpa using g1
  have LP:(((r:Nat):Int)==((xs.length:Nat):Int))=false:=by simp;omega
  have WB:∀ j r,j<i+1->(s7 (gu c) to)[j]?=some r->r≠xs.length:=fun j r' hj hr=>by
   by_cases hji:j<i
   ·exact Gq j r' hji hr
   ·obtain rfl:j=i:=Ω;rw[kM]at hr;cases hr;exact hne
  by_cases qn:i=to.length-1
  ·have PF:aT .i64 (((to.length:Nat):Int)-1)=((to.length:Nat):Int)-1:=zD rfl Ω Ω
   have hle:((i:Int)==((to.length:Nat):Int)-1)=true:=by simp;omega
   simp only[i209,IC.sub,V0,Xa,Xe,ht,jD,LP,sG,PF,hle]
   refine dA _ ?_
   simp only[V0]
   refine hR _ _ ?_ (by simp only[V0,Xa,ht])
   unfold pick
   have:(s7 (gu c) to).findIdx? (fun x=>x==xs.length)=none:=by rw[Ks];intro r' hr';obtain⟨j,hj,rfl⟩:=SB.1 hr';have:=WB j _ (by rw[hrl]at hj;omega) (cK hj);simpa using this
   rw[this]
   rfl
  ·have PF:aT .i64 (((to.length:Nat):Int)-1)=((to.length:Nat):Int)-1:=zD rfl Ω Ω
   have hle:((i:Int)==((to.length:Nat):Int)-1)=false:=by simp;omega
   have hw:=zq i
   simp only[i209,IC.sub,V0,Xa,Xe,ht,jD,LP,sG,PF,hle,hw]
   exact bV _ (to.length-1-(i+1)) Ω ⟨i+1,R++R2,Ω,Ω,WB,by rw[hJ2],by simp only[V0,Xa,Xe,ht]⟩
 ·have heq:r=xs.length:=by simpa using g1
  have heq2:(((r:Nat):Int)==((xs.length:Nat):Int))=true:=by simp;omega
  rcases hD with⟨rfl,rfl⟩|⟨b,hne,rfl,hb⟩
  ·simp at hdl;omega
  have hid:i<ds.length:=Ω
  obtain⟨z,hz⟩:=gx (l:=ds) (i:=i) hid
  have hrz:bM (ds.flatMap aL) (i*1) 1=some [aG aH z]:=zd zf 0 1 hz Ω
  obtain⟨e,dR,J3,b9,Ur⟩:=zM (n0:=Q.length+J2.length) (slot:=0) (k:=0) (ah:=ah) (R:=[.free]) zf dX (ys:=[z]) Ψ (by simp only[cu,dw];omega) Ω rfl rfl
  simp only[fJ,lz,aL,zg,cu,dw,iL,fO]at b9
  have hpk:pick ds (s7 (gu c) to) xs.length=some z:=by
   unfold pick;have:(s7 (gu c) to).findIdx? (fun x=>x==xs.length)=some i:=by rw[Kt];obtain⟨hil,hie⟩:=cU.1 kM;refine⟨hil,by rw[hie];exact g1,fun j hj=>?_⟩;have:=Gq j _ hj (cK Ω);simpa using this
   rw[this,jG,hz]
  simp only[i209,IC.sub,V0,Xa,Xe,ht,jD,heq2,hid,zm,OM hb,hrz,rep,zh,zk,zo,zu,b9]
  refine cS _ _ ?_
  simp only[V0,Xe]
  exact hK _ J3 dR z hpk Ur (by simp only[V0,Xa,Xe,ht])
end
end
section
variable {α:Type} {r:α->α->Int}
def Pre(r:α->α->Int)(xs:List α)(a c:Nat):Prop:=∀ k x y,0<a->a<=k->k<c->xs[a-1]?=some x->xs[k]?=some y->¬ r y x<0
end
def iJ(n:Int):List Int->List Int
 |[]=>[n]
 |x::l=>if x<n then x::iJ n l else if x=n then x::l else n::x::l
def B7(l:List Int):List Int:=l.foldl (fun o n=>iJ n o) []
theorem AU{n y:Int}:∀{l:List Int},y∈iJ n l↔y=n∨y∈l
 |[]=>by simp[iJ]
 |x::l=>by
  unfold iJ;split
  ·rw[fF,AU,fF];constructor
   ·rintro(h|h|h)
    ·exact .inr (.inl h)
    ·exact .inl h
    ·exact .inr (.inr h)
   ·rintro(h|h|h)
    ·exact .inr (.inl h)
    ·exact .inl h
    ·exact .inr (.inr h)
  ·split
   ·rename_i h;subst h;rw[fF];constructor
    ·exact fun h=>.inr h
    ·rintro(h|h)
     ·exact .inl h
     ·exact h
   ·rw[fF]
theorem J5{n:Int}:∀{l:List Int},l.Pairwise (·<·)->(iJ n l).Pairwise (·<·)
 |[],_=>by simp[iJ]
 |x::l,h=>by
  have h2:=Cb.1 h;unfold iJ;split
  ·rw[Cb];refine⟨fun y hy=>?_,J5 h2.2⟩;rcases AU.1 hy with rfl|hy
   ·assumption
   ·exact h2.1 y hy
  ·split
   ·exact h
   ·rw[Cb];refine⟨fun y hy=>?_,h⟩;rcases fF.1 hy with rfl|hy
    ·omega
    ·have:=h2.1 y hy;omega
theorem Dg{l:List Int}:∀{o:List Int},o.Pairwise (·<·)->(l.foldl (fun o n=>iJ n o) o).Pairwise (·<·)/\∀ y,y∈l.foldl (fun o n=>iJ n o) o↔y∈o∨y∈l:=by
 induction l with
 |nil=>exact fun h=>⟨h,fun y=>by simp⟩
 |cons x l ih =>
  intro o h
  obtain⟨h1,h2⟩:=ih (J5 (n:=x) h)
  refine⟨h1,fun y=>?_⟩
  rw[Xz,h2,AU,fF]
  constructor
  ·rintro((h|h)|h)
   ·exact .inr (.inl h)
   ·exact .inl h
   ·exact .inr (.inr h)
  ·rintro(h|h|h)
   ·exact .inl (.inr h)
   ·exact .inl (.inl h)
   ·exact .inr h
theorem AN(l:List Int):(B7 l).Pairwise (·<·):=(Dg .nil).1
theorem I5{l:List Int}{y:Int}:y∈B7 l↔y∈l:=by have:=(Dg (l:=l) .nil).2 y;simpa[B7]using this
theorem BD:∀{l l':List Int},l.Pairwise (·<·)->l'.Pairwise (·<·)->(∀ y,y∈l↔y∈l')->l=l'
 |[],[],_,_,_=>rfl
 |[],y::l',_,_,h=>by have:=(h y).2 (kB ..);simp at this
 |x::l,[],_,_,h=>by have:=(h x).1 (kB ..);simp at this
 |x::l,y::l',h1,h2,h=>by
  have g1:=Cb.1 h1;have g2:=Cb.1 h2;have hxy:x=y:=by
   rcases fF.1 ((h x).1 (kB ..))with e|e
   ·exact e
   ·rcases fF.1 ((h y).2 (kB ..))with e2|e2
    ·exact e2.symm
    ·have a1:=g1.1 y e2;have a2:=g2.1 x e;omega
  subst hxy;congr 1;refine BD g1.2 g2.2 fun z=>?_;constructor
  ·intro hz;rcases fF.1 ((h z).1 (nk _ hz))with rfl|e
   ·have:=g1.1 z hz;omega
   ·exact e
  ·intro hz;rcases fF.1 ((h z).2 (nk _ hz))with rfl|e
   ·have:=g2.1 z hz;omega
   ·exact e
section
open Go Go.RowKit
theorem LX{α:Type}{g:α->List IV}{sz:Nat}(hg:∀ a,(g a).length=sz){l:List α}{i:Nat}(h:i<=l.length):(l.flatMap g).take (i*sz)=(l.take i).flatMap g:=by
 conv=>lhs;rw[←Fu i l,B6]
 rw[List.take_left' (by rw[zl hg,k8,qu h])]
theorem LY{α:Type}{g:α->List IV}{sz:Nat}(hg:∀ a,(g a).length=sz){l:List α}{i:Nat}(h:i<=l.length):(l.flatMap g).drop (i*sz)=(l.drop i).flatMap g:=by
 conv=>lhs;rw[←Fu i l,B6]
 rw[List.drop_left' (by rw[zl hg,k8,qu h])]
theorem N8{sz:Nat}{α:Type}{g:α->List IV}(hg:∀ a,(g a).length=sz)(q:aS sz g){i:Nat}(h:i<=q.l.length)(h0:q.l.length≠0):∃ q2:aS sz g,q2.l=q.l.drop i/\∀(t:List IV)(x:bG),ρ t x=aG aH (i:Int)->eS sz t q.v (some x) none none=some q2.v:=by
 have hh:∀(cs:List IV)(n:Nat)(v:IV),Sl sz cs n v->n≠0->i<=n->∃ tight,∀(t:List IV)(x:bG),ρ t x=aG aH (i:Int)->eS sz t v (some x) none none=some (.slC ((cs.drop (i*sz)).take ((n-i)*sz)) (n-i) sz tight):=fun cs n v hs hn hi=>by
  cases hs with
  |nil=>exact absurd rfl hn
  |row cs n tight hl =>
   refine⟨tight&&n==n,fun t x hx=>?_⟩
   simp only[eS,lC,hx,zX,zi,SQ,l7,if_false]
   rw[bt ⟨⟨dz _,dz _,hi⟩,trivial⟩]
 obtain⟨tight,h1⟩:=hh _ _ _ q.ok h0 h;have e:((q.l.flatMap g).drop (i*sz)).take ((q.l.length-i)*sz)=(q.l.drop i).flatMap g:=by rw[LY hg h,gj];rw[zl hg,tD];exact dz _
 refine⟨iV hg (q.l.drop i) (q.l.length-i) tight (by rw[tD]) (by have:=q.gC;omega),rfl,fun t x hx=>?_⟩;rw[h1 t x hx,e];rfl
section
variable {S:cZ}
theorem Qs(a b:IV):(if 1<=(rep [a] 1).length then some (gV (rep [a] 1) 0 [b])else none)=some [b]:=rfl
theorem IY(xs:List Int):(B7 xs).length<=xs.length:=by
 have h:∀(xs o:List Int),(xs.foldl (fun o n=>iJ n o) o).length<=o.length+xs.length:=fun xs=>by
  induction xs with
  |nil=>intro o;simp
  |cons x xs ih =>
   intro o
   have h1:=ih (iJ x o)
   have h2:∀ o:List Int,(iJ x o).length<=o.length+1:=fun o=>by
    induction o with
    |nil=>simp[iJ]
    |cons y o ih2 =>
     unfold iJ
     split
     ·simp only[cu];omega
     ·split<;>simp only[cu]<;>omega
   have h3:=h2 o
   simp only[Xz,cu]
   omega
 have:=h xs [];simpa[B7]using this
end
structure DK where
 sz:Nat
 z:List IV
 idx:FuncId
 ids:FuncId
 eqn:FuncId
 dif:FuncId
theorem wu{d n0 b:Nat}{ah:bR}{vis:List Nat}{aa:aU}(h:b<n0∨vis.contains (b-n0)=true):look d ah (b7 vis n0 aa) d b=aa[b]?:=by
 unfold look;rw[bt rfl,zp];have hc:(decide (b<n0)||vis.contains (b-n0))=true:=by
  rcases h with h|h
  ·simp[h]
  ·rw[h,Kq]
 cases aa[b]? with
 |none=>rfl
 |some o=>simp only[gH,hc,if_true]
section
variable {S:cZ}
theorem ae9(a:Nd):∀ x∈a.c,Fz 6 x:=fun x hx=>by refine SD (n:=6) ?_;simp only[Nd.c,zg,fF,j4,k7]at hx;rcases hx with rfl|rfl|rfl<;>rfl
theorem ab2(a:Ac):∀ x∈a.c,Fz 6 x:=fun x hx=>by refine SD (n:=6) ?_;simp only[Ac.c,zg,fF,j4,k7]at hx;rcases hx with rfl|rfl|rfl|rfl|rfl|rfl<;>first|rfl|exact OS a.via 4
end
end
end Go.Proofs.YtdacpmgnhkmnkaaGreatDoor
end
