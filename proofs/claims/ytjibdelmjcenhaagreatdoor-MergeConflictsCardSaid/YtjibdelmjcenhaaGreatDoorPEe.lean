/-
  A part of the proof: the small machine, its simulation and its walks.
-/
import Derived.Test.YtjibdelmjcenhaaGreatDoorPEc
import Derived.Test.YtjibdelmjcenhaaGreatDoorPEd
set_option linter.unusedVariables false
set_option linter.unusedSimpArgs false
set_option linter.unusedSectionVars false
set_option linter.defProp false
set_option maxRecDepth 1000000
set_option maxHeartbeats 3200000
open Nat renaming reduceLT → Xa, reduceAdd → Xb, reduceMul → Xc, reduceLeDiff → Xd, reduceEqDiff → Xe
open Go.Proofs.YtjibdelmjcenhaaGreatDoor.IV renaming int → aF
open Go.Proofs.YtjibdelmjcenhaaGreatDoor.aP renaming cells → aH
open Go.IntKind renaming i64 → aG
noncomputable section
namespace Go.Proofs.YtjibdelmjcenhaaGreatDoor
section
open Go Go.RowKit
theorem zbs{l:List Nd}(h:lF l=false){a b:Nd}(ha:a∈l)(hb:b∈l)(hx:a.at'.x=b.at'.x)(hy:a.at'.y=b.at'.y):a.id=b.id:=by
 obtain⟨i,hi,rfl⟩:=RO.1 ha;obtain⟨j,hj,rfl⟩:=RO.1 hb;have key:∀(i j:Nat)(hi:i<l.length)(hj:j<l.length),i<j->l[i].at'.x=l[j].at'.x->l[i].at'.y=l[j].at'.y->False:=fun i j hi hj hij hx hy=>by
  have h1:=ES.1 h (l[j],j) (by
   grind)
  simp only[Bj,not_exists,not_and]at h1;refine h1 l[i] ?_ ?_
  .rw[RO];grind
  .simp[dR,hx,hy]
 grind
def kH(p:Pn)(a:Ac)(k:Nat):Sp:=⟨a.id,a.fr,a.to,k,(bC p a).length-1,(bC p a).getD k fS,(bC p a).getD (k+1) fS⟩
variable {s t:Sp}
theorem zbt(hap:iH s t=true)(hm:s.cM t≠0):(t.k=s.k+1/\s.cM t=1)∨(s.k=0/\t.k=t.n-1/\s.fr=s.to/\s.cM t=1):=by unfold iH at hap;grind
variable {a:Ac}{j k:Nat}
section
variable {p:Pn} (h:aX p)
include h
theorem aX.apart(hs:s∈ey p)(ht:t∈ey p)(hid:s.id=t.id)(hk:s.k<t.k):iH s t=true:=by
 have hr:=h.rel hs ht fun _=>by omega
 unfold me at hr;grind
theorem aX.V4(hs:s∈ey p)(ht:t∈ey p)(hid:s.id≠t.id)(hm:s.cM t≠0):∃ x∈p.ns.l,Go.Proofs.YtjibdelmjcenhaaGreatDoor.jx s x=true/\Go.Proofs.YtjibdelmjcenhaaGreatDoor.jx t x=true:=by
 have hr:=h.rel hs ht fun e=>absurd e hid;unfold me at hr;rw[beq_eq_false_iff_ne.2 hid,bT]at hr;unfold gC at hr;cases hm1:s.cM t==1
 .grind
 .rw[hm1,bV]at hr;let⟨x,hx,hj⟩:=Bj.1 hr;unfold gI at hj;simp[kE]at hj;exact⟨x,hx,h.jx hs hx hj.2.2.1,h.jx ht hx hj.2.2.2⟩
theorem aX.nw(hs:s∈ey p)(ht:t∈ey p){P:Pt}(h1:P=s.A∨P=s.B)(h2:P=t.A∨P=t.B):s.cM t≠0:=by have gs:=h.good hs;have gt:=h.good ht;exact Qf gs.a gs.b gt.a gt.b (fun e=>by have:=gs.ne;rw[e,ZU.2 rfl]at this;grind) h1 h2
theorem aX.twin(hs:s∈ey p)(ht:t∈ey p)(h1:s.A=t.B)(h2:s.B=t.A):s.cM t=2:=by have gs:=h.good hs;have gt:=h.good ht;exact Kf gs.a gs.b gt.a gt.b (fun e=>by have:=gs.ne;rw[e,ZU.2 rfl]at this;grind) (.inr ⟨h1,h2⟩)
theorem aX.ne(hs:s∈ey p):s.A≠s.B:=fun e=>by have:=(h.good hs).ne;rw[e,ZU.2 rfl]at this;grind
theorem aX.via{b:Ac}(ha:a∈p.az.l)(hb:b∈p.az.l)(hk0:0<k)(hk:k<(bC p a).length-1)(hj:j<=(bC p b).length-1)(he:(bC p b).getD j fS=(bC p a).getD k fS):b=a/\j=k:=by
 have th:=yv (p:=p) (a:=b);have m1:kH p a (k-1)∈ey p:=YT ha Z;have m2:kH p a k∈ey p:=YT ha hk;have e1:(kH p a (k-1)).B=(bC p a).getD k fS:=by show(bC p a).getD (k-1+1) fS=_;grind
 have e2:(kH p a k).A=(bC p a).getD k fS:=rfl;by_cases hid:b.id=a.id
 .have hba:b=a:=ZN h.nice.Rq hb ha hid;subst hba;refine⟨rfl,?_⟩;rcases zmo j k with hjk|hjk|hjk
  .exfalso;have mu:kH p b j∈ey p:=YT hb Z;have eu:(kH p b j).A=(bC p b).getD k fS:=he;by_cases hj1:j=k-1
   .subst hj1;exact h.ne m1 (eu.trans e1.symm)
   .rcases zbt (h.apart mu m2 rfl (show j<k by omega)) (h.nw mu m2 (.inl eu.symm) (.inl e2.symm))with⟨c1,_⟩|⟨c1,c2,_,_⟩
    .have c1:k=j+1:=c1;omega
    .rcases zbt (h.apart mu m1 rfl (show j<k-1 by omega)) (h.nw mu m1 (.inl eu.symm) (.inr e1.symm))with⟨d1,d2⟩|⟨_,d2,_,_⟩
     .have d1:k-1=j+1:=d1;have:=h.twin mu m1 (eu.trans e1.symm) (by show(bC p b).getD (j+1) fS=(bC p b).getD (k-1) fS;grind);omega
     .have d2:k-1=(bC p b).length-1-1:=d2;omega
  .omega
  .exfalso;have mu:kH p b (j-1)∈ey p:=YT hb Z;have eu:(kH p b (j-1)).B=(bC p b).getD k fS:=by show(bC p b).getD (j-1+1) fS=_;grind
   by_cases hj1:j-1=k
   .rw[hj1]at eu;exact h.ne m2 (e2.trans eu.symm)
   .rcases zbt (h.apart m1 mu rfl (show k-1<j-1 by omega)) (h.nw m1 mu (.inr e1.symm) (.inr eu.symm))with⟨c1,_⟩|⟨c1,c2,_,_⟩
    .have c1:j-1=k-1+1:=c1;omega
    .have c1:k-1=0:=c1;have c2:j-1=(bC p b).length-1-1:=c2;rcases zbt (h.apart m2 mu rfl (show k<j-1 by omega)) (h.nw m2 mu (.inl e2.symm) (.inr eu.symm))with⟨d1,d2⟩|⟨d1,_,_,_⟩
     .have d1:j-1=k+1:=d1;have:=h.twin m2 mu (e2.trans eu.symm) (by show(bC p b).getD (k+1) fS=(bC p b).getD (j-1) fS;grind);omega
     .have d1:k=0:=d1;omega
 .exfalso;let⟨t,mt,tid,tP⟩:∃ t∈ey p,t.id=b.id/\((bC p a).getD k fS=t.A∨(bC p a).getD k fS=t.B):=by
   by_cases hjl:j<(bC p b).length-1
   .exact⟨kH p b j,YT hb hjl,rfl,.inl he.symm⟩
   .refine⟨kH p b (j-1),YT hb Z,rfl,.inr ?_⟩;show _=(bC p b).getD (j-1+1) fS;grind
  let⟨x1,hx1,f1,g1⟩:=h.V4 m1 mt (fun e=>hid (tid.symm.trans e.symm)) (h.nw m1 mt (.inr e1.symm) tP);let⟨x2,hx2,f2,g2⟩:=h.V4 m2 mt (fun e=>hid (tid.symm.trans e.symm)) (h.nw m2 mt (.inl e2.symm) tP);have nt:=h.ne mt;rcases h.sJ m1 hx1 f1 with⟨r1,r2,r3⟩|⟨r1,_,_⟩
  .rcases h.sJ m2 hx2 f2 with⟨q1,_,_⟩|⟨q1,q2,q3⟩
   .have q1:k=0:=q1;omega
   .have r1:k-1=0:=r1;have q1:k+1=(bC p a).length-1:=q1;have w1:x1.at'=t.A∨x1.at'=t.B:=by
     rcases h.sJ mt hx1 g1 with⟨_,_,e⟩|⟨_,_,e⟩
     .grind
     grind
    have w2:x2.at'=t.A∨x2.at'=t.B:=by
     rcases h.sJ mt hx2 g2 with⟨_,_,e⟩|⟨_,_,e⟩
     .grind
     grind
    have v1:x1.at'≠(bC p a).getD k fS:=fun e=>(h.ne m1) (r3.trans (e.trans e1.symm));have v2:x2.at'≠(bC p a).getD k fS:=fun e=>(h.ne m2) (e2.trans (e.symm.trans q3.symm));have RW:x1.at'=x2.at':=by
     rcases tP with tP|tP<;>rw[tP]at v1 v2<;>rcases w1 with w1|w1<;>rcases w2 with w2|w2
     .grind
     .grind
     .grind
     .grind
     .grind
     .grind
     .grind
     grind
    have ahj:x1.id=x2.id:=zbs h.pts hx1 hx2 (by grind) (by grind);have hft:a.fr=a.to:=by have r2:a.fr=x1.id:=r2;have q2:a.to=x2.id:=q2;omega
    have:=h.acj m2 hft;have:3<=(bC p a).length-1:=this;omega
  .have r1:k-1+1=(bC p a).length-1:=r1;omega
end
def aX.eH{p:Pn}(h:aX p):Net where
 E:=(ey p).map fun s=>(s.id,s.k)
 len a:=(dW p a).length-1
 pt a k:=(dW p a).getD k fS
 nodup:=by
  rw[List.Nodup,rE];exact(zcr h.nice).imp fun{s t} hst e=>by grind
 mem a k hm:=by let⟨s,hs,e⟩:=kO.1 hm;obtain⟨x,hx,j,hj,rfl⟩:=Zh hs;cases e;rw[(h.nice.path hx).2];have:=h.pid x hx;grind
 whole a k j hm hj:=by let⟨s,hs,e⟩:=kO.1 hm;obtain⟨x,hx,i,hi,rfl⟩:=Zh hs;cases e;rw[(h.nice.path hx).2]at hj;exact kO.2 ⟨_,YT hx hj,rfl⟩
 near a k j hm hj:=by let⟨s,hs,e⟩:=kO.1 hm;obtain⟨x,hx,i,hi,rfl⟩:=Zh hs;cases e;rw[(h.nice.path hx).2]at hj ⊢;exact Xn (Yh h.nice hx _ (yb Z))
 ne a k hm:=by let⟨s,hs,e⟩:=kO.1 hm;obtain⟨x,hx,i,hi,rfl⟩:=Zh hs;cases e;rw[(h.nice.path hx).2];exact h.ne hs
 meet a k b j hm hm2 hne ht:=by let⟨s,hs,e⟩:=kO.1 hm;obtain⟨x,hx,i,hi,rfl⟩:=Zh hs;cases e;let⟨t,hs2,e⟩:=kO.1 hm2;obtain⟨y,hy,i2,hi2,rfl⟩:=Zh hs2;cases e;rw[(h.nice.path hx).2,(h.nice.path hy).2]at ht ⊢;have gs:=h.good hs;have gt:=h.good hs2;have htm:=zaw gs.a gs.b gt.a gt.b (h.ne hs) ht;let⟨h1,h2⟩:=h.meet hs hs2 (fun e1 e2=>hne (Prod.ext e1 e2)) htm.1;exact⟨h2,fun c1 c2=>(htm.2 c1 c2).symm.trans h1⟩
 via a k b j hm hm2 hk0 hk hj he:=by let⟨s,hs,e⟩:=kO.1 hm;obtain⟨x,hx,i,hi,rfl⟩:=Zh hs;cases e;let⟨t,hs2,e⟩:=kO.1 hm2;obtain⟨y,hy,i2,hi2,rfl⟩:=Zh hs2;cases e;rw[(h.nice.path hx).2]at hk he;rw[(h.nice.path hy).2]at hj he;let⟨e1,e2⟩:=h.via hx hy hk0 hk hj he;grind
theorem xH{o p:Pt}:lss o p p=false:=by
 cases h:lss o p p
 .rfl
 .exact(zab h h).elim
theorem Net.ring(N:Net){o:Pt}(ho:o.near)(hv:¬ ∃ a k,(a,0)∈N.E/\0<k/\k<N.len a/\N.pt a k=o):∃ l:List Int,(∀ e,e∈l↔N.gY e/\N.sp e=o)/\l.Pairwise (fun a b=>lss o (N.sc a) (N.sc b)=true):=by
 let⟨PI,fD,hd⟩:=LU (fun i=>(N.drawn.B i).h-(N.drawn.A i).h) (fun i=>N.drawn.hne i);obtain⟨R1,R2,hR,hless⟩:=N.drawn.KH fD hd (o:=o) (m:=o.h) ho rfl;have hin:∀ z:Dt (Ix N.E.length),(N.E[z.s].1,0)∈N.E:=fun z=>N.first (N.get_mem z.s);have key:∀ z,z∈(N.drawn.fW fD hd).fU.ring o.h->N.gY (N.dJ z)/\N.sp (N.dJ z)=o/\N.sc (N.dJ z)=N.drawn.to z:=fun z hz=>by
  have e:=(fun z hz=>Xi (N.drawn.pT z).1 ho ((N.drawn.rX fD hd).1 hz)) z hz;have hm:=N.mem _ _ (N.get_mem z.s);unfold Net.gY Net.sp Net.sc Net.dJ;cases hf:N.fwd z
  .let⟨e1,e2⟩:=N.Ja hf;grind
  .let⟨e1,e2⟩:=N.I9 hf;grind
 have hmem:∀ z,z∈R2++R1↔z∈(N.drawn.fW fD hd).fU.ring o.h:=fun z=>by grind
 refine⟨(R2++R1).map N.dJ,fun e=>⟨fun he=>?_,fun⟨hde,hsp⟩=>?_⟩,?_⟩
 .grind
 .rcases hde with hde|hde
  .let⟨z,z1,z2⟩:=N.ex hde true;refine kO.2 ⟨z,(hmem z).2 ((N.drawn.rX fD hd).2 ?_),?_⟩
   .unfold Net.sp at hsp;rw[bU (N.mem _ _ hde).1]at hsp;rw[(N.I9 z2).1,z1,hsp]
   .unfold Net.dJ;grind
  .have hp:=(N.mem _ _ hde).1;have hl:=(N.mem _ _ hde).2;let⟨z,z1,z2⟩:=N.ex (N.whole _ _ (N.len (-e)-1) hde Z) false;refine kO.2 ⟨z,(hmem z).2 ((N.drawn.rX fD hd).2 ?_),?_⟩
   .unfold Net.sp at hsp;rw[(N.Ja z2).1,z1];grind
   .unfold Net.dJ;grind
 .rw[rE];refine hless.imp_of_mem fun{a b} ha hb aq=>?_;grind
variable {ah:bq}{d n:Nat}
theorem Jg{C:Call}{a b c:IC}{K:eU}{st:St}(h:Ex C d ah n (.seq a b) (andThen (Ex C d ah n c K) K) st):Ex C d ah n (.seq a (.seq b c)) K st:=by
 rw[ze1]at h ⊢;refine h.mono fun o st' ho=>?_;cases o with
 |normal =>
  have EK:Ex C d ah n b (andThen (Ex C d ah n c K) K) st':=ho
  show Ex C d ah n (.seq b c) K st'
  rw[ze1]
  omega
 |ret=>exact ho
 |exit id=>exact ho
variable {S:bX}
section
theorem U8(hS:bk S)(c:Pt)(to:List Pt)(hl:to.length<=300000){m d:Nat}{ah:bq}(hm:to.length+12<=m){K:eU}(t:List IV)(Q J:aS)(tv dv lv:IV)(ds xs:List Int)(hdl:ds.length=to.length)(hxl:xs.length<to.length)(n0:Int)
  (Pv:Q[2]?=some (aH [aB n0,aB c.x,aB c.y])) (hD:My aK 1 d Q dv ds) (hT:My Pt.c 2 d Q tv to) (hO:bE aK 1 d Q.length J lv xs) (af:aN 127 t [(5,.ptrM d 2 0),(7,dv),(9,tv),(11,lv)])
  (hK:∀ t' J' cH z,pick ds (rQ (fK c) to) xs.length=some z->bE aK 1 d Q.length J' cH (xs++[z])->aN 127 t' [(5,.ptrM d 2 0),(7,dv),(9,tv),(11,cH)]->K .normal ⟨t',Q++J'⟩)
  (hR:∀ t' O',pick ds (rQ (fK c) to) xs.length=none->aN 127 t' [(4,.nilsl)]->K .ret ⟨t',O'⟩) :
  Ex (aL aO S m) d ah m (i242.body.sub [1,1,1,1,1,1,1,1,0,0,0,1]) K ⟨t,Q++J⟩:=by
 have O5:=fun K t J i x hx af hK=>@JI S hS c to hl m d ah Z K t Q J tv dv lv ds hdl i x hx n0 Pv hD hT af hK
 rw[show i242.body.sub [1,1,1,1,1,1,1,1,0,0,0,1]=.block 5 (.seq (i242.body.sub [1,1,1,1,1,1,1,1,0,0,0,1,0,0]) (.block 6 (.loop (.seq (.seq (i242.body.sub [1,1,1,1,1,1,1,1,0,0,0,1,0,1,0,0,0,0]) (i242.body.sub [1,1,1,1,1,1,1,1,0,0,0,1,0,1,0,0,0,1])) (.seq (.block 7 (.seq (i242.body.sub [1,1,1,1,1,1,1,1,0,0,0,1,0,1,0,0,1,0,0,0]) (.seq (i242.body.sub [1,1,1,1,1,1,1,1,0,0,0,1,0,1,0,0,1,0,0,1,0]) (i242.body.sub [1,1,1,1,1,1,1,1,0,0,0,1,0,1,0,0,1,0,0,1,1])))) (i242.body.sub [1,1,1,1,1,1,1,1,0,0,0,1,0,1,0,0,1,1]))))))from rfl]
 have hG:∀(K:eU)(t:List IV)(J:aS)(lv:IV)(i:Nat)(x:Pt),to[i]?=some x->aN 127 t [(5,.ptrM d 2 0),(7,dv),(9,tv),(11,lv),(12,iv i)]->(∀ t' R,aN 127 t' [(5,.ptrM d 2 0),(7,dv),(9,tv),(11,lv),(12,iv i),(13,iv (pg (fK c) to x to.length:Nat))]->Ex (aL aO S m) d ah m (i242.body.sub [1,1,1,1,1,1,1,1,0,0,0,1,0,1,0,0,1,0,0,1,1]) K ⟨t',Q++(J++R)⟩)->Ex (aL aO S m) d ah m (.seq (i242.body.sub [1,1,1,1,1,1,1,1,0,0,0,1,0,1,0,0,1,0,0,0]) (.seq (i242.body.sub [1,1,1,1,1,1,1,1,0,0,0,1,0,1,0,0,1,0,0,1,0]) (i242.body.sub [1,1,1,1,1,1,1,1,0,0,0,1,0,1,0,0,1,0,0,1,1]))) K ⟨t,Q++J⟩:=fun K t J lv i x hx af hK=>Jg (@JI S hS c to hl m d ah Z _ t Q J tv dv lv ds hdl i x hx n0 Pv hD hT af hK)
 clear O5
 generalize IC.seq (i242.body.sub [1,1,1,1,1,1,1,1,0,0,0,1,0,1,0,0,1,0,0,0]) (.seq (i242.body.sub [1,1,1,1,1,1,1,1,0,0,0,1,0,1,0,0,1,0,0,1,0]) (i242.body.sub [1,1,1,1,1,1,1,1,0,0,0,1,0,1,0,0,1,0,0,1,1]))=G at hG ⊢
 have qQ:=fun{D:Nat}{ah:bq}{aJ aa:aS}=>hD.len (D:=D) (ah:=ah) (aJ:=aJ) (aa:=aa)
 rw[hdl]at qQ
 have Wl:∀{J lv} {xs:List Int},bE aK 1 d Q.length J lv xs->∀{D:Nat}{ah:bq}{aJ aa:aS},iY D ah aJ aa 1 lv=some (.p,aB (xs.length:Nat),aa):=fun h=>(zf0 h).len
 have hlx:=fun{D:Nat}{ah:bq}{aJ aa:aS}=>Wl hO (D:=D) (ah:=ah) (aJ:=aJ) (aa:=aa)
 simp[za,zb]at af
 simp[i242,IC.sub,V0]
 have hrl:(rQ (fK c) to).length=to.length:=qE ..
 have hri:∀(i:Nat)(x:Pt),to[i]?=some x->(rQ (fK c) to)[i]?=some (pg (fK c) to x to.length):=fun i x hx=>by unfold rQ;grind
 refine zn (fun jj st=>∃(i:Nat)(R:aS),to.length-1-i<=jj/\i<to.length/\(∀ j r,j<i->(rQ (fK c) to)[j]?=some r->r≠xs.length)/\st.aa=Q++(J++R)/\aN 127 st.t [(5,.ptrM d 2 0),(7,dv),(9,tv),(11,lv),(12,iv i)]) to.length Z ⟨0,[],Z,Z,fun j r h=>absurd h (zlq _),M,by simp[V0,Xa,Xe,af,cZ]⟩ ?_
 clear af
 rintro jj ⟨t,aa⟩ KA ⟨i,R,hjj,hi,F3,rfl,af⟩ bp bK bQ
 simp[za,zb,zf]at af
 obtain⟨x,hx⟩:=fc (l:=to) (i:=i) hi
 have gE:=hri i x hx
 simp[V0,Xa,Xe,af,qQ,hi]
 refine hG _ _ _ lv i x hx xay fun t' R2 ht=>?_
 clear af
 simp[za,zb,zf]at ht
 generalize hrk:pg (fK c) to x to.length=r at ht gE
 have cL:bE aK 1 d Q.length (J++(R++R2)) lv xs:=hO.more _
 simp[mo]
 generalize hJ2:J++(R++R2)=J2 at cL ⊢
 have iN:=fun{D:Nat}{ah:bq}{aJ aa:aS}=>Wl cL (D:=D) (ah:=ah) (aJ:=aJ) (aa:=aa)
 cases g1:r==xs.length
 .have hne:¬ r=xs.length:=by grind
  have xR:(((r:Nat):Int)==((xs.length:Nat):Int))=false:=by grind
  have Wj:∀ j r,j<i+1->(rQ (fK c) to)[j]?=some r->r≠xs.length:=fun j r' hj hr=>by grind
  by_cases r9:i=to.length-1
  .simp[i242,IC.sub,V0,Xa,Xe,ht,iN,xR,qQ,(zA rfl Z Z:aT .i64 (((to.length:Nat):Int)-1)=((to.length:Nat):Int)-1),(show((i:Int)==((to.length:Nat):Int)-1)=true by grind)]
   refine bQ _ ?_
   simp[V0]
   refine hR _ _ ?_ (by simp[V0,Xa,ht])
   unfold pick
   have:(rQ (fK c) to).findIdx? (fun x=>x==xs.length)=none:=by rw[zkd];intro r' hr';obtain⟨j,hj,rfl⟩:=RO.1 hr';have:=Wj j _ Z (dw hj);grind
   grind
  .simp only[i242,IC.sub,V0,Xa,Xe,ht,iN,xR,qQ,(zA rfl Z Z:aT .i64 (((to.length:Nat):Int)-1)=((to.length:Nat):Int)-1),(show((i:Int)==((to.length:Nat):Int)-1)=false by grind),(zt i)]
   exact bp _ (to.length-1-(i+1)) Z ⟨i+1,R++R2,Z,Z,Wj,by grind,by simp[V0,Xa,Xe,ht]⟩
 .have heq:r=xs.length:=by grind
  rcases hD with⟨rfl,rfl⟩|⟨b,hne,rfl,hb⟩
  .grind
  have hid:i<ds.length:=Z
  obtain⟨z,hz⟩:=fc (l:=ds) (i:=i) hid
  have Wd:bB (ds.flatMap aK) (i*1) 1=some [aB z]:=zd ze 0 1 hz Z
  obtain⟨e,cH,J3,bz,I8⟩:=zI (n0:=Q.length+J2.length) (slot:=0) (k:=0) (ah:=ah) (R:=[.free]) ze cL (ys:=[z]) M (by grind) Z rfl rfl
  simp[eT,jm,aK,zf,fB,gq,gF,eB]at bz
  have hpk:pick ds (rQ (fK c) to) xs.length=some z:=by
   unfold pick;have:(rQ (fK c) to).findIdx? (fun x=>x==xs.length)=some i:=by rw[EW];grind
   grind
  simp only[i242,IC.sub,V0,Xa,Xe,ht,iN,(show(((r:Nat):Int)==((xs.length:Nat):Int))=true by grind),hid,zo,Oa hb,Wd,rep,zh,zl,zq,zw,bz]
  refine bK _ _ ?_
  simp only[V0,Xe]
  exact hK _ J3 cH z hpk I8 (by simp[V0,Xa,Xe,ht])
end
theorem IM{n:Int}:∀{l:List Int},l.Pairwise (·<·)->n∈l->gT n l=l
 |[],_,h=>by grind
 |x::l,hp,h=>by
  have h2:=vV.1 hp;unfold gT;rcases eG.1 h with rfl|h
  .grind
  .have:=h2.1 n h;rw[bU this,IM h2.2 h]
theorem CA(n:Int):∀ l:List Int,(gT n l).length<=l.length+1
 |[]=>by simp[gT]
 |x::l=>by have:=CA n l;unfold gT;grind
theorem OS{n:Int}:∀{l:List Int}{i:Nat},i<=l.length->n ∉ l->(∀ j x,j<i->l[j]?=some x->x<n)->(∀ x,l[i]?=some x->¬ x<n)->gT n l=l.take i++n::l.drop i
 |[],i,hi,_,_,_=>by
  obtain rfl:i=0:=by grind
  rfl
 |x::l,0,_,hn,_,h2=>by have:=h2 x rfl;unfold gT;grind
 |x::l,i+1,hi,hn,h1,h2=>by have:=h1 0 x Z rfl;unfold gT;rw[bU this,OS (by grind) (fun h=>hn (tj _ h)) (fun j y hj hy=>h1 (j+1) y Z hy) (fun y hy=>h2 y hy)];rfl
variable {H:Type}{i sz:Nat}
theorem Ny{g:H->List IV}(hg:∀ a,(g a).length=sz)(q:aR sz g)(h:i<=q.l.length):∃ q2:aR sz g,q2.l=q.l.take i/\∀(t:List IV)(x:bD),ρ t x=aB (i:Int)->dA sz t q.v none (some x) none=some q2.v:=by
 have hh:∀(cs:List IV)(n:Nat)(v:IV),Sl sz cs n v->i<=n->(v=.nilsl/\n=0)∨∃ tight,∀(t:List IV)(x:bD),ρ t x=aB (i:Int)->dA sz t v none (some x) none=some (.slC (cs.take (i*sz)) i sz tight):=fun cs n v hs hi=>by
  cases hs with
  |nil=>grind
  |row cs n tight hl =>
   refine .inr ⟨tight&&i==n,fun t x hx=>?_⟩
   exact xdx
 rcases hh _ _ _ q.ok h with⟨h1,h2⟩|⟨tight,h1⟩
 .refine⟨q,by grind,fun t x hx=>?_⟩;rw[h1];obtain rfl:i=0:=Z;simp only[dA,kI,hx,zY];rfl
 refine⟨gB hg (q.l.take i) i tight (by grind) (by have:=q.eZ;omega),rfl,fun t x hx=>?_⟩;rw[h1 t x hx,vf hg h];rfl
theorem Ko{g:H->List IV}(hg:∀ a,(g a).length=sz)(q:aR sz g)(h:i<=q.l.length):∃ q2:aR sz g,q2.l=q.l.drop i/\∀(t:List IV)(x:bD),ρ t x=aB (i:Int)->dA sz t q.v (some x) none none=some q2.v:=by
 by_cases h0:q.l.length=0
 .have hh:∀(cs:List IV)(n:Nat)(v:IV),Sl sz cs n v->n=0->cs=[]->∃ v2,Sl sz [] 0 v2/\∀(t:List IV)(x:bD),ρ t x=aB ((0:Nat):Int)->dA sz t v (some x) none none=some v2:=fun cs n v hs hn hc=>by
   cases hs with
   |nil=>exact⟨.nilsl,.nil,fun t x hx=>by simp only[dA,kI,hx,zY];rfl⟩
   |row cs n tight hl =>
    subst hn hc
    exact⟨.slC [] 0 sz (tight&&0==0),.row _ _ _ M,fun t x hx=>by simp only[dA,kI,hx,zY,zi];simp⟩
  have e:=EC h0;let⟨v2,h1,h2⟩:=hh _ _ _ q.ok h0 (by grind);obtain rfl:i=0:=Z;exact⟨⟨[],v2,h1,M⟩,by grind,h2⟩
 .exact Nx hg q h h0
theorem Dd(hS:bk S)(l:aR 1 aK)(n:Int):aM S (l.l.length+4) 125 [l.v,iv n] (.bool (l.l.contains n)):=by
 refine zg (Cz hS) rfl rfl (bP rfl) (l.l.length+3) Z zk fun m hm d ah t af=>?_;simp only[V2,i125,zf]at af;have hlf:=l.eZ;simp only[i125,V0,seval];refine zm l.l.length (fun i st=>(l.l.take i).contains n=false/\st.aa=[]/\aN 18 st.t [(0,l.v),(1,aB n),(5,iv i)]) Z ⟨M,rfl,by simp only[V0,seval,af,cZ]⟩ ?_;rintro i ⟨t,aa⟩ KA hi ⟨hc,ho,af⟩ bp bK bQ;subst ho;simp only[V3]at af;by_cases h:i<l.l.length
 .have hx:=dw h;generalize l.l[i]=x at hx;have gE:bB (l.l.flatMap aK) (i*1) 1=some [aB x]:=zd ze 0 1 hx Z;have hw:=zt i;cases hb:x==n
  .simp only[V0,seval,af,h,zc l h,gE,hb,hw];refine bp Z _ ⟨?_,rfl,bS⟩;rw[jh,hx,oP,Zq,hc,hb];rfl
  .simp only[V0,seval,af,h,zc l h,gE,hb];refine bQ _ ?_;simp only[V0,seval,af,DQ hx hb]
 .simp only[V0,seval,af,h];refine bK _ _ ?_;rw[fT Z]at hc;simp only[V0,seval,af,hc]
theorem J7(hS:bk S)(l:aR 1 aK)(n:Int)(ha:l.l.Pairwise (·<·))(hl:l.l.length<=1000000):∃ q:aR 1 aK,q.l=gT n l.l/\aM S (l.l.length+20) 127 [l.v,iv n] q.v:=by
 by_cases hin:l.l.contains n=true
 .refine⟨l,(IM ha (zk5.1 hin)).symm,zr (i:=i127) (hS _ _ M M M M) rfl rfl (bP rfl) (l.l.length+19) fun m hm d ah t af=>?_⟩;simp[V2,i127,zf]at af;have ch:=Dd hS l n m Z;simp only[zf]at ch;simp only[i127,V0,seval,af,ch,hin];exact⟨_,rfl,zP yO l m Z _ _⟩
 .have ags:n ∉ l.l:=fun h=>hin (zk5.2 h);have nJ:l.l.contains n=false:=by grind
  have ou:(gT n l.l).length<9223372036854775808:=by have:=CA n l.l;omega
  refine⟨gB ze (gT n l.l) (gT n l.l).length false rfl ou,rfl,zr (i:=i127) (hS _ _ M M M M) rfl rfl (bP rfl) (l.l.length+19) fun m hm d ah t af=>?_⟩;simp[V2,i127,zf]at af;have ch:=Dd hS l n m Z;simp only[zf]at ch;simp only[i127,V0,seval,af,ch,nJ];refine zn (fun jj st=>∃(i:Nat),l.l.length-i<=jj/\i<=l.l.length/\(∀ j x,j<i->l.l[j]?=some x->x<n)/\st.aa=[.free]/\aN 38 st.t [(0,l.v),(1,aB n),(5,iv i)]) l.l.length Z ⟨0,Z,Z,fun j x h _=>absurd h (zlq _),rfl,by simp[V0,seval,af,cZ]⟩ ?_;rintro jj ⟨t,aa⟩ KA ⟨i,hjj,hi,F3,ho,af⟩ bp bK bQ;subst ho;simp[za,zb,zf]at af;have fin:∀(t:List IV),(∀ x,l.l[i]?=some x->¬ x<n)->aN 38 t [(0,l.v),(1,aB n),(5,iv i)]->KA (.exit 0) ⟨t,[.free]⟩:=by
   clear af bp bQ t;intro t CZ af;simp[za,zb,zf]at af;refine bK _ _ ?_;have hins:=OS hi ags F3 CZ;let⟨q1,hq1,hs1⟩:=Ny ze l hi;let⟨q2,lQ,hs2⟩:=Ko ze l hi;rw[←hq1,←lQ]at hins;have n1:q1.l.length<=1000000:=by grind
   have n2:q2.l.length<=1000000:=by grind
   have f1:=zj ze (l:=q1.l);have f2:=zj ze (l:=q2.l);have hsc:∀ xs:List Int,(xs.flatMap aK).all IV.scalar=true:=fun xs=>nu.2 fun x hx=>xbq
   have ahg:∀ l:List IV,rep l 0=[]:=fun l=>rfl;have hz:∀(b k:Nat)(aa:aS)(c:List IV),aa[b]?=some (aH c)->c=(gT n l.l).flatMap aK->k=(gT n l.l).length->freeze m d aa (.slM d b 0 k k 1 false)=some (gB ze (gT n l.l) (gT n l.l).length false rfl ou).v:=by rintro b k aa c ho rfl rfl;exact yo (k:=1) yO Z rfl ze ho
   have e1:(gT n l.l).length=q1.l.length+(1+q2.l.length):=by grind
   have e2:(gT n l.l).flatMap aK=q1.l.flatMap aK++([aB n]++q2.l.flatMap aK):=by rw[hins,Bh,eT];rfl
   have ha1:∀ lk,q1.l.length≠0->aY d 1 lk [.free,.free] 1 (.slC [] 0 1 true) (q1.l.flatMap aK) q1.l.length 0=some (.a,.slM d 1 0 q1.l.length q1.l.length 1 false,[.free,aH (q1.l.flatMap aK)]):=fun lk h=>by rw[AW h Z];rfl
   have ha2:∀ lk,aY d 2 lk [.free,.free,.free,.free] 1 (.slC [] 0 1 true) [aB n] 1 0=some (.a,.slM d 2 0 1 1 1 false,[.free,.free,aH [aB n],.free]):=fun lk=>by rfl
   have ha3:q1.l.length≠0->aY d 2 (look d ah (bI [] 2 [.free,aH (q1.l.flatMap aK),.free,.free])) [.free,aH (q1.l.flatMap aK),.free,.free] 1 (.slM d 1 0 q1.l.length q1.l.length 1 false) [aB n] 1 0=some (.k 1 2,.slM d 2 0 (q1.l.length+1) (q1.l.length+1) 1 false,[.free,.gone,aH (q1.l.flatMap aK++[aB n]),.free]):=fun h=>by rw[zQ M Z f1 rfl (by rw[Zb (.inl M)];rfl)];rfl
   have ha4:∀(x:aP)(k:Nat)(c:List IV),c.length=k*1->k<=1000001->q2.l.length≠0->aY d 2 (look d ah (bI [0] 2 [.free,x,aH c,.free])) [.free,x,aH c,.free] 1 (.slM d 2 0 k k 1 false) (q2.l.flatMap aK) q2.l.length 1=some (.k 2 3,.slM d 3 0 (k+q2.l.length) (k+q2.l.length) 1 false,[.free,x,.gone,aH (c++q2.l.flatMap aK)]):=fun x k c hc hk h=>by rw[zQ h Z hc (hsc _) (by rw[Zb (.inr rfl)];rfl)];rfl
   by_cases h1:q1.l.length=0
   .have g1:=EC h1;by_cases h2:q2.l.length=0
    .have g2:=EC h2;simp only[V0,seval,af,zh,zl,zq,yM,hs1,hs2,zB,h1,h2,zbg,rep,zw,ha2,zfa];grind
    .simp only[V0,seval,af,zh,zl,zq,yM,hs1,hs2,zB,h1,zbg,rep,zw,ha2,ha4 .free 1 [aB n] rfl Z h2];grind
   .by_cases h2:q2.l.length=0
    .have g2:=EC h2;simp only[V0,seval,af,zh,zl,zq,yM,hs1,hs2,zB,h2,ha1 _ h1,ha3 h1,rep,zw,zfa];grind
    .simp only[V0,seval,af,zh,zl,zq,yM,hs1,hs2,zB,ha1 _ h1,ha3 h1,rep,zw,ha4 .gone (q1.l.length+1) (q1.l.flatMap aK++[aB n]) (by grind) Z h2];grind
  by_cases h:i<l.l.length
  .obtain⟨x,hx⟩:=fc (l:=l.l) (i:=i) h;have gE:bB (l.l.flatMap aK) (i*1) 1=some [aB x]:=zd ze 0 1 hx Z;by_cases hb:x<n
   .simp only[V0,seval,af,h,zc l h,gE,hb,(zt i)];refine bp _ (l.l.length-(i+1)) Z ⟨i+1,Z,Z,fun j y hj hy=>?_,rfl,bS⟩;grind
   .simp only[V0,seval,af,h,zc l h,gE,hb];exact fin _ (fun y hy=>by grind) bS
  .simp only[V0,seval,af,h];exact fin _ (fun y hy=>by grind) bS
def RdI(d:Nat)(ah:bq)(lv:IV)(xs:List Int):Prop:=(∃ q:aR 1 aK,q.l=xs/\q.v=lv)∨∃ l b cap tg,l<d/\lv=.slM l b 0 xs.length cap 1 tg/\(ah l)[b]?=some (aH (xs.flatMap aK))
theorem Oz(l:List Int)(x:Int):gG (l++[x])=gT x (gG l):=by unfold gG;grind
theorem uk{l:List H}{x:H}(h:l[i]?=some x):l.take (i+1)=l.take i++[x]:=by rw[jh,h];rfl
variable {aJ:aS}{lv:IV}{m:Nat}
section
theorem CC(hS:bk S)(xs:List Int)(hn:xs.length<=100000){aa:aS}{id:Nat}(h:RdI (d+1) (fun l=>if l=d then aJ else ah l) lv xs)(hm:300000<=m) :
  ∃ q:aR 1 aK,q.l=gG xs/\aL aO S m d ah aJ aa id 142 [lv]=some (.r,q.v,aa):=by
 obtain⟨m,rfl⟩:=gv m 1
 have main:∃ r,aL aO S (m+1) d ah aJ aa id 142 [lv]=some r/\∃ q:aR 1 aK,q.l=gG xs/\r=(.r,q.v,aa):=by
  refine zF (i:=i142) (hS _ _ M M M M) rfl Δ (bP rfl) fun t af=>?_;simp[slotsOf,za,zb,i142]at af;generalize(fun l=>if l=d then aJ else ah l:bq)=bH at h ⊢
  have hlen:∀ d aa aJ,iY d bH aJ aa 1 lv=some (.p,aB (xs.length:Nat),aa):=fun d aa aJ=>by
   exact xa5
  simp only[i142,V0,seval,af,(fun l=>rfl)];refine zm xs.length (fun i st=>∃(q:aR 1 aK)(O:aS),q.l=gG (xs.take i)/\st.aa=O/\aN 19 st.t [(0,lv),(3,q.v),(4,iv i)]) Z ⟨gB ze [] 0 true rfl Z,[],rfl,rfl,by simp[V0,seval,af,cZ];rfl⟩ ?_;rintro i ⟨t,bJ⟩ KA hi ⟨q,O,hq,ho,af⟩ bp bK bQ;simp[za,zb,zf]at af;by_cases h2:i<xs.length
  .obtain⟨x,hx⟩:=fc (l:=xs) (i:=i) h2;have gE:bB (xs.flatMap aK) (i*1) 1=some [aB x]:=zd ze 0 1 hx Z;have hw:=zt i;have pz:q.l.length<=100000:=by have:=Zc (xs.take i);grind
   let⟨q2,lQ,cw⟩:=J7 hS q x (by rw[hq];exact It _) Z;have cw:=cw m Z;have Lg:q2.l=gG (xs.take (i+1)):=by rw[uk hx,Oz,←hq,lQ]
   simp[zf]at cw;rcases h with⟨q0,rfl,rfl⟩|⟨l,b,cap,tg,hl,rfl,hb⟩
   .simp only[V0,seval,af,hlen,h2,zc q0 h2,gE,cw,hw];exact bp Z _ ⟨q2,_,Lg,rfl,bS⟩
   .simp only[V0,seval,af,h2,zo,(show ¬ l=d+1 by omega),hl,hb,gE,cw,hw];exact bp Z _ ⟨q2,_,Lg,rfl,bS⟩
  .simp[V0,seval,af,hlen,h2];refine bK _ _ ?_;rw[fT Z]at hq;simp only[V0,seval,af];exact ⟨.inr trivial,_,_,rfl,by
    show(freeze m (d+1) bJ q.v).map _=_;rw[zP yO q m Z];rfl,q,hq,rfl⟩
 grind
end
theorem Yw{H:Type}{P:H->Nat->Prop}(hmono:∀ a n m,n<=m->P a n->P a m):∀{l:List H},(∀ a∈l,∃ N,P a N)->∃ N,∀ a∈l,P a N
 |[],_=>⟨0,fun _ h=>by grind⟩
 |a::l,h=>by let⟨N1,h1⟩:=h a (qj ..);let⟨N2,h2⟩:=Yw hmono fun b hb=>h b (tj _ hb);refine⟨N1+N2,fun b hb=>?_⟩;grind
def bt(p:Pn)(node:Int):List Int:=match cT p node with
 |none=>[]
 |some nd=>BI (bu p node) (rQ (fK nd.at') ((bu p node).map (fk p)))
theorem ZV(p:Pn)(node:Int):(bu p node).length<=2*p.az.l.length:=by
 unfold bu;exact xa7
variable {I:Type}
theorem NH{ds:List I}{rk:List Nat}:(BI ds rk).length<=ds.length:=by
 unfold BI;cases h:jQ ds rk ds.length with
 |none=>simp
 |some l=>rw[MF,uv h];simp
theorem YU(p:Pn)(node:Int):(bt p node).length<=2*p.az.l.length:=by
 unfold bt;split
 .simp
 .exact iQ NH (ZV p node)
theorem Mq(hS:bk S)(p:Pn)(gV:bL p)(ha:p.az.l.length<=100000)(node:Int)(hok:∀ z∈bu p node,gz p z):∃ q:aR 1 aK,q.l=bt p node/\∃ N,aM S N 242 [.agg p.c,aB node] q.v:=by
 have ag6:=YU p node;have hlim:(bt p node).length<9223372036854775808:=Z;let⟨N0,h0⟩:=wR hS p node;cases hn:cT p node with
 |none =>
  refine⟨kU 1 aK,by unfold bt;rw[hn];rfl,N0+11,zr (i:=i242) (hS _ _ M M M M) rfl rfl (bP rfl) (N0+10) fun m hm d ah t af=>?_⟩
  simp[V2,i242,Pn.c]at af
  have c0:=h0 m Z
  have hn2:(p.ns.l.find? fun f=>f.id==node)=none:=hn
  simp[hn2,Pn.c,zf,Nd.c,JX,Option.getD_none]at c0
  simp only[i242,V0,Xa,Xb,Xe,af,c0,bF]
  exact xe6
 |some nd =>
  have hdf:=ZV p node
  obtain⟨N1,h1⟩:∃ N,∀ z∈bu p node,aM S N 279 [.agg p.c,aB z] (.agg (fk p z).c):=Yw (P:=fun z N=>aM S N 279 [.agg p.c,aB z] (.agg (fk p z).c)) (fun a n m hnm h m' hm'=>h m' Z) fun z hz=>Mi hS p z gV (hok z hz)
  have hA:bt p node=BI (bu p node) (rQ (fK nd.at') ((bu p node).map (fk p))):=by unfold bt;grind
  refine⟨bZ ze (bt p node) hlim,zM ..,N0+N1+3*p.az.l.length+41,zr (i:=i242) (hS _ _ M M M M) rfl rfl (bP rfl) (N0+N1+3*p.az.l.length+40) fun m hm d ah t af=>?_⟩
  simp[V2,i242,Pn.c]at af
  have c0:=h0 m Z
  have hn2:(p.ns.l.find? fun f=>f.id==node)=some nd:=hn
  simp[hn2,Pn.c,zf,Nd.c,znf,MF]at c0
  have TP:∀ z∈bu p node,∀ d ah aJ aa id,aL aO S m d ah aJ aa id 279 [.agg [p.ns.v,p.az.v,p.fs.v],aB z]=some (.r,.agg [aB (fk p z).x,aB (fk p z).y],aa):=fun z hz d ah aJ aa id=>h1 z hz m Z d ah aJ aa id
  generalize hds:bu p node=ds at TP hA hdf
  have p1:=fun K t O1 O2 af hK=>@Mp S hS p Z node m d ah Z K t O1 O2 af hK
  rw[hds]at p1
  have p2:=fun K t Q dv qz hD af hK=>@GU S hS p ds Z m d ah Z TP K t Q dv qz hD af hK
  generalize hto:ds.map (fk p)=to at hA p2
  have hdl:ds.length=to.length:=by grind
  have p3:=fun K t Q J tv dv lv xs hxl Pv hD hT hO af hK hR=>@U8 S hS nd.at' to Z m d ah Z K t Q J tv dv lv ds xs hdl hxl nd.id Pv hD hT hO af hK hR
  generalize hrk:rQ (fK nd.at') to=rk at hA p3
  rw[show i242.body=.seq (i242.body.sub [0]) (.seq (i242.body.sub [1,0]) (.seq (i242.body.sub [1,1,0]) (.seq (i242.body.sub [1,1,1,0]) (.seq (i242.body.sub [1,1,1,1,0]) (.seq (i242.body.sub [1,1,1,1,1,0]) (.seq (i242.body.sub [1,1,1,1,1,1,0]) (.seq (i242.body.sub [1,1,1,1,1,1,1,0]) (.seq (.block 4 (.loop (.seq (.seq (i242.body.sub [1,1,1,1,1,1,1,1,0,0,0,0,0]) (i242.body.sub [1,1,1,1,1,1,1,1,0,0,0,0,1])) (i242.body.sub [1,1,1,1,1,1,1,1,0,0,0,1])))) (.seq (i242.body.sub [1,1,1,1,1,1,1,1,1,0]) .ret)))))))))from rfl]
  generalize i242.body.sub [1,1,1,1,0]=B1 at p1 ⊢
  generalize hB5:i242.body.sub [1,1,1,1,1,1,1,1,0,0,0,1]=B5 at p3 ⊢
  have p2':∀(C:IC)(K:eU)(t:List IV)(Q:aS)(dv:IV),Q[0]?=some (p.o)->My aK 1 d Q dv ds->aN 127 t [(2,.ptrM d 0 0),(5,.ptrM d 2 0),(7,dv)]->(∀ t' J lv,bE Pt.c 2 d Q.length J lv to->aN 127 t' [(2,.ptrM d 0 0),(5,.ptrM d 2 0),(7,dv),(9,lv)]->Ex (aL aO S m) d ah m C K ⟨t',Q++J⟩)->Ex (aL aO S m) d ah m (.seq (i242.body.sub [1,1,1,1,1,0]) (.seq (i242.body.sub [1,1,1,1,1,1,0]) C)) K ⟨t,Q⟩:=fun C K t Q dv qz hD af hK=>Jg (p2 _ t Q dv qz hD af hK)
  clear p2
  generalize i242.body.sub [1,1,1,1,1,0]=B2 at p2' ⊢
  generalize i242.body.sub [1,1,1,1,1,1,0]=B3 at p2' ⊢
  simp[i242,IC.sub,V0,Xa,Xb,Xe,af,c0,bF]
  refine p1 _ _ _ _ xap fun t1 J1 dv F8 ht1=>?_
  clear af
  rw[yA]
  have hQD:My aK 1 d (p.o::.free::aH [aB nd.id,aB nd.at'.x,aB nd.at'.y]::J1) dv ds:=zf0 (Pre:=[p.o,.free,aH [aB nd.id,aB nd.at'.x,aB nd.at'.y]]) F8
  have qz:(p.o::.free::aH [aB nd.id,aB nd.at'.x,aB nd.at'.y]::J1)[0]?=some (p.o):=rfl
  have Pv:(p.o::.free::aH [aB nd.id,aB nd.at'.x,aB nd.at'.y]::J1)[2]?=some (aH [aB nd.id,aB nd.at'.x,aB nd.at'.y]):=rfl
  generalize p.o::.free::aH [aB nd.id,aB nd.at'.x,aB nd.at'.y]::J1=Q1 at hQD qz Pv ⊢
  refine p2' _ _ t1 Q1 dv qz hQD ht1 fun t2 J2 tv cL ht2=>?_
  have adg:=hQD.more J2
  have hQT:=zf0 cL
  have afb:=Oa Pv J2
  generalize Q1++J2=Q at adg hQT afb ⊢
  clear hQD qz Pv cL F8 ht1
  simp[za,zb]at ht2
  simp[V0]
  refine zn (fun jj st=>∃(J:aS)(lv:IV)(xs:List Int),to.length-xs.length<=jj/\xs.length<=to.length/\jQ ds rk xs.length=some xs/\bE aK 1 d Q.length J lv xs/\st.aa=Q++J/\aN 127 st.t [(5,.ptrM d 2 0),(7,dv),(9,tv),(11,lv)]) to.length Z ⟨[],.nilsl,[],M,M,rfl,.inl ⟨rfl,rfl⟩,M,by simp[V0,Xa,Xe,ht2]⟩ ?_
  clear ht2
  rintro jj ⟨t,aa⟩ KA ⟨J,lv,xs,hjj,hxl,hsel,hO,rfl,af⟩ bp bK bQ
  simp[za,zb]at af
  have qQ:=fun{D:Nat}{ah:bq}{aJ aa:aS}=>adg.len (D:=D) (ah:=ah) (aJ:=aJ) (aa:=aa)
  rw[hdl]at qQ
  have hlx:=fun{D:Nat}{ah:bq}{aJ aa:aS}=>(zf0 hO).len (D:=D) (ah:=ah) (aJ:=aJ) (aa:=aa)
  by_cases h:xs.length<to.length
  .simp[V0,Xa,Xe,af,hlx,qQ,h]
   refine p3 _ _ Q J tv dv lv xs h afb adg hQT hO xay (fun t' J' cH z hpk uY ht'=>?_) (fun t' O' hpk ht'=>?_)
   .refine bp _ (to.length-(xs.length+1)) Z ⟨J',cH,xs++[z],M,by grind,?_,uY,rfl,ht'⟩
    rw[mV]
    simp[fB,gq,jQ,hsel,hpk,iD,iJ]
   .simp[za,zb]at ht'
    refine bQ _ ?_
    simp only[V0,ht']
    have hnone:jQ ds rk ds.length=none:=by have:=zf1 (show jQ ds rk (xs.length+1)=none by simp[jQ,hsel,hpk,iD,Vu]) (ds.length-(xs.length+1));grind
    refine⟨_,rfl,?_⟩
    have he:bt p node=[]:=by rw[hA];unfold BI;grind
    have:(bZ ze (bt p node) hlim).v=.nilsl:=by
     have:∀(l:List Int)(h:l.length<9223372036854775808),l=[]->(bZ ze l h).v=.nilsl:=by rintro l h rfl;rfl
     grind
    rw[this]
    exact yZ m Z d _
  .simp[V0,Xa,Xe,af,hlx,qQ,h]
   refine bK _ _ ?_
   simp only[V0,Xa,Xe,af]
   refine⟨_,rfl,?_⟩
   have he:bt p node=xs:=by rw[hA];unfold BI;grind
   have:∀(l:List Int)(h:l.length<9223372036854775808),l=xs->freeze m d (Q++J) lv=some (bZ ze l h).v:=by rintro l hh rfl;exact yy ze yO Z hh hO
   grind
def aZ(p:Pn):List Int:=(p.az.l.reverse.map fun a=>iR a.id)++p.az.l.map Ac.id
theorem Rh(hS:bk S)(p:Pn)(ha:p.az.l.length<=100000):∃ q:aR 1 aK,q.l=aZ p/\aM S (p.az.l.length+10) 203 [.agg p.c] q.v:=by
 have hlim:(aZ p).length<9223372036854775808:=xcv
 refine⟨bZ ze (aZ p) hlim,zM ..,zr (i:=i203) (hS _ _ M M M M) rfl rfl (bP rfl) (p.az.l.length+9) fun m hm d ah t af=>?_⟩;simp[slotsOf,za,zb,i203,Pn.c]at af;simp[i203,V0,Xa,Xe,af,(zA rfl Z Z:aT .i64 (((p.az.l.length:Nat):Int)-1)=((p.az.l.length:Nat):Int)-1)];refine zn (fun jj st=>∃(i:Nat)(J:aS)(lv:IV),p.az.l.length-i<=jj/\i<=p.az.l.length/\bE aK 1 d 1 J lv ((p.az.l.reverse.take i).map fun a=>iR a.id)/\st.aa=p.o::J/\aN 41 st.t [(1,.ptrM d 0 0),(3,lv),(4,aB (((p.az.l.length:Nat):Int)-1-(i:Int)))]) p.az.l.length Z ⟨0,[],.nilsl,Z,Z,.inl ⟨rfl,rfl⟩,rfl,by simp[V0,Xa,Xe,af,cZ,zny]⟩ ?_;clear af;rintro jj ⟨t,aa⟩ KA ⟨i,J,lv,hjj,hi,hO,rfl,af⟩ bp bK bQ;simp[za,zb]at af;by_cases h:i<p.az.l.length
 .have hk:p.az.l.length-1-i<p.az.l.length:=Z;obtain⟨x,hx⟩:=fc (l:=p.az.l) (i:=p.az.l.length-1-i) hk;have hrd:bB (p.az.l.flatMap Ac.c) ((p.az.l.length-1-i)*6) 1=some [aB x.id]:=(zd Ac.aV 0 1 hx Z).trans rfl;have hge:(0<=((p.az.l.length-1-i:Nat):Int))=True:=eq_true Z;have hw:aT .i64 (((p.az.l.length-1-i:Nat):Int)-1)=((p.az.l.length:Nat):Int)-1-((i+1:Nat):Int):=zA Z Z Z;have au:((p.az.l.reverse.take i).map fun a=>iR a.id).length=i:=by grind
  obtain⟨e,cH,J2,bz,cL⟩:=zI (Pre:=[p.o]) (n0:=J.length+1) (slot:=0) (k:=0) (ah:=ah) (R:=[.free]) ze hO (ys:=[iR x.id]) M (by grind) (by grind) rfl rfl;simp only[gu,fP,eT,jm,aK,zf,fB,gq,gF,eB,iR]at bz;rw[show((p.az.l.reverse.take i).map fun a=>iR a.id)++[iR x.id]=(p.az.l.reverse.take (i+1)).map fun a=>iR a.id by rw[zy (show p.az.l.reverse[i]?=some x by grind),Hi];rfl]at cL;rw[(show((p.az.l.length:Nat):Int)-1-(i:Int)=((p.az.l.length-1-i:Nat):Int) by omega)]at af;simp only[V0,Xa,Xe,l7,zc p.az hk,rep,zh,zl,zq,zw, *];exact bp _ (p.az.l.length-(i+1)) Z ⟨i+1,J2,cH,Z,Z,cL,rfl,by simp[V0,Xa,Xe,af]⟩
 .obtain rfl:i=p.az.l.length:=Z;simp only[V0,Xa,af,l7,(eq_false Z:(0<=((p.az.l.length:Nat):Int)-1-((p.az.l.length:Nat):Int))=False)];refine bK _ _ ?_;have e:p.az.l.reverse.take p.az.l.length=p.az.l.reverse:=fT M;rw[e]at hO;clear bp bK;simp[V0];refine zm p.az.l.length (fun i st=>∃(J:aS)(lv:IV),bE aK 1 d 1 J lv ((p.az.l.reverse.map fun a=>iR a.id)++(p.az.l.take i).map Ac.id)/\st.aa=p.o::J/\aN 41 st.t [(1,.ptrM d 0 0),(3,lv),(5,iv i)]) Z ⟨J,lv,by grind,rfl,by simp[V0,Xa,Xe,af,cZ]⟩ ?_;clear af hO bQ lv J t;rintro i ⟨t,aa⟩ KB hi ⟨J,lv,hO,rfl,af⟩ gJ jL kP;simp[za,zb,zf]at af;by_cases h:i<p.az.l.length
  .obtain⟨x,hx⟩:=fc (l:=p.az.l) (i:=i) h;have hrd:bB (p.az.l.flatMap Ac.c) (i*6) 1=some [aB x.id]:=(zd Ac.aV 0 1 hx Z).trans rfl;have hw:=zt i;have au:((p.az.l.reverse.map fun a=>iR a.id)++(p.az.l.take i).map Ac.id).length=p.az.l.length+i:=by grind
   obtain⟨e,cH,J2,bz,cL⟩:=zI (Pre:=[p.o]) (n0:=J.length+1) (slot:=0) (k:=0) (ah:=ah) (R:=[.free]) ze hO (ys:=[x.id]) M (by grind) (by grind) rfl rfl;simp[gu,fP,eT,jm,aK,zf,fB,gq,gF,eB]at bz;rw[mo,show(p.az.l.take i).map Ac.id++[x.id]=(p.az.l.take (i+1)).map Ac.id by rw[zy hx,Hi];rfl]at cL;simp only[V0,Xa,Xe,zc p.az h,rep,zh,zl,zq,zw, *];exact gJ Z _ ⟨J2,cH,cL,rfl,by simp[V0,Xa,Xe,af]⟩
  .simp[V0,Xa,Xe,af,h];refine jL _ _ ?_;rw[fT Z]at hO;simp only[V0,Xa,Xe,af];exact⟨_,rfl,yy (Pre:=[_]) ze yO Z hlim hO⟩
theorem aa8(hS:bk S)(xs:List Int)(hxl:xs.length<=1000000000)(n:Int){aa:aS}{id:Nat}(hm:xs.length+4<=m)(h:RdI (d+1) (fun l=>if l=d then aJ else ah l) lv xs):aL aO S m d ah aJ aa id 204 [lv,aB n]=some (.r,.bool (xs.contains n),aa):=by
 obtain⟨m,rfl⟩:=gv m 2;have main:∃ r,aL aO S (m+1+1) d ah aJ aa id 204 [lv,aB n]=some r/\r=(.r,.bool (xs.contains n),aa):=by
  refine zF (i:=i204) (hS _ _ M M M M) rfl Δ (bP rfl) fun t af=>?_;simp[V2,i204]at af;generalize(fun l=>if l=d then aJ else ah l:bq)=bH at h ⊢
  have hlen:∀ d aa aJ,iY d bH aJ aa 1 lv=some (.p,aB (xs.length:Nat),aa):=fun d aa aJ=>by
   exact xa5
  simp only[i204,V0,seval];exact aD
 grind
def pe(l:List Int):List Int:=(l.drop 1++l.take 1).map iR
theorem zf8(l:List Int):(pe l).length=l.length:=by unfold pe;grind
variable {l:List Int}
theorem zf9(hk:k<l.length){x:Int}(hx:l[(k+1)%l.length]?=some x):(pe l)[k]?=some (iR x):=by
 unfold pe;rw[qn];by_cases h:k+1<l.length
 .rw[M0 h]at hx;grind
 .rw[(show k+1=l.length by omega),Nat.mod_self]at hx;grind
def dF(p:Pn):List Int:=p.ns.l.flatMap fun n=>pe (bt p n.id)
def dQ(p:Pn):List Int:=p.ns.l.flatMap fun n=>bt p n.id
theorem Vc(hS:bk S)(p:Pn)(q:aR 1 aK)(pz:q.l.length<=300000){m d:Nat}{ah:bq}(hm:q.l.length+10<=m){K:eU}(t:List IV)(i:Nat)(B0:Nat->Nat)(J0:aS)(ru mv0:IV)(xs ys:List Int)(h0:dH aK 1 d 1 B0 0 J0 ru xs)(h1:dH aK 1 d 1 B0 1 J0 mv0 ys)(hxl:xs.length<=100000000)(V7:ys.length<=100000000)(af:aN 51 t [(1,.ptrM d 0 0),(4,ru),(5,mv0),(6,iv i),(7,q.v)])
  (hK:∀ t' B J lv mv,dH aK 1 d 1 B 0 J lv (xs++pe q.l)->dH aK 1 d 1 B 1 J mv (ys++q.l)->aN 51 t' [(1,.ptrM d 0 0),(4,lv),(5,mv),(6,iv i)]->K .normal ⟨t',p.o::J⟩) :
  Ex (aL aO S m) d ah m (i202.body.sub [1,1,0,1,0,0,1,0,0,1]) K ⟨t,p.o::J0⟩:=by
 simp[za,zb,zf]at af
 simp[i202,IC.sub,V0]
 refine zm q.l.length (fun k st=>∃(B:Nat->Nat)(J:aS)(lv mv:IV),dH aK 1 d 1 B 0 J lv (xs++(pe q.l).take k)/\dH aK 1 d 1 B 1 J mv (ys++q.l.take k)/\st.aa=p.o::J/\aN 51 st.t [(1,.ptrM d 0 0),(4,lv),(5,mv),(6,iv i),(7,q.v),(8,iv k)]) Z ⟨B0,J0,ru,mv0,by grind,by grind,rfl,by simp[V0,Xa,Xe,af,cZ]⟩ ?_
 clear af h0 h1
 rintro k ⟨t,aa⟩ KA hk ⟨B,J,lv,mv,h0,h1,rfl,af⟩ bp bK bQ
 simp[za,zb,zf]at af
 by_cases h:k<q.l.length
 rotate_left
 .simp[V0,Xa,Xe,af,h]
  refine bK _ _ ?_
  rw[(fT (by rw[zf8];omega))]at h0
  rw[(fT Z)]at h1
  simp[V0]
  exact hK _ B J lv mv h0 h1 xay
 obtain⟨x,hx⟩:=fc (l:=q.l) (i:=k) h
 have hmod:(k+1)%q.l.length<q.l.length:=Vo _ Z
 obtain⟨y,hy⟩:=fc (l:=q.l) (i:=(k+1)%q.l.length) hmod
 have agl:=zf9 h hy
 have gE:bB (q.l.flatMap aK) (k*1) 1=some [aB x]:=xbu
 have r7:bB (q.l.flatMap aK) ((k+1)%q.l.length*1) 1=some [aB y]:=zd ze 0 1 hy Z
 have mB:(xs++(pe q.l).take k).length=xs.length+k:=by grind
 have iN:(ys++q.l.take k).length=ys.length+k:=by grind
 obtain⟨e1,cH,J1,ha1,_,F8,hJ1,Pb⟩:=yE (k0:=1) (n0:=J.length+1) (slot:=0) (k:=0) (Pre:=[p.o]) (R:=[.free]) ze rfl h0 (ys:=[iR y]) M (by grind) Z rfl rfl
 obtain⟨e2,mv',J2,ha2,_,cL,hJ2,Pa⟩:=yE (k0:=1) (n0:=J1.length+1) (slot:=0) (k:=0) (Pre:=[p.o]) (R:=[.free]) ze rfl (Pb M h1) (ys:=[x]) M (by grind) Z rfl rfl
 have afd:=Pa M F8
 have hlk:∀(aa:aS)(n:Nat)(j:Nat)(x:aP),j<n->aa[j]?=some x->look d ah aa d j=some x:=fun aa n j x _ hx=>xez
 have ap1:=ha1 _ (hlk _ _)
 have ap2:=ha2 _ (hlk _ _)
 simp only[gu,fP,eT,jm,aK,zf,fB,gq,gF,eB,iR]at ap1 ap2
 rw[mo,←zy agl]at afd
 rw[mo,←zy hx]at cL
 have e4:Int.tmod ((k+1:Nat):Int) (q.l.length:Int)=(((k+1)%q.l.length:Nat):Int):=(Int.ofNat_tmod _ _).symm
 generalize(k+1)%q.l.length=j at hmod hy r7 e4
 simp only[V0,Xa,Xe,af,h,zc q h,zc q hmod,(zt k),(eq_false Z:((q.l.length:Int)=0)=False),e4,gE,r7,rep,zh,zl,zq,zw,ap1,ap2]
 exact bp Z _ ⟨_,J2,cH,mv',afd,cL,rfl,by simp[V0,Xa,Xe,af]⟩
theorem xZ{p:Pn}(l:List Nd):(l.flatMap fun n=>bt p n.id).length<=l.length*(2*p.az.l.length):=by
 induction l with
 |nil=>simp
 |cons n l ih =>
  have:=YU p n.id
  rw[eT,mV,fB,znx]
  omega
theorem zga{p:Pn}(l:List Nd):(l.flatMap fun n=>pe (bt p n.id)).length=(l.flatMap fun n=>bt p n.id).length:=by
 induction l with
 |nil=>simp
 |cons n l ih=>rw[eT,eT,mV,mV,ih,zf8]
theorem AQ(hS:bk S)(p:Pn)(gV:bL p)(ha:p.az.l.length<=1000)(hn:p.ns.l.length<=1000)(hok:∀ n∈p.ns.l,∀ z∈bu p n.id,gz p z):∃ q1 q2:aR 1 aK,q1.l=dF p/\q2.l=dQ p/\∃ N,aM S N 202 [.agg p.c] (.tuple [q1.v,q2.v]):=by
 have hfn:(dQ p).length<=2000000:=by have:=xZ (p:=p) p.ns.l;have h2:=zlz hn (show 2*p.az.l.length<=2000 by omega);unfold dQ;omega
 have R3:(dF p).length<=2000000:=by unfold dF;rw[zga];exact hfn
 have mB:(dF p).length<9223372036854775808:=Z;have iN:(dQ p).length<9223372036854775808:=Z;obtain⟨N1,h1⟩:∃ N,∀ n∈p.ns.l,∃ q:aR 1 aK,q.l=bt p n.id/\aM S N 242 [.agg p.c,aB n.id] q.v:=Yw (P:=fun(n:Nd) N=>∃ q:aR 1 aK,q.l=bt p n.id/\aM S N 242 [.agg p.c,aB n.id] q.v) (fun a n m hnm ⟨q,hq,h⟩=>⟨q,hq,fun m' hm'=>h m' Z⟩) fun n hn=>by let⟨q,hq,N,h⟩:=Mq hS p gV Z n.id (hok n hn);grind
 refine⟨bZ ze (dF p) mB,bZ ze (dQ p) iN,zM ..,zM ..,N1+p.ns.l.length+3001,zr (i:=i202) (hS _ _ M M M M) rfl rfl (bP rfl) (N1+p.ns.l.length+3000) fun m hm d ah t af=>?_⟩;simp[slotsOf,za,zb,i202,Pn.c]at af;have pf:=fun(q:aR 1 aK)(pz:q.l.length<=2000) K t i B0 J0 ru mv0 xs ys h0 h1 hxl V7 af hK=>@Vc S hS p q Z m d ah Z K t i B0 J0 ru mv0 xs ys h0 h1 hxl V7 af hK;rw[show i202.body=.seq (i202.body.sub [0]) (.seq (i202.body.sub [1,0]) (.seq (.seq (i202.body.sub [1,1,0,0]) (.block 0 (.loop (.seq (.seq (i202.body.sub [1,1,0,1,0,0,0,0]) (i202.body.sub [1,1,0,1,0,0,0,1])) (.seq (.block 1 (.seq (i202.body.sub [1,1,0,1,0,0,1,0,0,0]) (i202.body.sub [1,1,0,1,0,0,1,0,0,1]))) (i202.body.sub [1,1,0,1,0,0,1,1])))))) (.seq (i202.body.sub [1,1,1,0]) .ret)))from rfl];generalize i202.body.sub [1,1,0,1,0,0,1,0,0,1]=T at pf ⊢;simp[i202,IC.sub,V0,af];refine zm p.ns.l.length (fun i st=>∃(B:Nat->Nat)(J:aS)(lv mv:IV),dH aK 1 d 1 B 0 J lv ((p.ns.l.take i).flatMap fun n=>pe (bt p n.id))/\dH aK 1 d 1 B 1 J mv ((p.ns.l.take i).flatMap fun n=>bt p n.id)/\st.aa=p.o::J/\aN 51 st.t [(1,.ptrM d 0 0),(4,lv),(5,mv),(6,iv i)]) Z ⟨fun _=>0,[],.nilsl,.nilsl,.inl ⟨rfl,rfl⟩,.inl ⟨rfl,rfl⟩,rfl,by simp[V0,Xa,Xe,af,cZ]⟩ ?_;clear af;rintro i ⟨t,aa⟩ KA hi ⟨B,J,lv,mv,F8,cL,rfl,af⟩ bp bK bQ;simp[za,zb,zf]at af;by_cases h:i<p.ns.l.length;rotate_left
 .simp[V0,Xa,Xe,af,h];refine bK _ _ ?_;rw[fT Z]at F8 cL;obtain⟨m,rfl⟩:=gv m 3;have f1:freeze (m+2) d (p.o::J) lv=some (bZ ze (dF p) mB).v:=ZT (Pre:=[_]) ze rfl (fun a x hx m' hm' _ _=>yO a x hx m' Z _ _) mB F8;have f2:freeze (m+2) d (p.o::J) mv=some (bZ ze (dQ p) iN).v:=ZT (Pre:=[_]) ze rfl (fun a x hx m' hm' _ _=>yO a x hx m' Z _ _) iN cL;simp only[V0,Xa,Xe,af];refine⟨_,rfl,?_⟩;show([lv,mv].mapM (freeze (m+2) d (p.o::J))).map IV.tuple=_;simp[*]
 have hx:p.ns.l[i]?=some p.ns.l[i]:=dw h;let⟨q,hq,cq⟩:=h1 _ (gQ h);generalize p.ns.l[i]=x at hx hq cq;have cq:=cq m Z;simp[Pn.c]at cq;have pz:q.l.length<=2000:=by rw[hq];have:=YU p x.id;omega
 have hrd:bB (p.ns.l.flatMap Nd.c) (i*3) 1=some [aB x.id]:=xfn;have b1:=xZ (p:=p) (p.ns.l.take i);have b2:=zga (p:=p) (p.ns.l.take i);rw[ER,ML Z]at b1;have b3:=zlz (show i<=1000 by omega) (show 2*p.az.l.length<=2000 by omega);simp[V0,Xa,Xe,af,h,zc p.ns h,hrd,cq];refine pf q Z _ _ i B _ lv mv _ _ (F8.more _) (cL.more _) Z Z xap fun t' B' J' cH mv' g1 g2 ht'=>?_;clear af;simp[za,zb,zf]at ht';simp only[V0,Xa,ht',(zt i)];refine bp Z _ ⟨B',J',cH,mv',?_,?_,rfl,by simp[V0,Xa,Xe,ht']⟩
 .rw[zy hx,Bh,eT,jm,gF,←hq];omega
 .rw[zy hx,Bh,eT,jm,gF,←hq];omega
def tJ(ds nx:List Int)(z:Int):Nat->Int
 |0=>0
 |i+1=>match ds[i]?,nx[i]? with
  |some a,some b=>if (a==z)=true then b else tJ ds nx z i
  |_,_=>tJ ds nx z i
def K1(ds nx:List Int)(z:Int):Int:=tJ ds nx z ds.length
def eV(l:List Int):Int:=(l[l.length-1]?).getD 0
def ku(f:Int->Int)(dJ:Int):Nat->List Int->List Int
 |0,l=>l
 |k+1,l=>if (f (eV l)==dJ)=true then l else ku f dJ k (l++[f (eV l)])
def dV(ds nx:List Int)(dJ:Int):List Int:=ku (K1 ds nx) dJ ds.length [dJ]
theorem zac{f:Int->Int}{dJ:Int}:∀(k:Nat)(l:List Int),l.length<=(ku f dJ k l).length/\(ku f dJ k l).length<=l.length+k
 |0,l=>⟨cI _,by simp[ku]⟩
 |k+1,l=>by
  unfold ku;split
  .omega
  .have:=zac (f:=f) (dJ:=dJ) k (l++[f (eV l)]);grind
theorem Ri(hS:bk S)(q1 q2:aR 1 aK)(hq:q2.l.length=q1.l.length)(hn:q1.l.length<=10000000)(dJ:Int):∃ q:aR 1 aK,q.l=dV q1.l q2.l dJ/\aM S (q1.l.length+20) 205 [q1.v,q2.v,aB dJ] q.v:=by
 have jM:=zac (f:=K1 q1.l q2.l) (dJ:=dJ) q1.l.length [dJ];have hlim:(dV q1.l q2.l dJ).length<9223372036854775808:=by unfold dV;grind
 generalize hN:q1.l.length=n at *;refine⟨gB ze (dV q1.l q2.l dJ) (dV q1.l q2.l dJ).length (decide (dV q1.l q2.l dJ=[dJ])) rfl hlim,rfl,zr (i:=i205) (hS _ _ M M M M) rfl rfl (bP rfl) (n+19) fun m hm d ah t af=>?_⟩;simp[V2,Xb,i205]at af;have Pd:∀{D ah aJ aa},iY D ah aJ aa 1 q1.v=some (.p,aB (n:Nat),aa):=fun{D ah aJ aa}=>by rw[←hN];exact yx q1
 simp[i205,V0,Xa,Xe,af,Vz];refine zn (fun jj st=>∃(l:List Int)(lv:IV),n+1-l.length<=jj/\l≠[]/\l.length<=n+1/\ku (K1 q1.l q2.l) dJ (n+1-l.length) l=dV q1.l q2.l dJ/\((l=[dJ]/\lv=.slC [aB dJ] 1 1 true)∨(2<=l.length/\bE aK 1 d 0 st.aa lv l))/\aN 47 st.t [(0,q1.v),(1,q2.v),(2,aB dJ),(7,lv)]) n Z ⟨[dJ],_,M,M,M,by rw[fB,gq,eB,zme,←hN];rfl,.inl ⟨rfl,rfl⟩,by simp[V0,Xa,Xe,reduceCtorEq,af]⟩ ?_;clear af;rintro jj ⟨t,aa⟩ KA ⟨l,lv,hjj,hne,IZ,lR,hlv,af⟩ bp bK bQ;dsimp only at hlv;simp[za,zb]at af;have hlp:0<l.length:=MH.2 hne;have Wk:∀{D ah aJ aa},iY D ah aJ aa 1 lv=some (.p,aB (l.length:Nat),aa):=fun{D ah aJ aa}=>by
  rcases hlv with⟨rfl,rfl⟩|⟨_,h⟩
  .rfl
  .exact(zf0 (Pre:=[]) h).len
 have frz:∀(aU R:aS),aU=aa++R->l=dV q1.l q2.l dJ->freeze m d aU lv=some (gB ze (dV q1.l q2.l dJ) (dV q1.l q2.l dJ).length (decide (dV q1.l q2.l dJ=[dJ])) rfl hlim).v:=fun aU R hoR hl=>by
  subst hoR;have gen:∀(x:List Int)(hx:x.length<9223372036854775808),x=l->freeze m d (aa++R) lv=some (gB ze x x.length (decide (x=[dJ])) rfl hx).v:=by
   rintro x hx rfl;rcases hlv with⟨rfl,rfl⟩|⟨h2,h⟩
   .obtain⟨m,rfl⟩:=gv m 2;rw[decide_eq_true rfl];rfl
   .have qm:x≠[]:=hne;have h3:=yy (Pre:=[]) (m:=m) ze yO Z hx (h.more R);rw[fP]at h3;rw[h3,(decide_eq_false fun e=>by grind)];cases x with
    |nil=>grind
    |cons a b=>rfl
  grind
 by_cases h:l.length<=n;rotate_left
 .simp[V0,Xa,Xe,reduceCtorEq,af,Wk,Pd,(eq_false Z)];refine bK _ _ ?_;rw[show n+1-l.length=0 by omega]at lR;simp only[V0,Xa,Xe,af];exact⟨_,rfl,frz _ [] M lR⟩
 have r9:l[l.length-1]?=some (eV l):=by unfold eV;grind
 rw[(show n+1-l.length=(n-l.length)+1 by omega)]at lR;simp[V0,Xa,Xe,reduceCtorEq,af,Wk,Pd,(eq_true Z:(((l.length:Nat):Int)<=((n:Nat):Int))=True)];refine zn (fun jj st=>∃(i:Nat),n-i<=jj/\i<=n/\st.aa=aa/\aN 47 st.t [(0,q1.v),(1,q2.v),(2,aB dJ),(7,lv),(8,aB (tJ q1.l q2.l (eV l) i)),(9,iv i)]) n Z ⟨0,Z,Z,rfl,by simp only[V0,Xa,Xe,reduceCtorEq,af,cZ];rfl⟩ ?_;clear af;rintro jj2 ⟨t,rW⟩ KB ⟨i,hjj2,hi,rfl,af⟩ gJ jL kP;simp[za,zb,zf]at af;by_cases h2:i<n
 .have hi1:i<q1.l.length:=Z;have hi2:i<q2.l.length:=Z;obtain⟨x,hx⟩:=fc (l:=q1.l) (i:=i) hi1;obtain⟨y,hy⟩:=fc (l:=q2.l) (i:=i) hi2;have gE:bB (q1.l.flatMap aK) (i*1) 1=some [aB x]:=zd ze 0 1 hx Z;have r7:bB (q2.l.flatMap aK) (i*1) 1=some [aB y]:=zd ze 0 1 hy Z;have hw:=zt i;have hwl:aT .i64 (((l.length:Nat):Int)-1)=((l.length-1:Nat):Int):=oS;have qm:tJ q1.l q2.l (eV l) (i+1)=if (x==eV l)=true then y else tJ q1.l q2.l (eV l) i:=by
   conv=>lhs;unfold tJ
   grind
  rcases hlv with⟨rfl,rfl⟩|⟨iN,hO⟩
  .have hwl:aT .i64 (((1:Nat):Int)-1)=((0:Nat):Int):=rfl;have hil:∀ aa,cu aa 1 (.slC [aB dJ] 1 1 true) (aB ((0:Nat):Int))=some (.p,.ptrC [aB dJ] 0,aa):=fun aa=>zC (i:=0) M;have hrl:bB [aB dJ] 0 1=some [aB (eV [dJ])]:=rfl;cases g:x==eV [dJ]
   .rw[g,b9 M]at qm;simp only[V0,Xa,Xe,reduceCtorEq,zc q1 hi1, *];exact xa0
   .rw[g,bU rfl]at qm;simp only[V0,Xa,Xe,reduceCtorEq,zc q1 hi1,zc q2 hi2, *];exact xa0
  .rcases id hO with⟨he,_⟩|⟨b,_,rfl,hb⟩
   .grind
   have IZ:l.length-1<l.length:=Z;have hrl:bB (l.flatMap aK) ((l.length-1)*1) 1=some [aB (eV l)]:=zd ze 0 1 r9 Z;have hho:∀ vis,(bI vis rW.length rW)[b]?=some (aH (l.flatMap aK)):=fun vis=>by have:=Yr hb vis [];grind
   cases g:x==eV l
   .rw[g,b9 M]at qm;simp only[V0,Xa,Xe,reduceCtorEq,zc q1 hi1,zo, *];exact xa0
   .rw[g,bU rfl]at qm;simp only[V0,Xa,Xe,reduceCtorEq,zc q1 hi1,zo,zc q2 hi2, *];exact xa0
 .simp[V0,Xa,Xe,reduceCtorEq,af,Pd,h2];refine jL _ _ ?_;have hnr:tJ q1.l q2.l (eV l) i=K1 q1.l q2.l (eV l):=by unfold K1;grind
  rw[hnr]at af;unfold ku at lR;cases g:K1 q1.l q2.l (eV l)==dJ
  .rw[g,b9 M]at lR;have ac2:ku (K1 q1.l q2.l) dJ (n+1-(l++[K1 q1.l q2.l (eV l)]).length) (l++[K1 q1.l q2.l (eV l)])=dV q1.l q2.l dJ:=by grind
   generalize K1 q1.l q2.l (eV l)=z at af g ac2;rcases hlv with⟨rfl,rfl⟩|⟨iN,hO⟩
   .have bz:∀ lk,aY d rW.length lk (rW++[.free]) 1 (.slC [aB dJ] 1 1 true) [aB z] 1 0=some (.a,.slM d rW.length 0 2 2 1 false,rW++[aH [aB dJ,aB z]]):=fun lk=>by rw[AV M M rfl];unfold dD;rw[tY,q8 (cI _),Ew];simp only[rH,zi,zlu _ _ (cI _),Ew,RP];rfl
    simp[V0,Xa,Xe,af,g,rep,zh,zl,zq,zw,bz];refine bp _ (n+1-2) (by grind) ⟨[dJ]++[z],_,M,M,by grind,ac2,.inr ⟨M,.inr ⟨rW.length,M,by rfl,by rw[q8 (cI _),Ew];rfl⟩⟩,by simp[V0,Xa,Xb,Xe,reduceCtorEq,af]⟩
   .obtain⟨e,cH,J2,bz,cL⟩:=zI (Pre:=[]) (n0:=rW.length) (slot:=0) (k:=0) (ah:=ah) (R:=[.free]) ze hO (ys:=[z]) M (by grind) M rfl rfl;simp[fP,eT,jm,aK,zf,fB,gq,gF,eB]at bz;simp[V0,Xa,Xe,af,g,rep,zh,zl,zq,zw,bz];refine bp _ (n+1-(l.length+1)) Z ⟨l++[z],cH,M,M,by grind,ac2,.inr ⟨by grind,cL⟩,by simp[V0,Xa,Xe,reduceCtorEq,af]⟩
  .rw[g,bU rfl]at lR;simp[V0,Xa,Xe,af,g];refine bQ _ ?_;simp only[V0,Xa,af];simp[*]
def gK{I:Type}(f:Int->I)(g:I->List Int):List Int->List Int->List I->List I
 |[],_,o=>o
 |z::ds,met,o=>if met.contains z=true then gK f g ds met o else gK f g ds (met++g (f z)) (o++[f z])
theorem zcs{I:Type}(f:Int->I)(g:I->List Int):∀(ds met:List Int)(o:List I),(gK f g ds met o).map g=gK (fun z=>g (f z)) id ds met (o.map g)
 |[],_,_=>rfl
 |z::ds,met,o=>by
  unfold gK;split
  .exact zcs f g ds met o
  .rw[zcs f g ds _ _,Hi];rfl
theorem yV{I:Type}(f:Int->I)(g:I->List Int):∀(ds met:List Int)(o:List I),(gK f g ds met o).length<=o.length+ds.length
 |[],_,_=>by simp[gK]
 |z::ds,met,o=>by
  unfold gK;split
  .have:=yV f g ds met o;grind
  .have:=yV f g ds (met++g (f z)) (o++[f z]);grind
def bn(p:Pn):List (List Int):=gK (dV (dF p) (dQ p)) id (aZ p) [] []
theorem Gv(q:aR 1 aK):∀ x∈gp q,Fz 3 x:=fun x hx=>by simp[gp,eG,gm,gw]at hx;subst hx;exact zP yO q
theorem vO(hS:bk S)(p:Pn)(gV:bL p)(ha:p.az.l.length<=200)(hn:p.ns.l.length<=200)(hok:∀ n∈p.ns.l,∀ z∈bu p n.id,gz p z)(hE:jq p=0):∃ cs:aR 1 gp,cs.l.map (·.l)=bn p/\∃ N,aM S N 172 [.agg p.c] (.tuple [cs.v,aB 0]):=by
 let⟨N0,h0⟩:=zaq hS p;rw[hE]at h0;let⟨q1,q2,hq1,lQ,N1,h1⟩:=AQ hS p gV Z Z hok;let⟨q3,Lg,h3⟩:=Rh hS p Z;have hfl:q2.l.length=q1.l.length:=by rw[hq1,lQ];unfold dF dQ;rw[zga]
 have hfb:q1.l.length<=80000:=by rw[←hfl,lQ];have:=xZ (p:=p) p.ns.l;have h2:=zlz hn (show 2*p.az.l.length<=400 by omega);unfold dQ;omega
 let⟨cq,hcq⟩:=znw fun z=>Ri hS q1 q2 hfl Z z;have hdl:(aZ p).length<=400:=xcv
 have hlen:=yV cq (fun q:aR 1 aK=>q.l) (aZ p) [] [];have hlim:(gK cq (fun q:aR 1 aK=>q.l) (aZ p) [] []).length<9223372036854775808:=by grind
 have hmap:(gK cq (fun q:aR 1 aK=>q.l) (aZ p) [] []).map (·.l)=bn p:=by have h:=zcs cq (fun q:aR 1 aK=>q.l) (aZ p) [] [];rw[show(fun q:aR 1 aK=>q.l)=(·.l)from rfl]at h;unfold bn;simp[*]
 generalize hT:gK cq (fun q:aR 1 aK=>q.l) (aZ p) [] []=T at hlim hmap hlen;have jM:∀ z,(cq z).l.length<=80001/\(cq z).l≠[]:=fun z=>by rw[(hcq z).1];have:=zac (f:=K1 q1.l q2.l) (dJ:=z) q1.l.length [z];unfold dV;grind
 refine⟨bZ zx T hlim,by rw[zM];omega,N0+N1+40000000,zr (i:=i172) (hS _ _ M M M M) rfl rfl (bP rfl) (N0+N1+39999999) fun m hm d ah t af=>?_⟩;simp[slotsOf,za,zb,i172,Pn.c]at af;have c0:=h0 m Z;have c1:=h1 m Z;have c3:=h3 m Z;simp[Pn.c]at c0 c1 c3;simp[i172,V0,Xa,Xb,Xe,af,c0,(rfl:((0:Int) != 0)=false),c1,c3,bF];refine zn (fun jj st=>∃(i:Nat)(B:Nat->Nat)(J:aS)(mv ov:IV)(met:List Int)(o:List (aR 1 aK)),(aZ p).length-i<=jj/\i<=(aZ p).length/\gK cq (fun q:aR 1 aK=>q.l) ((aZ p).drop i) met o=T/\met.length<=i*80001/\o.length<=i/\dH aK 1 d 1 B 0 J mv met/\dH gp 1 d 1 B 1 J ov o/\st.aa=p.o::J/\aN 51 st.t [(5,ov),(6,mv),(7,q1.v),(8,q2.v),(9,q3.v),(10,iv i)]) (aZ p).length Z ⟨0,fun _=>0,_,.nilsl,.nilsl,[],[],Z,Z,hT,M,M,.inl ⟨rfl,rfl⟩,.inl ⟨rfl,rfl⟩,rfl,by simp[V0,Xa,Xe,af,cZ]⟩ ?_;clear af;rintro jj ⟨t,aa⟩ KA ⟨i,B,J,mv,ov,met,o,hjj,hi,lR,hml,hol,hM,hO,rfl,af⟩ bp bK bQ;simp[za,zb,zf]at af;rw[←Lg]at hjj hi bp lR hdl;by_cases h:i<q3.l.length;rotate_left
 .simp[V0,Xa,Xe,af,h];refine bK _ _ ?_;rw[Sj Z]at lR;unfold gK at lR;subst lR;obtain⟨m,rfl⟩:=gv m 5;have f1:freeze (m+4) d (p.o::J) ov=some (bZ zx o hlim).v:=ZT (Pre:=[_]) zx rfl (fun a x hx m' hm' _ _=>Gv a x hx m' Z _ _) hlim hO;simp only[V0,Xa,Xe,af];refine⟨_,rfl,?_⟩;show([ov,aB 0].mapM (freeze (m+4) d (p.o::J))).map IV.tuple=_;rw[yw f1 (yw rfl zcb)];rfl
 have hx:q3.l[i]?=some q3.l[i]:=dw h;rw[(EU h)]at lR;generalize q3.l[i]=z at hx lR;have gE:bB (q3.l.flatMap aK) (i*1) 1=some [aB z]:=zd ze 0 1 hx Z;have hw:=zt i;have hmb:=zlz (show i<=400 by omega) (cI 80001);have hrd:∀ R:aS,RdI (d+1) (fun l=>if l=d then p.o::(J++R)else ah l) mv met:=fun R=>by
  rcases hM with⟨rfl,rfl⟩|⟨b,hne,rfl,hb,_⟩
  .exact xeg
  .refine .inr ⟨d,_,_,_,Z,rfl,?_⟩;grind
 have adw:=fun aa id=>aa8 hS met Z z (m:=m) (d:=d) (ah:=ah) (aJ:=p.o::(J++[.free])) (aa:=aa) (id:=id) (lv:=mv) Z (hrd _);unfold gK at lR;cases g:met.contains z
 .rw[g,b9 M]at lR;let⟨hq,agm⟩:=jM z;have hlk:∀(aa:aS)(n:Nat)(j:Nat)(x:aP),j<n->aa[j]?=some x->look d ah aa d j=some x:=fun aa n j x _ hx=>by unfold look;grind
  have ag1:∀ xs:List Int,(xs.flatMap aK).all IV.scalar=true:=fun xs=>nu.2 fun x hx=>xbq
  obtain⟨e1,mv',J1,ha1,_,hM1,hJ1,Pb⟩:=yE (k0:=1) (n0:=J.length+1+1+1) (slot:=0) (k:=2) (Pre:=[p.o]) (R:=[.free,.free,.free]) ze rfl hM (ys:=(cq z).l) (fun e=>agm (EC e)) Z Z rfl (ag1 _);obtain⟨e2,ov',J2,ha2,_,cL,hJ2,Pa⟩:=yE (k0:=1) (n0:=J1.length+1) (slot:=0) (k:=0) (Pre:=[p.o]) (R:=[.free]) zx rfl (Pb M hO) (ys:=[cq z]) M (by grind) Z rfl xfz;have ap1:=ha1 _ (hlk _ _);have ap2:=ha2 _ (hlk _ _);simp[gu,fP,eT,jm,gp,fB,gq,gF,eB]at ap1 ap2;simp only[V0,Xa,Xb,Xe,af,h,zc q3 h,gE,adw,g,(fun z d ah aJ aa i=>(hcq z).2 m Z d ah aJ aa i),zh,zl,zq,zB,ap1,Vz,ZA,ap2,hw];exact bp _ (q3.l.length-(i+1)) Z ⟨i+1,_,J2,mv',ov',met++(cq z).l,o++[cq z],Z,Z,lR,by grind,by grind,(Pa M hM1),cL,rfl,by simp[V0,Xa,Xe,af]⟩
 .rw[g,bU rfl]at lR;simp only[V0,Xa,Xe,af,h,zc q3 h,gE,adw,g,hw];refine bp _ (q3.l.length-(i+1)) Z ⟨i+1,B,J++[.free],mv,ov,met,o,(cI _),Z,lR,(iQ hml (MI _ (Nat.le_succ i))),Z,hM.more _,hO.more _,rfl,by simp[V0,Xa,Xe,af]⟩
def Ox(p:Pn)(z:Int):Bool:=p.az.l.any fun a=>a.id==z||a.id==iR z
def o9(acc:Int)(a b:Pt):Int:=aT .i64 (aT .i64 (acc+aT .i64 (a.x*b.y))-aT .i64 (b.x*a.y))
def pO(l:List Pt)(acc:Int):Nat->Int
 |0=>acc
 |k+1=>match l[k]?,l[k+1]? with
  |some a,some b=>o9 (pO l acc k) a b
  |_,_=>pO l acc k
def twP(l:List Pt)(acc:Int):Int:=pO l acc (l.length-1)
def jv(p:Pn)(l:List Int):Int:=l.foldl (fun acc z=>twP (bR p z) acc) 0
def abc(a:Ac):Fz 8 (.agg a.c):=fun m hm lv aa=>(PD (k:=6) (zft a)) m Z lv aa
theorem aba(hS:bk S)(p:Pn)(z:Int):∃(a:Ac)(b:Bool),aM S (p.az.l.length+15) 243 [.agg p.c,aB z] (.tuple [.agg a.c,.bool b,.bool (Ox p z)]):=by
 have MR:=p.az.eZ;have hfz:∀(a:Ac)(b c:Bool),Fz 9 (.tuple [.agg a.c,.bool b,.bool c]):=fun a b c=>Dk fun x hx=>by
  simp[eG,gm,gw]at hx;rcases hx with rfl|rfl|rfl
  .exact abc a
  .exact fun m hm lv aa=>zk m Z lv aa
  .exact fun m hm lv aa=>zk m Z lv aa
 cases hf:p.az.l.findIdx? fun a=>a.id==z||a.id==iR z with
 |none =>
  rw[zkd]at hf
  have hok:Ox p z=false:=by unfold Ox;grind
  refine⟨Bl,false,zr (i:=i243) (hS _ _ M M M M) rfl rfl (bP rfl) (p.az.l.length+14) fun m hm d ah t af=>?_⟩
  rw[hok]
  simp[V2,i243,Pn.c]at af
  simp[i243,V0,Xb,af]
  refine zn (fun jj st=>∃(i:Nat),p.az.l.length-i<=jj/\i<=p.az.l.length/\st.aa=[p.o,aH [aB 0,aB 0,aB 0,.nilsl,aB 0,aB 0]]/\aN 43 st.t [(1,aB z),(2,.ptrM d 0 0),(4,.ptrM d 1 0),(7,iv i)]) p.az.l.length Z ⟨0,Z,Z,rfl,by simp[V0,Xa,Xe,af,cZ]⟩ ?_
  clear af
  rintro jj ⟨t,aa⟩ KA ⟨i,hjj,hi,rfl,af⟩ bp bK bQ
  simp[za,zb,zf]at af
  by_cases h:i<p.az.l.length
  .have hx:p.az.l[i]?=some p.az.l[i]:=dw h
   have hne:=hf _ (gQ h)
   generalize p.az.l[i]=x at hx hne
   have s8:bB (p.az.l.flatMap Ac.c) (i*6) 1=some [aB x.id]:=xb2
   have hw:=zt i
   rw[Ez]at hne
   let⟨n1,n2⟩:=hne
   unfold iR at n2
   simp only[V0,Xa,Xb,Xe,zc p.az h, *]
   exact bp _ (p.az.l.length-(i+1)) Z ⟨i+1,Z,Z,rfl,by simp[V0,Xa,Xe,af]⟩
  .simp[V0,Xa,Xb,Xe,af,h]
   refine bK _ _ ?_
   simp only[V0,Xa,Xb,Xe,af,bh,mq,qi,nY,nZ]
   exact⟨_,rfl,hfz Bl false false m Z _ _⟩
 |some k =>
  let⟨hk,sB,F3⟩:=EW.1 hf
  have V8:p.az.l[k]?=some p.az.l[k]:=dw hk
  have hok:Ox p z=true:=by unfold Ox;grind
  generalize p.az.l[k]=a at V8 sB
  refine⟨a,!(a.id==z),zr (i:=i243) (hS _ _ M M M M) rfl rfl (bP rfl) (p.az.l.length+14) fun m hm d ah t af=>?_⟩
  rw[hok]
  simp[V2,i243,Pn.c]at af
  simp[i243,V0,Xb,af]
  refine zm k (fun i st=>st.aa=[p.o,aH [aB 0,aB 0,aB 0,.nilsl,aB 0,aB 0]]/\aN 43 st.t [(1,aB z),(2,.ptrM d 0 0),(4,.ptrM d 1 0),(7,iv i)]) Z ⟨rfl,by simp[V0,Xa,Xe,af,cZ]⟩ ?_
  clear af
  rintro i ⟨t,aa⟩ KA hi ⟨rfl,af⟩ bp bK bQ
  simp[za,zb,zf]at af
  have h:i<p.az.l.length:=Z
  have hx:p.az.l[i]?=some p.az.l[i]:=dw h
  by_cases hik:i=k
  .subst hik
   rw[s6 (hx.symm.trans V8)]at hx
   have s8:bB (p.az.l.flatMap Ac.c) (i*6) 1=some [aB a.id]:=xb2
   have hr6:bB (p.az.l.flatMap Ac.c) (i*6) 6=some [aB a.id,aB a.fr,aB a.to,a.via.v,aB a.l,aB a.r]:=xa9
   cases g1:a.id==z
   .have g2:(a.id==aT .i64 (0-z))=true:=by rw[g1,jg]at sB;exact sB
    simp only[V0,Xa,Xb,Xe,zc p.az h, *]
    refine bQ _ ?_
    simp only[V0,Xa,Xe,af,bh,mq,qi,nY,nZ]
    refine⟨_,rfl,?_⟩
    rw[g1]
    exact hfz a true true m Z _ _
   .simp[V0,Xa,Xb,Xe,zc p.az h, *]
    refine bQ _ ?_
    simp only[V0,Xa,Xe,af,bh,mq,qi,nY,nZ]
    refine⟨_,rfl,?_⟩
    rw[g1]
    exact hfz a false true m Z _ _
  .have hne:((p.az.l[i].id==z)||(p.az.l[i].id==iR z))=false:=by grind
   generalize p.az.l[i]=x at hx hne
   have s8:bB (p.az.l.flatMap Ac.c) (i*6) 1=some [aB x.id]:=xb2
   have hw:=zt i
   rw[Ez]at hne
   let⟨n1,n2⟩:=hne
   unfold iR at n2
   simp only[V0,Xa,Xb,Xe,zc p.az h, *]
   exact bp Z _ ⟨rfl,by simp[V0,Xa,Xe,af]⟩
theorem Mg(hS:bk S)(p:Pn)(z:Int):aM S (p.az.l.length+25) 206 [.agg p.c,aB z] (.bool (Ox p z&&!(z==0))):=by
 let⟨a,b,h1⟩:=aba hS p z;refine zg (i:=i206) (hS _ _ M M M M) rfl rfl (bP rfl) (p.az.l.length+24) Z zk fun m hm d ah t af=>?_;simp[V2,i206,Pn.c]at af;have c1:=h1 m Z;simp[Pn.c,Ac.c,zf]at c1;cases g:Ox p z
 .simp only[i206,V0,Xa,Xb,Xe,af,c1,bF,g,dZ]
 .have hne:(z != 0)=!(z==0):=rfl;simp only[i206,V0,Xa,Xb,Xe,af,c1,bF,g,hne]
theorem zct(hS:bk S)(p:Pn)(gV:bL p)(l:aR 1 aK)(hl:l.l.length<=512)(hok:∀ z∈l.l,gz p z/\Ox p z=true/\z≠0):∃ N,aM S N 173 [.agg p.c,l.v] (aB (jv p l.l)):=by
 obtain⟨N1,h1⟩:∃ N,∀ z∈l.l,∃ q:aR 2 Pt.c,q.l=bR p z/\aM S N 207 [.agg p.c,aB z] q.v:=Yw (P:=fun(z:Int) N=>∃ q:aR 2 Pt.c,q.l=bR p z/\aM S N 207 [.agg p.c,aB z] q.v) (fun a n m hnm ⟨q,hq,h⟩=>⟨q,hq,fun m' hm'=>h m' Z⟩) fun z hz=>by let⟨q,hq,N,h⟩:=D6 hS p z gV (hok z hz).1;grind
 have hpl:∀ z,2<=(bR p z).length/\(bR p z).length<=100002:=fun z=>by
  exact xer
 refine⟨N1+p.az.l.length+200001,zg (i:=i173) (hS _ _ M M M M) rfl rfl (bP rfl) (N1+p.az.l.length+200000) Z zp fun m hm d ah t af=>?_⟩;simp[V2,i173,Pn.c]at af;simp[i173,V0,Xa,Xe,af,(show decide (((l.l.length:Nat):Int)>512)=false by grind)];refine zm l.l.length (fun i st=>∃(J:aS),st.aa=p.o::J/\aN 65 st.t [(1,l.v),(2,.ptrM d 0 0),(5,aB (jv p (l.l.take i))),(6,iv i)]) Z ⟨[],rfl,by simp only[V0,Xa,Xe,af,cZ];rfl⟩ ?_;clear af;rintro i ⟨t,aa⟩ KA hi ⟨J,rfl,af⟩ bp bK bQ;simp[za,zb,zf]at af;by_cases h:i<l.l.length;rotate_left
 .simp[V0,Xa,Xe,af,h];refine bK _ _ ?_;simp[V0,Xa,Xe,af,(fT Z:l.l.take i=l.l)]
 have hx:l.l[i]?=some l.l[i]:=dw h;have hmem:=gQ h;generalize l.l[i]=z at hx hmem;let⟨q,hq,cq⟩:=h1 z hmem;obtain⟨_,hoA,hz0⟩:=hok z hmem;have cq:=cq m Z;have cv:=Mg hS p z m Z;rw[hoA,(show(z==0)=false by grind)]at cv;simp[Pn.c,Hg,JY]at cq cv;have pz:=hpl z;rw[←hq]at pz;have gE:bB (l.l.flatMap aK) (i*1) 1=some [aB z]:=xbu;have hst:jv p (l.l.take (i+1))=twP q.l (jv p (l.l.take i)):=by rw[zy hx,hq];unfold jv;simp
 generalize jv p (l.l.take i)=acc at af hst;simp only[V0,Xa,Xe,af,h,zc l h,gE,cv,cq,Xb];refine zn (fun jj st=>∃(k:Nat)(J:aS),q.l.length-1-k<=jj/\k<=q.l.length-1/\st.aa=p.o::J/\aN 65 st.t [(1,l.v),(2,.ptrM d 0 0),(5,aB (pO q.l acc k)),(6,iv i),(7,q.v),(8,aB ((k+1:Nat):Int))]) q.l.length Z ⟨0,_,Z,Z,rfl,by simp only[V0,Xa,Xe,af];trivial⟩ ?_;clear af;rintro jj2 ⟨t,aa⟩ KB ⟨k,J2,hjj2,hk,rfl,af⟩ gJ jL kP;simp only[V3]at af;by_cases h2:k+1<q.l.length
 .have h3:k<q.l.length:=Z;have ha:q.l[k]?=some q.l[k]:=dw h3;have hb:q.l[k+1]?=some q.l[k+1]:=dw h2;generalize q.l[k]=a at ha;generalize q.l[k+1]=b at hb;have ra0:bB (q.l.flatMap Pt.c) (k*2) 1=some [aB a.x]:=(zd Pt.aV 0 1 ha Z).trans rfl;have rb0:bB (q.l.flatMap Pt.c) ((k+1)*2) 1=some [aB b.x]:=(zd Pt.aV 0 1 hb Z).trans rfl;have hs2:pO q.l acc (k+1)=o9 (pO q.l acc k) a b:=by
   conv=>lhs;unfold pO
   grind
  unfold o9 at hs2;simp only[V0,Xa,Xe,af,h2,(oS:aT .i64 (((k+1:Nat):Int)-1)=((k:Nat):Int)),zc q h3,zc q h2,ra0,((zd Pt.aV 1 1 ha Z).trans rfl:bB (q.l.flatMap Pt.c) (k*2+1) 1=some [aB a.y]),rb0,((zd Pt.aV 1 1 hb Z).trans rfl:bB (q.l.flatMap Pt.c) ((k+1)*2+1) 1=some [aB b.y]),(oS:aT .i64 (((k+1:Nat):Int)+1)=((k+1+1:Nat):Int))];exact gJ _ (q.l.length-1-(k+1)) Z ⟨k+1,J2,Z,Z,rfl,by simp[V0,Xa,Xe,af,hs2]⟩
 .simp only[V0,Xa,Xe,af,(eq_false Z)];refine jL _ _ ?_;rw[(show pO q.l acc k=twP q.l acc by unfold twP;grind),←hst]at af;simp only[V0,Xa,Xe,af,(zt i)];exact bp Z _ ⟨J2,rfl,by simp[V0,Xa,Xe,af]⟩
def GD(p:Pn)(z:Int):Prop:=∃ a∈p.az.l,(1<=a.id/\a.id<=4611686018427387904)/\(z=a.id∨z=-a.id)/\cQ p a.id=true
variable {z:Int}
theorem Iy(h1:-4611686018427387904<=z)(h2:z<=4611686018427387904):iR z=-z:=by unfold iR;rw[Int.zero_sub];exact zA rfl Z Z
theorem zcu{p:Pn}(h:GD p z):(cW z=z/\0<z∨cW z=iR z/\¬ 0<z)/\cQ p (cW z)=true/\gz p z/\Ox p z=true/\z≠0/\-4611686018427387904<=z/\z<=4611686018427387904:=by
 let⟨a,ha,⟨h1,h2⟩,hz,hok⟩:=h;have hn:iR z=-z:=Iy (by grind) (by grind);have aq:=abd h1 h2 (by
  rcases hz with h|h
  .exact .inl h
  .exact .inr (by rw [h,← Iy Z h2]; rfl))
 have hA:Ox p z=true:=by unfold Ox;grind
 refine⟨?_,by grind,?_,hA,Z,Z,Z⟩
 .grind
 .unfold gz;grind
def lH(a b:Int):Bool:=decide (cW a<cW b)||(cW a==cW b&&decide (b<a))
def o7(l:List Int)(k:Int):Nat->Int
 |0=>k
 |i+1=>match l[i]? with
  |some x=>if lH x (o7 l k i)=true then x else o7 l k i
  |none=>o7 l k i
def j6(l:List Int):Int:=o7 l ((l[0]?).getD 0) l.length
def HP(a b c:Pt):Int:=bif decide (0<Kh a b c)then 1 else bif decide (Kh a b c<0)then -1 else 0
def nC(a b p:Pt):Bool:=(HP a b p==0)&&(decide (qK a.x b.x<=p.x)&&(decide (p.x<=rz a.x b.x)&&(decide (qK a.y b.y<=p.y)&&decide (p.y<=rz a.y b.y))))
theorem AO(hS:bk S)(z:Int):aM S 2 210 [aB z] (aB (cW z)):=by refine zg (hS _ _ M M M M) rfl rfl (bP rfl) 1 Z zp fun m hm d ah t af=>?_;simp[slotsOf,za,zb,i210]at af;simp[i210,V0,Xa,Xe,reduceCtorEq,af,cW]
theorem vP(hS:bk S)(a b:Int):aM S 4 200 [aB a,aB b] (.bool (lH a b)):=by
 refine zg (hS _ _ M M M M) rfl rfl (bP rfl) 3 Z zk fun m hm d ah t af=>?_;simp[V2,i200]at af;have cs:=fun z d ah aJ aa i=>AO hS z m Z d ah aJ aa i;unfold lH;cases g1:decide (cW a<cW b)
 .cases g2:cW a==cW b
  .simp only[i200,V0,Xa,Xe,reduceCtorEq,af,cs,g1,g2,jg,dZ]
  .simp only[i200,V0,Xa,Xe,reduceCtorEq,af,cs,g1,g2,ez,jg]
 .simp only[i200,V0,Xa,Xe,reduceCtorEq,af,cs,g1,k9]
theorem aa7(hS:bk S)(l:aR 1 aK)(h0:l.l≠[]):aM S (l.l.length+10) 201 [l.v] (aB (j6 l.l)):=by
 refine zg (i:=i201) (hS _ _ M M M M) rfl rfl (bP rfl) (l.l.length+9) Z zp fun m hm d ah t af=>?_;simp[slotsOf,za,zb,i201]at af;have hlf:=l.eZ;have hpos:0<l.l.length:=MH.2 h0;have hx0:l.l[0]?=some l.l[0]:=dw hpos;unfold j6;rw[(show(l.l[0]?).getD 0=l.l[0] by grind)];generalize l.l[0]=k0 at hx0;have s8:bB (l.l.flatMap aK) 0 1=some [aB k0]:=zd (i:=0) ze 0 1 hx0 Z;have kX:∀ aa,cu aa 1 l.v (aB 0)=some (.p,.ptrC (l.l.flatMap aK) 0,aa):=fun aa=>zc l (i:=0) hpos;have cb:=fun a b d ah aJ aa i=>vP hS a b m Z d ah aJ aa i;simp[i201,V0,Xa,reduceCtorEq,af,kX,s8];refine zm l.l.length (fun i st=>∃(J:aS),st.aa=J/\aN 25 st.t [(0,l.v),(3,aB (o7 l.l k0 i)),(4,iv i)]) Z ⟨[],rfl,by simp only[V0,Xa,Xe,reduceCtorEq,af,cZ];rfl⟩ ?_;rintro i ⟨t,aa⟩ KA hi ⟨J,ho,af⟩ bp bK bQ;simp[za,zb,zf]at af;by_cases h:i<l.l.length
 .obtain⟨x,hx⟩:=fc (l:=l.l) (i:=i) h;have gE:bB (l.l.flatMap aK) (i*1) 1=some [aB x]:=zd ze 0 1 hx Z;have hw:=zt i;have hst:o7 l.l k0 (i+1)=if lH x (o7 l.l k0 i)=true then x else o7 l.l k0 i:=by
   conv=>lhs;unfold o7
   grind
  cases g:lH x (o7 l.l k0 i)
  .rw[g,b9 M]at hst;exact xcy
  .rw[g,bU rfl]at hst;exact xcy
 .simp[V0,Xa,Xe,reduceCtorEq,af,h];refine bK _ _ ?_;obtain rfl:i=l.l.length:=Z;exact xap
theorem zcv(hS:bk S)(a b c:Pt):aM S 2 245 [.agg a.c,.agg b.c,.agg c.c] (aB (HP a b c)):=by
 refine zg (hS _ _ M M M M) rfl rfl (bP rfl) 1 Z zp fun m hm d ah t af=>?_;simp[V2,Xb,i245,Pt.c,zf]at af;have EJ:aT .i64 (aT .i64 (aT .i64 (b.x-a.x)*aT .i64 (c.y-a.y))-aT .i64 (aT .i64 (c.x-a.x)*aT .i64 (b.y-a.y)))=Kh a b c:=by unfold Kh;grind
 unfold HP;cases g1:decide (0<Kh a b c)
 .cases g2:decide (Kh a b c<0)
  .simp[i245,V0,Xa,Xb,Xe,af,EJ,ez,g1,g2,bT]
  .simp[i245,V0,Xa,Xb,Xe,af,EJ,ez,g1,g2,bT,bV]
 .simp[i245,V0,Xa,Xb,Xe,af,EJ,ez,g1,bV]
theorem U9(hS:bk S)(a b c:Pt):aM S 4 244 [.agg a.c,.agg b.c,.agg c.c] (.bool (nC a b c)):=by
 refine zg (hS _ _ M M M M) rfl rfl (bP rfl) 3 Z zk fun m hm d ah t af=>?_;simp[V2,Xb,i244,Pt.c,zf]at af;have cs:=zcv hS a b c m Z;simp[Pt.c,zf]at cs;unfold nC;generalize HP a b c=s at cs;cases g0:s==0
 .simp only[i244,V0,Xa,Xb,Xe,af,cs,g0,dZ]
 cases g1:decide (qK a.x b.x<=c.x)
 .have g1':=g1;unfold qK at g1';simp only[i244,V0,Xa,Xb,Xe,af,cs,g0,g1',dZ]
 cases g2:decide (c.x<=rz a.x b.x)
 .unfold qK at g1;unfold rz at g2;simp only[i244,V0,Xa,Xb,Xe,dZ, *]
 cases g3:decide (qK a.y b.y<=c.y)
 .unfold qK at g1 g3;unfold rz at g2;simp only[i244,V0,Xa,Xb,Xe,dZ, *]
 .unfold qK at g1 g3;unfold rz at g2;simp only[i244,V0,Xa,Xb,Xe,ez,rz, *];rfl
variable {x:Nd}
section
variable {p:Pn} (h:aX p)
include h
theorem aX.ng(ha:a∈p.az.l):iR a.id=-a.id:=by have:=h.pid a ha;exact Iy Z Z
theorem aX.ng2(ha:a∈p.az.l):iR (-a.id)=a.id:=by have:=h.pid a ha;rw[Iy Z Z,Sf]
theorem aX.inE(ha:a∈p.az.l):(a.id,0)∈h.eH.E:=by have:=yv (p:=p) (a:=a);exact kO.2 ⟨_,YT ha (show 0<(bC p a).length-1 by omega),rfl⟩
theorem aX.ofE(hz:(z,k)∈h.eH.E):∃ a∈p.az.l,a.id=z/\k<(bC p a).length-1:=by let⟨s,hs,e⟩:=kO.1 hz;obtain⟨x,hx,i,hi,rfl⟩:=Zh hs;grind
theorem aX.len(ha:a∈p.az.l):h.eH.len a.id=(bC p a).length-1:=by show(dW p a.id).length-1=_;rw[(h.nice.path ha).2]
theorem aX.pt(ha:a∈p.az.l)(k:Nat):h.eH.pt a.id k=(bC p a).getD k fS:=by show(dW p a.id).getD k fS=_;rw[(h.nice.path ha).2]
theorem aX.dy:h.eH.gY z↔∃ a∈p.az.l,z=a.id∨z=-a.id:=by
 constructor
 .rintro(hz|hz)
  .obtain⟨a,ha,e,_⟩:=h.ofE hz;grind
  .obtain⟨a,ha,e,_⟩:=h.ofE hz;grind
 .rintro⟨a,ha,rfl|rfl⟩
  .exact .inl (h.inE ha)
  .exact .inr (by rw[Sf];exact h.inE ha)
omit h in
theorem K9:(bC p a).getD ((bC p a).length-1) fS=(cV p a.to).at':=by unfold bC;rw[EB,fB,mV,fB,gq,show a.via.l.length+(0+1)+1-1=a.via.l.length+1 by omega,rG,q8 (cI _),Ew];rfl
theorem aX.rM(ha:a∈p.az.l):h.eH.sp a.id=(cV p a.fr).at'/\h.eH.sc a.id=fk p a.id:=by have hid:=h.pid a ha;unfold Net.sp Net.sc;rw[bU Z,bU Z,h.pt ha,h.pt ha];refine⟨rfl,?_⟩;unfold fk bR;rw[decide_eq_true (show 0<a.id by omega),bV,(h.nice.path ha).2,EB];rfl
theorem aX.rN(ha:a∈p.az.l):h.eH.sp (-a.id)=(cV p a.to).at'/\h.eH.sc (-a.id)=fk p (-a.id):=by have hid:=h.pid a ha;have h2:=yv (p:=p) (a:=a);unfold Net.sp Net.sc;rw[b9 Z,b9 Z,Sf,h.len ha,h.pt ha,h.pt ha];refine⟨K9,?_⟩;unfold fk bR;rw[decide_eq_false (show ¬ 0 < -a.id by omega),bT,h.ng2 ha,(h.nice.path ha).2,List.getElem?_reverse Z,EB];grind
theorem aX.node_eq{id:Int}(hi:(cT p id).isSome=true)(hx:x∈p.ns.l):(cV p id).at'=x.at'↔id=x.id:=by
 let⟨m1,m2⟩:=Zv hi;constructor
 .intro e;rw[←m2];exact zbs h.pts m1 hx (by rw[e]) (by rw[e])
 .intro e;have:=ZN h.nice.VT m1 hx Z;grind
theorem aX.qC(hx:x∈p.ns.l):(h.eH.gY z/\h.eH.sp z=x.at')↔z∈bu p x.id:=by
 unfold bu;rw[oQ];constructor
 .rintro⟨hd,hs⟩;obtain⟨a,ha,rfl|rfl⟩:=h.dy.1 hd
  .rw[(h.rM ha).1]at hs;have:=(h.node_eq (h.nice.fr a ha) hx).1 hs;unfold cD;grind
  .rw[(h.rN ha).1]at hs;refine⟨a,ha,?_⟩;have:=(h.node_eq (h.nice.Xx a ha) hx).1 hs;unfold cD;rw[qY,bU (show(a.to==x.id)=true by grind),h.ng ha];grind
 .rintro⟨a,ha,hz⟩;rcases qY.1 hz with hz|hz
  .by_cases hf:(a.fr==x.id)=true
   .rw[bU hf,MG]at hz;subst hz;exact⟨h.dy.2 ⟨a,ha,.inl rfl⟩,by rw[(h.rM ha).1];exact(h.node_eq (h.nice.fr a ha) hx).2 (eq_of_beq hf)⟩
   grind
  .by_cases hf:(a.to==x.id)=true
   .rw[bU hf,MG,h.ng ha]at hz;subst hz;exact⟨h.dy.2 ⟨a,ha,.inr rfl⟩,by rw[(h.rN ha).1];exact(h.node_eq (h.nice.Xx a ha) hx).2 (eq_of_beq hf)⟩
   grind
theorem aX.nS:(bu p x.id).Nodup:=by
 unfold bu;rw[List.Nodup,zlx];have hm:∀ a∈p.az.l,∀ z∈cD x.id a,z=a.id∨z=-a.id:=fun a ha z hz=>by
  rcases qY.1 hz with hz|hz
  .grind
  .split at hz
   .exact .inr (by rw[←h.ng ha];grind)
   grind
 refine⟨fun a ha=>?_,?_⟩
 .have hid:=h.pid a ha;have hng:=h.ng ha;unfold cD;by_cases c1:(a.fr==x.id)=true<;>by_cases c2:(a.to==x.id)=true
  .grind
  .grind
  .grind
  simp[*]
 .have hp:=h.nice.Rq;rw[rE]at hp;refine hp.imp_of_mem fun{a b} ha hb aq u hu v hv e=>?_;have i1:=h.pid a ha;grind
theorem aX.X6(hx:x∈p.ns.l):¬ ∃ a k,(a,0)∈h.eH.E/\0<k/\k<h.eH.len a/\h.eH.pt a k=x.at':=by
 rintro⟨z,k,h1,h2,h3,h4⟩;obtain⟨a,ha,rfl,_⟩:=h.ofE h1;rw[h.len ha]at h3;rw[h.pt ha]at h4;have m:kH p a k∈ey p:=YT ha h3;have g:=h.good m;have ho:qH (kH p a k).A (kH p a k).B x.at'=true:=by have e:(kH p a k).A=x.at':=h4;have hn:=h.nice.OA x hx;rw[←e]at hn ⊢;unfold qH;rw[zH g.a g.b g.a g.a,Jp g.a g.a g.b g.a,(show cr (kH p a k).A (kH p a k).B (kH p a k).A (kH p a k).A=0 by unfold cr;grind),(show dot (kH p a k).A (kH p a k).A (kH p a k).B (kH p a k).A=0 by unfold dot;grind)];simp[g.a,g.b]
 rcases h.sJ m hx (h.jx m hx ho)with⟨q,_,_⟩|⟨_,_,q⟩
 .have q:k=0:=q;omega
 .exact h.ne m (show(kH p a k).A=(kH p a k).B from h4.trans q.symm)
theorem aX.VI(hz:h.eH.gY z):h.eH.sc z≠h.eH.sp z/\(h.eH.sc z).near:=by
 obtain⟨a,ha,rfl|rfl⟩:=h.dy.1 hz
 .have h2:=yv (p:=p) (a:=a);have hid:=h.pid a ha;unfold Net.sp Net.sc;rw[bU Z,bU Z];exact⟨fun e=>h.eH.ne a.id 0 (h.inE ha) e.symm,h.eH.near a.id 0 1 (h.inE ha) (by rw[h.len ha];omega)⟩
 .have h2:=yv (p:=p) (a:=a);have hid:=h.pid a ha;unfold Net.sp Net.sc;rw[b9 Z,b9 Z,Sf];have hn:=h.eH.ne _ _ (h.eH.whole a.id 0 (h.eH.len a.id-1) (h.inE ha) (by rw[h.len ha];omega));rw[show h.eH.len a.id-1+1=h.eH.len a.id by rw[h.len ha];omega]at hn;exact⟨hn,h.eH.near a.id 0 _ (h.inE ha) Z⟩
theorem aX.around(hx:x∈p.ns.l):(bt p x.id).Perm (bu p x.id)/\(bt p x.id).Pairwise (fun a b=>lss x.at' (h.eH.sc a) (h.eH.sc b)=true):=by
 let⟨l,l1,l2⟩:=h.eH.ring (Xn (h.nice.OA x hx)) (h.X6 hx);have ak:l.Nodup:=l2.imp fun{a b} aq e=>by subst e;rw[xH]at aq;grind
 have iM:=(zl2 ak h.nS).2 fun e=>(l1 e).trans (h.qC hx);have acs:cT p x.id=some x:=ZM h.nice.VT hx;have hsc:∀ z∈bu p x.id,fk p z=h.eH.sc z/\(fk p z).near/\fk p z≠x.at':=fun z hz=>by
  exact xbd
 have au:∀ a∈bu p x.id,∀ b∈bu p x.id,fK x.at' (fk p a) (fk p b)=lss x.at' (h.eH.sc a) (h.eH.sc b):=fun a ha b hb=>by let⟨a1,a2,a3⟩:=hsc a ha;let⟨b1,b2,b3⟩:=hsc b hb;rw[OJ (Xn (h.nice.OA x hx)) a2 b2 a3 b3,a1,b1]
 have hsel:bt p x.id=l:=by
  unfold bt;rw[acs];refine Ff iM (l2.imp_of_mem fun{a b} ha hb aq=>?_) (fun a ha b hb aq=>?_) (fun a ha=>?_)
  .grind
  .rw[au a ha b hb]at aq;rw[au b hb a ha];cases hc:lss x.at' (h.eH.sc b) (h.eH.sc a)
   .rfl
   .exact(zab aq hc).elim
  .rw[au a ha a ha];exact xH
 grind
end
theorem vM(hS:bk S)(p:Pn)(z:Int)(hv:bL p)(hg:GD p z):∃ q:aR 2 Pt.c,q.l=bR p z/\∃ N,aM S N 175 [.agg p.c,aB z] q.v:=by
 obtain⟨aq,hok,_,_,_,kK,fE⟩:=zcu hg;let⟨q,hq,N,h1⟩:=Fk hS p (cW z) hv;have hq:=hq hok;have pz:=yT hv (cW z);rw[←hq]at pz;unfold bR;rcases aq with⟨aq,g1⟩|⟨aq,g1⟩
 .have hd:decide (0<z)=true:=decide_eq_true g1;refine⟨q,by grind,N+11,zr (i:=i175) (hS _ _ M M M M) rfl rfl (bP rfl) (N+10) fun m hm d ah t af=>?_⟩;simp[V2,i175,Pn.c]at af;have c1:=h1 m Z;simp[Pn.c,zf]at c1;simp only[i175,V0,Xa,Xb,Xe,af,(fun d ah aJ aa i=>AO hS z m Z d ah aJ aa i),c1,bF,ez,g1];exact⟨_,rfl,zP ZH q m Z _ _⟩
 .have ou:(q.l.reverse).length<9223372036854775808:=by grind
  refine⟨bZ Pt.aV q.l.reverse ou,by rw[(decide_eq_false g1),zM,hq,aq];rfl,N+q.l.length+11,zr (i:=i175) (hS _ _ M M M M) rfl rfl (bP rfl) (N+q.l.length+10) fun m hm d ah t af=>?_⟩;simp[V2,i175,Pn.c]at af;have c1:=h1 m Z;simp[Pn.c,zf]at c1;simp[i175,V0,Xa,Xb,Xe,af,(fun d ah aJ aa i=>AO hS z m Z d ah aJ aa i),c1,bF,ez,g1,(zA rfl Z Z:aT .i64 (((q.l.length:Nat):Int)-1)=((q.l.length:Nat):Int)-1)];refine zm q.l.length (fun i st=>∃(J:aS)(lv:IV),bE Pt.c 2 d 3 J lv (q.l.reverse.take i)/\st.aa=p.o::.free::.free::J/\aN 34 st.t [(5,q.v),(7,lv),(8,aB (((q.l.length:Nat):Int)-1-(i:Int)))]) Z ⟨[],.nilsl,.inl ⟨rfl,rfl⟩,rfl,by simp[V0,Xa,Xe,af,cZ,zny]⟩ ?_;rintro i ⟨t,aa⟩ KA hi ⟨J,lv,hO,ho,af⟩ bp bK bQ;subst ho;simp[za,zb]at af;by_cases h:i<q.l.length
  .have hk:q.l.length-1-i<q.l.length:=Z;obtain⟨x,hx⟩:=fc (l:=q.l) (i:=q.l.length-1-i) hk;have hrd:bB (q.l.flatMap Pt.c) ((q.l.length-1-i)*2) 2=some [aB x.x,aB x.y]:=(zd Pt.aV 0 2 hx Z).trans rfl;have au:(q.l.reverse.take i).length=i:=by grind
   obtain⟨e,cH,J2,bz,cL⟩:=zI (Pre:=[p.o,.free,.free]) (n0:=J.length+1+1+1) (slot:=0) (k:=0) (ah:=ah) (R:=[.free]) Pt.aV hO (ys:=[x]) M (by grind) (by grind) rfl rfl;exact xag
  .obtain rfl:i=q.l.length:=Z;simp only[V0,Xa,af,l7,(eq_false Z:(0<=((q.l.length:Nat):Int)-1-((q.l.length:Nat):Int))=False)];refine bK _ _ ?_;rw[(fT M)]at hO;simp only[V0,Xa,Xe,af];exact⟨_,rfl,yy (Pre:=[_,_,_]) Pt.aV ZH Z ou hO⟩
def gL(a b q:Pt):Bool:=bif decide (b.y<a.y)then(decide (b.y<=q.y)&&decide (q.y<a.y))&&decide (0<HP b a q)else(decide (a.y<=q.y)&&decide (q.y<b.y))&&decide (0<HP a b q)
def nB(l:List Pt)(q:Pt):Nat->Bool
 |0=>false
 | k+1=>nB l q k||match l[k]?,l[k+1]? with
  |some a,some b=>nC a b q
  |_,_=>false
def iA(l:List Pt)(q:Pt)(o:Bool):Nat->Bool
 |0=>o
 |k+1=>match l[k]?,l[k+1]? with
  |some a,some b=>xor (iA l q o k) (gL a b q)
  |_,_=>iA l q o k
def Ct(l:List Pt)(q:Pt):Bool:=nB l q (l.length-1)
def nD(l:List Pt)(q:Pt)(o:Bool):Bool:=iA l q o (l.length-1)
def cO(p:Pn)(c:List Int)(q:Pt):Bool:=!(c.any fun z=>Ct (bR p z) q)&&c.foldl (fun o z=>nD (bR p z) q o) false
theorem aa6(hS:bk S){m d:Nat}{ah:bq}(hm:10<=m)(l:aR 2 Pt.c)(iN:2<=l.l.length)(q:Pt)(A:aP)(o0:Bool)(c:IV)(i:Nat){K:eU}(t:List IV)(J0:aS)(hml:l.l.length<=m)(hlb:l.l.length<=200000)(af:aN 73 t [(1,c),(3,.ptrM d 0 0),(5,.ptrM d 1 0),(7,.bool o0),(8,iv i),(9,l.v)])
  (hK:∀ t' J,Ct l.l q=false->aN 73 t' [(1,c),(3,.ptrM d 0 0),(5,.ptrM d 1 0),(7,.bool (nD l.l q o0)),(8,iv i)]->K .normal ⟨t',A::aH [aB q.x,aB q.y]::J⟩)
  (hR:∀ t' O,Ct l.l q=true->aN 73 t' [(6,.bool false)]->K .ret ⟨t',O⟩) :
  Ex (aL aO S m) d ah m (i208.body.sub [1,1,0,1,0,0,1,0,0,1]) K ⟨t,A::aH [aB q.x,aB q.y]::J0⟩:=by
 simp[za,zb,zf]at af
 simp[i208,IC.sub,V0]
 refine zm (l.l.length-1) (fun k st=>∃(J:aS),nB l.l q k=false/\st.aa=A::aH [aB q.x,aB q.y]::J/\aN 73 st.t [(1,c),(3,.ptrM d 0 0),(5,.ptrM d 1 0),(7,.bool (iA l.l q o0 k)),(8,iv i),(9,l.v),(10,aB ((k+1:Nat):Int))]) Z ⟨J0,rfl,rfl,by simp only[V0,Xa,Xe,af];trivial⟩ ?_
 clear af
 rintro k ⟨t,aa⟩ KA hk ⟨J,hon,rfl,af⟩ bp bK bQ
 simp only[V3]at af
 by_cases h2:k+1<l.l.length
 rotate_left
 .simp only[V0,Xa,Xe,af,(eq_false Z)]
  refine bK _ _ ?_
  have e:k=l.l.length-1:=Z
  rw[e]at hon
  rw[(show iA l.l q o0 k=nD l.l q o0 by unfold nD;rw[e])]at af
  simp only[V0]
  exact hK _ J hon xay
 have h3:k<l.l.length:=Z
 have ha:l.l[k]?=some l.l[k]:=dw h3
 have hb:l.l[k+1]?=some l.l[k+1]:=dw h2
 generalize l.l[k]=a at ha
 generalize l.l[k+1]=b at hb
 have ra:bB (l.l.flatMap Pt.c) (k*2) 2=some [aB a.x,aB a.y]:=(zd Pt.aV 0 2 ha Z).trans rfl
 have rb:bB (l.l.flatMap Pt.c) ((k+1)*2) 2=some [aB b.x,aB b.y]:=(zd Pt.aV 0 2 hb Z).trans rfl
 have wm:aT .i64 (((k+1:Nat):Int)-1)=((k:Nat):Int):=oS
 have wp:aT .i64 (((k+1:Nat):Int)+1)=((k+1+1:Nat):Int):=oS
 have co:=U9 hS a b q m Z
 have c1:=zcv hS a b q m Z
 have c2:=zcv hS b a q m Z
 simp[Pt.c,zf]at co c1 c2
 have xQ:nB l.l q (k+1)=nC a b q:=by
  conv=>lhs;unfold nB
  grind
 have mL:iA l.l q o0 (k+1)=xor (iA l.l q o0 k) (gL a b q):=by
  conv=>lhs;unfold iA
  grind
 simp only[V0,Xa,Xb,Xe,zc l h3,zc l h2, *]
 generalize iA l.l q o0 k=o at af mL
 cases g0:nC a b q
 rotate_left
 .simp only[V0,Xa,Xb,Xe,af,co,g0]
  refine bQ _ ?_
  simp only[V0]
  refine hR _ _ ?_ (by simp[V0,Xa,af])
  have up:∀ n,k+1<=n->nB l.l q n=true:=fun n hn=>by
   induction n with
   |zero=>omega
   |succ n ih =>
    by_cases hkn:k+1<=n
    .unfold nB
     grind
    grind
  exact up _ Z
 rw[g0]at xQ
 cases gy:decide (b.y<a.y)
 .rw[(show gL a b q=((decide (a.y<=q.y)&&decide (q.y<b.y))&&decide (0<HP a b q)) by unfold gL;grind)]at mL
  cases g1:decide (a.y<=q.y)
  .rw[g1,dZ,dZ,zl4]at mL
   exact xae
  cases g2:decide (q.y<b.y)
  .rw[g2,nr,dZ,zl4]at mL
   exact xae
  cases g3:decide (0<HP a b q)
  .rw[g3,nr,zl4]at mL
   exact xae
  .rw[g1,g2,g3,JZ,JZ,Bool.xor_true]at mL
   exact xae
 .rw[(show gL a b q=((decide (b.y<=q.y)&&decide (q.y<a.y))&&decide (0<HP b a q)) by unfold gL;grind)]at mL
  cases g1:decide (b.y<=q.y)
  .rw[g1,dZ,dZ,zl4]at mL
   exact xae
  cases g2:decide (q.y<a.y)
  .rw[g2,nr,dZ,zl4]at mL
   exact xae
  cases g3:decide (0<HP b a q)
  .rw[g3,nr,zl4]at mL
   exact xae
  .rw[g1,g2,g3,JZ,JZ,Bool.xor_true]at mL
   exact xae
theorem uJ{p:Pn}(gV:bL p)(z:Int):2<=(bR p z).length/\(bR p z).length<=100002:=by
 exact xer
theorem Mn(hS:bk S)(p:Pn)(gV:bL p)(c:aR 1 aK)(jM:c.l.length<=1000000)(hg:∀ z∈c.l,GD p z):∃ N,∀ q:Pt,aM S N 208 [.agg p.c,c.v,.agg q.c] (.bool (cO p c.l q)):=by
 obtain⟨N1,h1⟩:∃ N,∀ z∈c.l,∃ l:aR 2 Pt.c,l.l=bR p z/\aM S N 175 [.agg p.c,aB z] l.v:=Yw (P:=fun(z:Int) N=>∃ l:aR 2 Pt.c,l.l=bR p z/\aM S N 175 [.agg p.c,aB z] l.v) (fun a n m hnm ⟨q,hq,h⟩=>⟨q,hq,fun m' hm'=>h m' Z⟩) fun z hz=>by let⟨q,hq,N,h⟩:=vM hS p z gV (hg z hz);grind
 refine⟨N1+c.l.length+200001,fun q=>zg (i:=i208) (hS _ _ M M M M) rfl rfl (bP rfl) (N1+c.l.length+200000) Z zk fun m hm d ah t af=>?_⟩;simp[V2,Xb,i208,Pn.c,Pt.c,zf]at af;have sg:=fun(l:aR 2 Pt.c) iN A o0 cv i K t J0 (hlb:l.l.length<=200000) af hK hR=>@aa6 S hS m d ah Z l iN q A o0 cv i K t J0 Z hlb af hK hR;rw[show i208.body=.seq (i208.body.sub [0]) (.seq (i208.body.sub [1,0]) (.seq (.seq (i208.body.sub [1,1,0,0]) (.block 0 (.loop (.seq (.seq (i208.body.sub [1,1,0,1,0,0,0,0]) (i208.body.sub [1,1,0,1,0,0,0,1])) (.seq (.block 1 (.seq (i208.body.sub [1,1,0,1,0,0,1,0,0,0]) (i208.body.sub [1,1,0,1,0,0,1,0,0,1]))) (i208.body.sub [1,1,0,1,0,0,1,1])))))) (i208.body.sub [1,1,1])))from rfl];generalize i208.body.sub [1,1,0,1,0,0,1,0,0,1]=T at sg ⊢;simp[i208,IC.sub,V0,Xb,Xe,af];refine zm c.l.length (fun i st=>∃(J:aS),((c.l.take i).any fun z=>Ct (bR p z) q)=false/\st.aa=p.o::aH [aB q.x,aB q.y]::J/\aN 73 st.t [(1,c.v),(3,.ptrM d 0 0),(5,.ptrM d 1 0),(7,.bool ((c.l.take i).foldl (fun o z=>nD (bR p z) q o) false)),(8,iv i)]) Z ⟨[],rfl,rfl,by simp only[V0,Xa,Xe,af,cZ];rfl⟩ ?_;rintro i ⟨t,aa⟩ KA hi ⟨J,hon,ho,af⟩ bp bK bQ;subst ho;simp[za,zb,zf]at af;by_cases h:i<c.l.length;rotate_left
 .simp[V0,Xa,Xe,af,h];refine bK _ _ ?_;rw[(fT Z)]at hon;have hv:cO p c.l q=(c.l.take i).foldl (fun o z=>nD (bR p z) q o) false:=by unfold cO;grind
  simp[V0,Xa,Xe,af,hv]
 have hx:c.l[i]?=some c.l[i]:=dw h;have hmem:=gQ h;generalize c.l[i]=z at hx hmem;let⟨l,hl,cl⟩:=h1 z hmem;have cl:=cl m Z;simp[Pn.c]at cl;have hpl:=uJ gV z;rw[←hl]at hpl;have gE:bB (c.l.flatMap aK) (i*1) 1=some [aB z]:=xbu;have hst:(c.l.take (i+1)).foldl (fun o z=>nD (bR p z) q o) false=nD l.l q ((c.l.take i).foldl (fun o z=>nD (bR p z) q o) false):=by rw[zy hx,List.foldl_append,hl];rfl
 have OZ:((c.l.take (i+1)).any fun z=>Ct (bR p z) q)=Ct l.l q:=by rw[zy hx,Vs,hon,jg,hl];simp
 generalize(c.l.take i).foldl (fun o z=>nD (bR p z) q o) false=o at af hst;simp only[V0,Xa,Xe,af,h,zc c h,gE,cl];refine sg l hpl.1 _ o c.v i _ _ _ Z xap (fun t' J' hoff ht=>?_) (fun t' O' hoff ht=>?_)
 .simp[za,zb,zf]at ht;simp only[V0,Xa,ht,(zt i)];exact bp Z _ ⟨J',OZ.trans hoff,rfl,by simp[V0,Xa,Xe,ht,hst]⟩
 .simp[za,zb]at ht;simp[V0];refine bQ _ ?_;have hv:cO p c.l q=false:=by unfold cO;grind
  simp[V0,ht,hv]
def iq(ins:Nat->Bool)(tw:Nat->Int):Nat->Int
 |0=>-1
 | i+1=>if (ins i&&(decide (iq ins tw i<0)||decide (tw i<tw (iq ins tw i).toNat)))=true then(i:Int)else iq ins tw i
theorem zad{ins:Nat->Bool}{tw:Nat->Int}:∀ n,-1<=iq ins tw n/\iq ins tw n<n
 |0=>by simp[iq]
 |n+1=>by have:=zad (ins:=ins) (tw:=tw) n;unfold iq;omega
def Ve(p:Pn)(os:List (List Int))(q:Pt):Int:=iq (fun i=>cO p ((os[i]?).getD []) q) (fun i=>jv p ((os[i]?).getD [])) os.length
theorem G1(hS:bk S)(p:Pn)(gV:bL p)(os:aR 1 gp)(hol:os.l.length<=1000)(hg:∀ c∈os.l,c.l.length<=512/\∀ z∈c.l,GD p z):∃ N,∀ q:Pt,aM S N 174 [.agg p.c,os.v,.agg q.c] (aB (Ve p (os.l.map (·.l)) q)):=by
 obtain⟨N1,h1⟩:∃ N,∀ c∈os.l,∀ q:Pt,aM S N 208 [.agg p.c,c.v,.agg q.c] (.bool (cO p c.l q)):=Yw (P:=fun(c:aR 1 aK) N=>∀ q:Pt,aM S N 208 [.agg p.c,c.v,.agg q.c] (.bool (cO p c.l q))) (fun a n m hnm h q m' hm'=>h q m' Z) fun c hc=>Mn hS p gV c (by grind) (hg c hc).2;obtain⟨N2,h2⟩:∃ N,∀ c∈os.l,aM S N 173 [.agg p.c,c.v] (aB (jv p c.l)):=Yw (P:=fun(c:aR 1 aK) N=>aM S N 173 [.agg p.c,c.v] (aB (jv p c.l))) (fun a n m hnm h m' hm'=>h m' Z) fun c hc=>zct hS p gV c (hg c hc).1 fun z hz=>by obtain⟨_,_,a,b,c,_⟩:=zcu ((hg c hc).2 z hz);grind
 refine⟨N1+N2+os.l.length+31,fun q=>zg (i:=i174) (hS _ _ M M M M) rfl rfl (bP rfl) (N1+N2+os.l.length+30) Z zp fun m hm d ah t af=>?_⟩;simp[V2,Xb,i174,Pn.c,Pt.c,zf]at af;have gU:∀(i:Nat)(c:aR 1 aK),os.l[i]?=some c->((os.l.map (·.l))[i]?).getD []=c.l:=fun i c hc=>by grind
 unfold Ve;rw[(qE ..)];generalize hins:(fun(i:Nat)=>cO p (((os.l.map (·.l))[i]?).getD []) q)=ins;generalize EJ:(fun(i:Nat)=>jv p (((os.l.map (·.l))[i]?).getD []))=tw;have e2:∀(i:Nat)(c:aR 1 aK),os.l[i]?=some c->jv p c.l=tw i:=fun i c hc=>by grind
 simp[i174,V0,Xb,Xe,af];refine zm os.l.length (fun i st=>∃(J:aS),st.aa=p.o::aH [aB q.x,aB q.y]::J/\aN 43 st.t [(1,os.v),(3,.ptrM d 0 0),(5,.ptrM d 1 0),(7,aB (iq ins tw i)),(8,iv i)]) Z ⟨[],rfl,by simp only[V0,Xa,Xe,af,cZ];rfl⟩ ?_;clear af;rintro i ⟨t,aa⟩ KA hi ⟨J,rfl,af⟩ bp bK bQ;simp[za,zb,zf]at af;by_cases h:i<os.l.length;rotate_left
 .simp[V0,Xa,Xe,af,h];refine bK _ _ ?_;obtain rfl:i=os.l.length:=Z;exact xap
 have hx:os.l[i]?=some os.l[i]:=dw h;have hmem:=gQ h;generalize os.l[i]=c at hx hmem;have ci:=h1 c hmem q m Z;have ct:=h2 c hmem m Z;rw[(fun i c hc=>by grind:∀(i:Nat)(c:aR 1 aK),os.l[i]?=some c->cO p c.l q=ins i) i c hx]at ci;rw[e2 i c hx]at ct;simp[Pn.c,Pt.c,zf]at ci ct;have gE:bB (os.l.flatMap gp) (i*1) 1=some [c.v]:=zd zx 0 1 hx Z;have hw:=zt i;have hst:iq ins tw (i+1)=if (ins i&&(decide (iq ins tw i<0)||decide (tw i<tw (iq ins tw i).toNat)))=true then(i:Int)else iq ins tw i:=rfl
 have hbd:=zad (ins:=ins) (tw:=tw) i;generalize iq ins tw i=b at af hst hbd;cases g1:ins i
 .rw[g1,dZ,b9 M]at hst;simp only[V0,Xa,Xe,zc os h,Xb, *];exact xca
 .cases g2:decide (b<0)
  .rw[g1,g2,rF,jg]at hst;have hb0:¬ b<0:=of_decide_eq_false g2;obtain⟨k,rfl⟩:∃ k:Nat,b=k:=⟨b.toNat,Z⟩;rw[Int.toNat_natCast]at hst;have hk:k<os.l.length:=Z;have hy:os.l[k]?=some os.l[k]:=dw hk;have hmk:=gQ hk;generalize os.l[k]=c2 at hy hmk;have ct2:=h2 c2 hmk m Z;rw[e2 k c2 hy]at ct2;simp[Pn.c]at ct2;have r7:bB (os.l.flatMap gp) (k*1) 1=some [c2.v]:=zd zx 0 1 hy Z;cases g3:decide (tw i<tw k)
   .rw[g3,b9 M]at hst;exact xgk
   .rw[g3,bU rfl]at hst;exact xgk
  .rw[g1,g2,k9,JZ,bU rfl]at hst;simp only[V0,Xa,Xe,zc os h,Xb, *];exact xca
def dB(p:Pn)(c:List Int)(f:Int):Bool:=c.all fun z=>iy p z==f
theorem D5(hS:bk S)(p:Pn)(gV:bL p)(c:aR 1 aK)(jM:c.l.length<=1000000):∃ N,∀ f:Int,aM S N 140 [.agg p.c,c.v,aB f] (.bool (dB p c.l f)):=by
 obtain⟨N1,h1⟩:∃ N,∀ z∈c.l,aM S N 139 [.agg p.c,aB z] (aB (iy p z)):=Yw (P:=fun(z:Int) N=>aM S N 139 [.agg p.c,aB z] (aB (iy p z))) (fun a n m hnm h m' hm'=>h m' Z) fun z _=>JH hS p z gV;refine⟨N1+c.l.length+31,fun f=>zg (i:=i140) (hS _ _ M M M M) rfl rfl (bP rfl) (N1+c.l.length+30) Z zk fun m hm d ah t af=>?_⟩;simp[V2,Xb,i140,Pn.c]at af;simp[i140,V0,af];refine zm c.l.length (fun i st=>∃(J:aS),((c.l.take i).all fun z=>iy p z==f)=true/\st.aa=p.o::J/\aN 22 st.t [(1,c.v),(2,aB f),(3,.ptrM d 0 0),(7,iv i)]) Z ⟨[],rfl,rfl,by simp[V0,Xa,Xe,af,cZ]⟩ ?_;clear af;rintro i ⟨t,aa⟩ KA hi ⟨J,hall,rfl,af⟩ bp bK bQ;simp[za,zb,zf]at af;by_cases h:i<c.l.length;rotate_left
 .simp[V0,Xa,Xe,af,h];refine bK _ _ ?_;rw[(fT Z)]at hall;have hv:dB p c.l f=true:=hall;simp[V0,Xa,af,hv]
 have hx:c.l[i]?=some c.l[i]:=dw h;have hmem:=gQ h;generalize c.l[i]=z at hx hmem;have cz:=h1 z hmem m Z;simp[Pn.c]at cz;have gE:bB (c.l.flatMap aK) (i*1) 1=some [aB z]:=xbu;have hw:=zt i;cases g:iy p z==f
 .have hne:(iy p z != f)=true:=by grind
  simp only[V0,Xa,Xe,zc c h, *];refine bQ _ ?_;have hv:dB p c.l f=false:=by rw[←tZ];intro hc;have:=nu.1 hc z hmem;grind
  simp[V0,Xa,af,hv]
 .have hne:(iy p z != f)=false:=by grind
  simp only[V0,Xa,Xe,zc c h, *];exact bp Z _ ⟨_,by rw[zy hx,Vt,hall,rF];grind,rfl,by simp[V0,Xa,Xe,af]⟩
section
variable (kf tw:I->Int)
def iZ(x:I)(l:List I):Nat->Nat
 |0=>0
 |k+1=>match l[k]? with
  |some y=>if lH (kf x) (kf y)=true then iZ x l k else k+1
  |none=>k+1
def qx(x:I)(l:List I):List I:=l.take (iZ kf x l l.length)++x::l.drop (iZ kf x l l.length)
def kg:List I->List I->List I
 |[],o=>o
 |c::cs,o=>if tw c<=0 then kg cs o else kg cs (qx kf c o)
variable {kf tw}
theorem uU{x:I}{l:List I}:∀ k,iZ kf x l k<=k
 |0=>cI _
 |k+1=>by have:=uU (x:=x) (l:=l) k;unfold iZ;grind
theorem CX{x:I}{l:List I}:(qx kf x l).length=l.length+1:=by have:=uU (kf:=kf) (x:=x) (l:=l) l.length;unfold qx;grind
theorem zcw:∀(cs o:List I),(kg kf tw cs o).length<=o.length+cs.length
 |[],o=>by simp[kg]
 |c::cs,o=>by
  unfold kg;split
  .have:=zcw cs o;grind
  .have:=zcw cs (qx kf c o);rw[CX]at this;grind
theorem zax:∀(cs o:List I),(kg kf tw cs o).Perm (o++cs.filter fun c=>decide (0<tw c))
 |[],o=>by simp[kg]
 |c::cs,o=>by
  unfold kg;split
  .rename_i h;rw[MZ,(decide_eq_false Z),b9 M];exact zax cs o
  .rename_i h;rw[MZ,(decide_eq_true Z),bU rfl];refine(zax cs _).trans ?_;unfold qx;rw[mo,gu];refine List.perm_middle.trans ?_;rw[←mo,MJ];exact List.perm_middle.symm
end
variable {Q:aS}
section
variable {g:H->List IV} 
theorem TF(hs:∀ a,(g a).length=sz){A0:aP}{xs ys:List H}(qz:Q[0]?=some A0)(h:(xs=[]/\lv=.nilsl)∨∃ B,0<B/\xs≠[]/\lv=.slM d B 0 xs.length xs.length sz false/\Q[B]?=some (aH (xs.flatMap g)))(hy:ys.length≠0)(hx:xs.length+ys.length<=1073741824)(hsc:(ys.flatMap g).all IV.scalar=true) :
  ∃ e Q',aY d Q.length (look d ah (Q++[.free])) (Q++[.free]) sz lv (ys.flatMap g) ys.length 0=some (e,.slM d Q.length 0 (xs.length+ys.length) (xs.length+ys.length) sz false,Q')/\Q'[0]?=some A0/\Q'[Q.length]?=some (aH ((xs++ys).flatMap g))/\0<Q.length:=by
 have hfree:(Q++[aP.free])[Q.length+0]?=some .free:=by simp
 rcases h with⟨rfl,rfl⟩|⟨B,hB,hne,rfl,hb⟩
 .rw[yp hy xa1]
  unfold dD
  rw[hfree]
  simp only[zi,tY]
  refine⟨_,_,by rw[gq,eB],?_,?_,(ew.1 qz).1⟩
  .grind
  simp
 .have th:=(ew.1 hb).1
  rw[zQ hy hx (zj hs) hsc xez]
  unfold iG
  rw[hfree]
  simp only[zi,tY]
  grind
end
variable {b:Nat}
theorem Xg{o:aP}(h:Q[b]?=some o)(R:aS):(Q++R)[b]?=some o:=by grind
theorem U7(hS:bk S){m d:Nat}{ah:bq}(A0:aP)(cs:aR 1 gp)(c:aR 1 aK)(i:Nat)(R5:cs.l[i]?=some c)(l:List (aR 1 aK))(hl:l.length<=100000)(hm:l.length+20<=m)(hkey:∀ x∈c::l,∀ d ah aJ aa id,aL aO S m d ah aJ aa id 201 [x.v]=some (.r,aB (j6 x.l),aa)){K:eU}(t:List IV)(Q:aS)(B:Nat)(hB:0<B)(qz:Q[0]?=some A0)(hQ:Q[B]?=some (aH ((l++[c]).flatMap gp)))
  (af:aN 69 t [(1,.ptrM d 0 0),(3,cs.v),(5,.slM d B 0 (l.length+1) (l.length+1) 1 false),(6,iv i),(7,iv (l.length:Nat))])
  (hK:∀ t' Q',Q'[0]?=some A0->Q'[B]?=some (aH ((qx (fun x:aR 1 aK=>j6 x.l) c l).flatMap gp))->aN 69 t' [(1,.ptrM d 0 0),(3,cs.v),(5,.slM d B 0 (l.length+1) (l.length+1) 1 false),(6,iv i)]->K .normal ⟨t',Q'⟩) :
  Ex (aL aO S m) d ah m (i171.body.sub [1,1,1,0,1,0,0,1,0,0,1,1,1]) K ⟨t,Q⟩:=by
 simp[za,zb,zf]at af
 have hii:=(ew.1 R5).1
 have hrc:bB (cs.l.flatMap gp) (i*1) 1=some [c.v]:=zd zx 0 1 R5 Z
 have kc:=hkey c (qj ..)
 have Uy:∀ k (y:aR 1 aK),k<=l.length->(l.take k++y::l.drop k).length=l.length+1:=fun k y hk=>by grind
 have adn:∀ k (y z:aR 1 aK),k<=l.length->(l.take k++y::l.drop k).set k z=l.take k++z::l.drop k:=fun k y z hk=>by simp[*]
 have Uz:∀ k (y:aR 1 aK),k<=l.length->(l.take k++y::l.drop k)[k]?=some y:=fun k y hk=>by grind
 have Qw:∀ k (y z:aR 1 aK),k<=l.length->dS ((l.take k++y::l.drop k).flatMap gp) (k*1) [z.v]=(l.take k++z::l.drop k).flatMap gp:=fun k y z hk=>by have:=y4 (x':=z) (vs:=[z.v]) (k:=0) zx (Uz k y hk) M rfl;grind
 have Jv:∀ k (y:aR 1 aK),k<=l.length->k*1+1<=((l.take k++y::l.drop k).flatMap gp).length:=fun k y hk=>by rw[zj zx,Uy k y hk];omega
 simp[i171,IC.sub,V0]
 refine zn (fun jj st=>∃(k:Nat)(y:aR 1 aK),k<=jj/\k<=l.length/\iZ (fun x:aR 1 aK=>j6 x.l) c l k=iZ (fun x:aR 1 aK=>j6 x.l) c l l.length/\st.aa[0]?=some A0/\st.aa[B]?=some (aH ((l.take k++y::l.drop k).flatMap gp))/\aN 69 st.t [(1,.ptrM d 0 0),(3,cs.v),(5,.slM d B 0 (l.length+1) (l.length+1) 1 false),(6,iv i),(7,iv k)]) l.length Z ⟨l.length,c,cI _,cI _,rfl,qz,by grind,by simp[V0,af]⟩ ?_
 clear af qz hQ
 rintro jj ⟨t,Q⟩ KA ⟨k,y,hjj,hk,hpos,qz,hQ,af⟩ bp bK bQ
 dsimp only at qz hQ
 simp[za,zb,zf]at af
 have fin:∀(t:List IV)(Q:aS),Q[0]?=some A0->Q[B]?=some (aH ((l.take k++y::l.drop k).flatMap gp))->k=iZ (fun x:aR 1 aK=>j6 x.l) c l l.length->aN 69 t [(1,.ptrM d 0 0),(3,cs.v),(5,.slM d B 0 (l.length+1) (l.length+1) 1 false),(6,iv i),(7,iv k)]->KA (.exit 2) ⟨t,Q⟩:=by
  clear af bp bQ qz hQ t Q;intro t Q qz hQ hkp af;simp[za,zb,zf]at af;refine bK _ _ ?_;have w3:l.take k++c::l.drop k=qx (fun x:aR 1 aK=>j6 x.l) c l:=by unfold qx;grind
  simp only[V0,Xa,Xe,af,zc cs hii,hrc,zo,(show k<l.length+1 by omega),hQ,(Qw k y c hk),(Jv k y hk)];refine hK _ _ ?_ ?_ ?_
  .grind
  .grind
  .exact xay
 rcases k with -|k
 .have hg0:decide (((0:Nat):Int)>0)=false:=rfl
  simp only[V0,Xa,Xe,af,hg0]
  exact fin _ _ (Xg qz _) (Xg hQ _) hpos (by simp[V0,Xe,af,cZ])
 have hk0:k<l.length:=Z
 have lz:k<l.length+1:=Z
 have hx:l[k]?=some l[k]:=dw hk0
 have hmem:=gQ hk0
 generalize l[k]=x at hx hmem
 have kx:=hkey x (tj _ hmem)
 have hcx:(l.take (k+1)++y::l.drop (k+1))[k]?=some x:=by grind
 have gE:bB ((l.take (k+1)++y::l.drop (k+1)).flatMap gp) (k*1) 1=some [x.v]:=zd zx 0 1 hcx Z
 have hgt:((0:Int)<((k+1:Nat):Int)):=Z
 have hw:aT .i64 (((k+1:Nat):Int)-1)=((k:Nat):Int):=oS
 have cb:=fun d ah aJ aa i=>vP hS (j6 c.l) (j6 x.l) m Z d ah aJ aa i
 have hho:∀ vis R,(bI vis Q.length (Q++R))[B]?=some (aH ((l.take (k+1)++y::l.drop (k+1)).flatMap gp)):=fun vis R=>Yr hQ vis R
 have hst:iZ (fun x:aR 1 aK=>j6 x.l) c l (k+1)=if lH (j6 c.l) (j6 x.l)=true then iZ (fun x:aR 1 aK=>j6 x.l) c l k else k+1:=by
  conv=>lhs;unfold iZ
  grind
 cases g:lH (j6 c.l) (j6 x.l)
 .rw[g,b9 M]at hst
  simp only[V0,Xa,Xe,af,zc cs hii,hrc,zo,lz,gE,hw,kc,kx,cb,g,ez,hgt,hho]
  refine fin _ _ (Xg qz _) (Xg hQ _) Z ?_
  exact xay
 .rw[g,bU rfl]at hst
  simp only[V0,Xa,Xe,af,zc cs hii,hrc,zo,lz,gE,hw,kc,kx,cb,g,ez,hgt,hho,Xb,(show k+1<l.length+1 by omega),Xg hQ,(Qw (k+1) y x hk),(Jv (k+1) y hk)]
  have e1:l.take (k+1)++x::l.drop (k+1)=l.take k++x::l.drop k:=by rw[jh,hx,EU hk0];grind
  refine bp _ k Z ⟨k,x,cI _,Z,Z,?_,?_,by simp[V0,Xa,Xe,af]⟩
  .grind
  grind
section
variable {γ:Type} {kf tw:γ->Int} {f:I->γ}
theorem zgc{x:I}{l:List I}:∀ k,iZ kf (f x) (l.map f) k=iZ (fun z=>kf (f z)) x l k
 |0=>rfl
 |k+1=>by have:=zgc (x:=x) (l:=l) k;unfold iZ;grind
theorem OT{x:I}{l:List I}:qx kf (f x) (l.map f)=(qx (fun z=>kf (f z)) x l).map f:=by unfold qx;rw[qE,zgc,Hi,mQ,List.map_take,List.map_drop]
theorem zcx:∀(cs o:List I),kg kf tw (cs.map f) (o.map f)=(kg (fun z=>kf (f z)) (fun z=>tw (f z)) cs o).map f
 |[],_=>rfl
 |c::cs,o=>by
  rw[mQ];unfold kg;split
  .exact zcx cs o
  .rw[OT];exact zcx cs _
theorem Ld{x:I}{l:List I}{kf:I->Int}:(qx kf x l).Perm (x::l):=by unfold qx;refine List.perm_middle.trans ?_;simp
end
def b8(p:Pn):List (List Int):=kg j6 (jv p) (bn p) []
theorem Zw(p:Pn):(b8 p).Perm ((bn p).filter fun c=>decide (0<jv p c)):=by have:=zax (kf:=j6) (tw:=jv p) (bn p) [];rwa [fP]at this
theorem Ml(hS:bk S)(p:Pn)(gV:bL p)(ha:p.az.l.length<=200)(hn:p.ns.l.length<=200)(hok:∀ n∈p.ns.l,∀ z∈bu p n.id,gz p z)(hE:jq p=0)(hg:∀ c∈bn p,c.length<=512/\c≠[]/\∀ z∈c,GD p z):∃ os:aR 1 gp,os.l.map (·.l)=b8 p/\∃ N,aM S N 171 [.agg p.c] os.v:=by
 let⟨cs,hcs,N0,h0⟩:=vO hS p gV ha hn hok hE;have hg':∀ c∈cs.l,c.l.length<=512/\c.l≠[]/\∀ z∈c.l,GD p z:=fun c hc=>hg _ (by grind);have jM:cs.l.length<=1000:=by
  exact xbr
 obtain⟨N2,h2⟩:∃ N,∀ c∈cs.l,aM S N 173 [.agg p.c,c.v] (aB (jv p c.l)):=Yw (P:=fun(c:aR 1 aK) N=>aM S N 173 [.agg p.c,c.v] (aB (jv p c.l))) (fun a n m hnm h m' hm'=>h m' Z) fun c hc=>zct hS p gV c (hg' c hc).1 fun z hz=>xes
 generalize hT:kg (fun x:aR 1 aK=>j6 x.l) (fun x:aR 1 aK=>jv p x.l) cs.l []=T;have hTl:T.length<=1000:=by have:=zcw (kf:=fun x:aR 1 aK=>j6 x.l) (tw:=fun x:aR 1 aK=>jv p x.l) cs.l [];grind
 have hlim:T.length<9223372036854775808:=Z;have hmap:T.map (·.l)=b8 p:=by have h:=zcx (kf:=j6) (tw:=jv p) (f:=fun x:aR 1 aK=>x.l) cs.l [];rw[hT]at h;unfold b8;grind
 refine⟨bZ zx T hlim,by rw[zM];omega,N0+N2+3000,zr (i:=i171) (hS _ _ M M M M) rfl rfl (bP rfl) (N0+N2+2999) fun m hm d ah t af=>?_⟩;simp[slotsOf,za,zb,i171,Pn.c]at af;have c0:=h0 m Z;simp[Pn.c]at c0;have hkey:∀ x∈cs.l,∀ d ah aJ aa id,aL aO S m d ah aJ aa id 201 [x.v]=some (.r,aB (j6 x.l),aa):=fun x hx d ah aJ aa id=>aa7 hS x (hg' x hx).2.1 m (by grind) d ah aJ aa id;have pf:=fun A0 c i R5 l hl hm hkey K t Q B hB qz hQ af hK=>@U7 S hS m d ah A0 cs c i R5 l hl hm hkey K t Q B hB qz hQ af hK;rw[show i171.body=.seq (i171.body.sub [0]) (.seq (i171.body.sub [1,0]) (.seq (i171.body.sub [1,1,0]) (.seq (.seq (i171.body.sub [1,1,1,0,0]) (.block 0 (.loop (.seq (.seq (i171.body.sub [1,1,1,0,1,0,0,0,0]) (i171.body.sub [1,1,1,0,1,0,0,0,1])) (.seq (.block 1 (.seq (i171.body.sub [1,1,1,0,1,0,0,1,0,0,0]) (.seq (i171.body.sub [1,1,1,0,1,0,0,1,0,0,1,0]) (.seq (i171.body.sub [1,1,1,0,1,0,0,1,0,0,1,1,0]) (i171.body.sub [1,1,1,0,1,0,0,1,0,0,1,1,1]))))) (i171.body.sub [1,1,1,0,1,0,0,1,1])))))) (.seq (i171.body.sub [1,1,1,1,0]) .ret))))from rfl];generalize i171.body.sub [1,1,1,0,1,0,0,1,0,0,1,1,1]=U at pf ⊢;simp[i171,IC.sub,V0,Xa,Xb,Xe,af,c0,bF];refine zm cs.l.length (fun i st=>∃(ov:IV)(o:List (aR 1 aK)),kg (fun x:aR 1 aK=>j6 x.l) (fun x:aR 1 aK=>jv p x.l) (cs.l.drop i) o=T/\o.length<=i/\(∀ x∈o,x∈cs.l)/\st.aa[0]?=some (p.o)/\((o=[]/\ov=.nilsl)∨∃ B,0<B/\o≠[]/\ov=.slM d B 0 o.length o.length 1 false/\st.aa[B]?=some (aH (o.flatMap gp)))/\aN 69 st.t [(1,.ptrM d 0 0),(3,cs.v),(5,ov),(6,iv i)]) Z ⟨.nilsl,[],hT,M,M,rfl,.inl ⟨rfl,rfl⟩,by simp[V0,Xa,Xe,af,cZ]⟩ ?_;clear af;rintro i ⟨t,Q⟩ KA hi ⟨ov,o,lR,hol,hsub,qz,hO,af⟩ bp bK bQ;dsimp only at qz hO af;simp[za,zb,zf]at af;by_cases h:i<cs.l.length;rotate_left
 .simp[V0,Xa,Xe,af,h];refine bK _ _ ?_;rw[Sj Z]at lR;unfold kg at lR;subst lR;obtain⟨m,rfl⟩:=gv m 5;obtain⟨J,rfl⟩:∃ J,Q=p.o::J:=by
   cases Q with
   |nil=>grind
   |cons a J=>grind
  have cL:∃ B,dH gp 1 d 1 B 1 J ov o:=by
   rcases hO with⟨rfl,rfl⟩|⟨B,hB,hne,rfl,hb⟩
   .exact⟨fun _=>0,.inl ⟨rfl,rfl⟩⟩
   .obtain⟨b,rfl⟩:∃ b,B=1+b:=⟨B-1,Z⟩;rw[Nat.add_comm,rG]at hb;exact⟨fun _=>1,.inr ⟨b,hne,rfl,hb,rfl⟩⟩
  let⟨B,cL⟩:=cL;have f1:freeze (m+5) d (p.o::J) ov=some (bZ zx o hlim).v:=ZT (Pre:=[_]) zx rfl (fun a x hx m' hm' _ _=>Gv a x hx m' Z _ _) hlim cL;simp only[V0,Xa,Xe,af];grind
 have hx:cs.l[i]?=some cs.l[i]:=dw h;have hmem:=gQ h;rw[(EU h)]at lR;generalize cs.l[i]=c at hx lR hmem;have gE:bB (cs.l.flatMap gp) (i*1) 1=some [c.v]:=zd zx 0 1 hx Z;have hw:=zt i;have ct:=h2 c hmem m Z;simp[Pn.c]at ct;have hh0:∀ vis R,(bI vis Q.length (Q++R))[0]?=some (p.o):=fun vis R=>Yr qz vis R;unfold kg at lR;cases g:decide (jv p c.l<=0)
 .rw[b9 (of_decide_eq_false g)]at lR;obtain ⟨e,Q',bz,ag9,hQB,au⟩:=TF (d:=d) (ah:=ah) (ys:=[c]) zx (Xg qz [.free]) (lv:=ov) (xs:=o) (by
   grind) M (by grind) (by simp [gp,yI])
  simp[fB,gq,eB,gp,eT,jm,gF,gu,fP,mo,mV]at bz;simp only[V0,Xa,Xe,zc cs h,ct, *];have hlen:∀ d2 ah aJ aa,iY d2 ah aJ aa 1 ov=some (.p,aB (o.length:Nat),aa):=fun d2 ah aJ aa=>by
   rcases hO with⟨rfl,rfl⟩|⟨B,hB,hne,rfl,h2⟩
   .rfl
   rfl
  simp only[V0,Xa,Xe,af,hlen,zc cs h,gE,zh,zl,zq,Vz,ZA,bz];rw[mV,fB,gq]at hQB;refine pf (p.o) c i hx o Z Z (fun x hx2=>hkey x (by
   grind)) _ _ Q' (Q.length+1) Z ag9 hQB (by simp [V0,Xa,Xb,Xc,Xd,Xe,reduceCtorEq,af]) fun t' Q2 h0 hB ht'=>?_
  clear af;simp[za,zb,zf]at ht';simp only[V0,Xa,ht',hw];have hin:=Ld (kf:=fun x:aR 1 aK=>j6 x.l) (x:=c) (l:=o);have acz:=CX (kf:=fun x:aR 1 aK=>j6 x.l) (x:=c) (l:=o);refine bp Z _ ⟨_,_,lR,Z,fun x hx2=>?_,h0,.inr ⟨Q.length+1,Z,fun e=>?_,rfl,hB⟩,by simp[V0,Xa,Xe,ht',acz]⟩
  .grind
  grind
 .rw[bU (of_decide_eq_true g)]at lR;simp only[V0,Xa,Xe,zc cs h,ct, *];refine bp Z _ ⟨ov,o,lR,Z,hsub,Xg qz _,?_,by simp[V0,Xa,Xe,af]⟩;grind
theorem Is{ds nx:List Int}(hn:ds.Nodup){i:Nat}{z y:Int}(hz:ds[i]?=some z)(hy:nx[i]?=some y):∀ k,i<k->tJ ds nx z k=y
 |0,h=>by omega
 |k+1,h=>by
  unfold tJ;by_cases hk:k=i
  .grind
  .have ih:=Is hn hz hy k Z;cases hd:ds[k]? with
   |none=>omega
   |some a =>
    cases hx:nx[k]? with
    |none=>omega
    |some b =>
     have hne:¬ (a==z)=true:=fun e=>by have e:=eq_of_beq e;subst e;let⟨l1,e1⟩:=(ew.1 hd);let⟨l2,e2⟩:=(ew.1 hz);exact hk ((zl6 hn).1 (e1.trans e2.symm))
     grind
theorem X5{ds nx:List Int}(hn:ds.Nodup){y:Int}(h:(z,y)∈ds.zip nx):K1 ds nx z=y:=by let⟨i,hi⟩:=zms.1 h;let⟨h1,h2⟩:=zl7.1 hi;exact Is hn h1 h2 _ (ew.1 h1).1
theorem Bi{H:Type}{f g:H->List Int}:∀{l:List H},(∀ a∈l,(f a).length=(g a).length)->(l.flatMap f).zip (l.flatMap g)=l.flatMap fun a=>(f a).zip (g a)
 |[],_=>rfl
 |a::l,h=>by rw[eT,eT,eT,List.zip_append (h a (qj ..)),Bi fun b hb=>h b (tj _ hb)]
variable {u v:Int}
theorem Vi(h:Vm l u v):(iR v,u)∈(pe l).zip l:=by
 rcases h with⟨A,B,rfl⟩|⟨B,rfl,h⟩
 .refine zms.2 ⟨A.length,zl7.2 ⟨zf9 M ?_,M⟩⟩;rw[M0 M];grind
 .rw[zl8]at h;refine zms.2 ⟨(v::B).length-1,zl7.2 ⟨zf9 M ?_,h⟩⟩;simp
theorem G8{l:List H}{v:H}(h:v∈l):∃ u,Vm l u v:=by
 obtain⟨A,B,rfl⟩:=List.append_of_mem h;rcases zmq A with rfl|⟨A',u,rfl⟩
 .cases hB:(v::B).getLast? with
  |none=>grind
  |some u=>exact⟨u,.inr ⟨B,rfl,hB⟩⟩
 .exact⟨u,.inl ⟨A',B,M⟩⟩
theorem zgd(h:z∈pe l):∃ v∈l,z=iR v:=by unfold pe at h;grind
theorem BS(l:List Int):(pe l).Perm (l.map iR):=by refine List.Perm.map _ ?_;have:=List.perm_append_comm (l₁:=l.drop 1) (l₂:=l.take 1);rwa [MJ]at this
section
variable {p:Pn} (h:aX p)
include h
theorem aX.fV(hz:h.eH.gY z):iR z=-z/\h.eH.gY (-z):=by
 obtain⟨a,ha,rfl|rfl⟩:=h.dy.1 hz
 .exact⟨h.ng ha,h.dy.2 ⟨a,ha,.inr rfl⟩⟩
 .exact⟨by rw[h.ng2 ha,Sf],h.dy.2 ⟨a,ha,.inl (Sf _)⟩⟩
theorem aX.node(hz:h.eH.gY z):∃ x∈p.ns.l,h.eH.sp z=x.at'/\z∈bt p x.id:=by
 have key:∃ x∈p.ns.l,h.eH.sp z=x.at':=by
  obtain⟨a,ha,rfl|rfl⟩:=h.dy.1 hz
  .exact⟨_,(Zv (h.nice.fr a ha)).1,(h.rM ha).1⟩
  .exact⟨_,(Zv (h.nice.Xx a ha)).1,(h.rN ha).1⟩
 let⟨x,hx,e⟩:=key;exact⟨x,hx,e,(h.around hx).1.mem_iff.2 ((h.qC hx).1 ⟨hz,e⟩)⟩
def aX.eE(hx:x∈p.ns.l)(hz:z∈bt p x.id):h.eH.gY z/\h.eH.sp z=x.at':=(h.qC hx).2 ((h.around hx).1.mem_iff.1 hz)
theorem aX.sF:(dF p).Nodup:=by
 unfold dF;rw[List.Nodup,zlx];constructor
 .intro x hx;show(pe (bt p x.id)).Nodup;rw[(BS _).nodup_iff,List.Nodup,rE];refine((h.around hx).1.nodup_iff.2 h.nS).imp_of_mem fun{a b} ha hb aq e=>aq ?_;rw[(h.fV (h.eE hx ha).1).1,(h.fV (h.eE hx hb).1).1]at e;omega
 .have hp:=h.nice.VT;rw[rE]at hp;refine hp.imp_of_mem fun{x y} hx hy hxy u hu v hv e=>?_;let⟨a,ha,e1⟩:=zgd hu;let⟨b,hb,e2⟩:=zgd hv;let⟨a1,a2⟩:=h.eE hx ha;let⟨b1,b2⟩:=h.eE hy hb;rw[(h.fV a1).1]at e1;rw[(h.fV b1).1]at e2;have aq:a=b:=Z;subst aq;have:=zbs h.pts hx hy (by grind) (by grind);omega
def jU(p:Pn)(z:Int):Int:=K1 (dF p) (dQ p) z
theorem aX.next(hx:x∈p.ns.l)(ha:Vm (bt p x.id) u v):jU p (-v)=u:=by rw[←(h.fV (h.eE hx ha.mem.2).1).1];refine X5 h.sF ?_;unfold dF dQ;rw[Bi fun n _=>zf8 _];exact oQ.2 ⟨x,hx,Vi ha⟩
theorem aX.uO(hz:h.eH.gY z):h.eH.gY (jU p z)/\h.eH.sp (jU p z)=h.eH.sp (-z):=by obtain⟨_,hn⟩:=h.fV hz;let⟨x,hx,e,hm⟩:=h.node hn;let⟨u,hu⟩:=G8 hm;have:=h.next hx hu;rw[Sf]at this;rw[this,e];exact h.eE hx hu.mem.1
theorem aX.jd:z∈aZ p↔h.eH.gY z:=by
 rw[h.dy];unfold aZ;rw[qY,kO,kO];constructor
 .rintro(⟨a,ha,rfl⟩|⟨a,ha,rfl⟩)
  .rw[Si]at ha;exact⟨a,ha,.inr (h.ng ha)⟩
  grind
 .rintro⟨a,ha,rfl|rfl⟩
  .grind
  .exact .inl ⟨a,Si.2 ha,h.ng ha⟩
theorem aX.gd(hz:h.eH.gY z):GD p z:=by let⟨a,ha,e⟩:=h.dy.1 hz;have:=h.pid a ha;exact⟨a,ha,⟨Z,Z⟩,e,(h.nice.path ha).1⟩
theorem aX.PG:(dF p).length<=2*p.az.l.length:=by
 have h1:=h.sF.length_le_of_subset fun z hz=>by obtain⟨x,hx,hz⟩:=oQ.1 hz;obtain⟨v,hv,rfl⟩:=zgd hz;obtain⟨e,hd⟩:=h.fV (h.eE hx hv).1;rw[e];exact h.jd.2 hd
 have h2:(aZ p).length=2*p.az.l.length:=xcv
 omega
theorem aX.vC{z:Int}:∀(k:Nat)(l:List Int),l≠[]->(∀ x∈l,h.eH.gY x)->∀ x∈ku (jU p) z k l,h.eH.gY x
 |0,l,_,hl=>hl
 |k+1,l,hne,hl=>by
  unfold ku;split
  .omega
  .refine aX.vC k _ M fun x hx=>?_;rcases qY.1 hx with hx|hx
   .grind
   .rw[MG.1 hx];refine(h.uO (hl _ ?_)).1;have hp:=MH.2 hne;unfold eV;grind
end
theorem zae{f:Int->I}{g:I->List Int}{c:I}:∀{ds met:List Int}{o:List I},c∈gK f g ds met o->c∈o∨∃ z∈ds,c=f z
 |[],_,_,h=>.inl h
 |z::ds,met,o,h=>by
  unfold gK at h;split at h
  .exact xgg
  .exact xgg
section
variable {p:Pn} (h:aX p)
include h
theorem aX.pF(ha:p.az.l.length<=200):∀ c∈bn p,c.length<=512/\c≠[]/\∀ z∈c,GD p z:=fun c hc=>by
 rcases zae hc with hc|⟨z,hz,rfl⟩
 .grind
 have hd:=h.jd.1 hz;have hl:=zac (f:=jU p) (dJ:=z) (dF p).length [z];have hf:=h.PG;rw[fB,gq]at hl;refine⟨?_,fun e=>?_,fun x hx=>h.gd (aX.vC h (dF p).length [z] M (fun x hx=>by grind) x hx)⟩
 .show(ku (jU p) z (dF p).length [z]).length<=512;omega
 .have e:ku (jU p) z (dF p).length [z]=[]:=e;grind
theorem aX.agb:∀ n∈p.ns.l,∀ z∈bu p n.id,gz p z:=fun n hn z hz=>by obtain⟨_,_,g,_⟩:=zcu (h.gd ((h.qC hn).2 hz).1);omega
end
theorem Mo(hS:bk S)(p:Pn)(id:Int)(ha:p.az.l.length<=1000000):aM S (p.az.l.length+11) 176 [.agg p.c,aB id] (aB (mW p.az.l id:Nat)):=by
 refine zg (i:=i176) (hS _ _ M M M M) rfl rfl (bP rfl) (p.az.l.length+10) Z zp fun m hm d ah t af=>?_;simp[V2,i176,Pn.c]at af;simp[i176,V0,af];refine zm p.az.l.length (fun i st=>∃(O:aS),st.aa=p.o::O/\aN 35 st.t [(1,aB id),(2,.ptrM d 0 0),(5,iv (mW (p.az.l.take i) id:Nat)),(6,iv i)]) Z ⟨[],rfl,by simp only[V0,Xa,Xe,af,cZ,W3];rfl⟩ ?_;clear af;rintro i ⟨t,aa⟩ KA hi ⟨O,rfl,af⟩ bp bK bQ;simp[za,zb,zf]at af;by_cases h:i<p.az.l.length
 .obtain⟨x,hx⟩:=fc (l:=p.az.l) (i:=i) h;have jE:bB (p.az.l.flatMap Ac.c) (i*6+1) 1=some [aB x.fr]:=(zd Ac.aV 1 1 hx Z).trans rfl;have hr2:bB (p.az.l.flatMap Ac.c) (i*6+2) 1=some [aB x.to]:=(zd Ac.aV 2 1 hx Z).trans rfl;have hw:=zt i;have hd:=vu (id:=id) hx;have hle:=Jq (p.az.l.take i) id;rw[ER,ML Z]at hle;generalize mW (p.az.l.take i) id=n0 at af hd hle;have w1:=zt n0;have w2:aT .i64 (((n0+1:Nat):Int)+1)=((n0+1+1:Nat):Int):=oS;cases h1:x.fr==id<;>cases h2:x.to==id<;>rw[h1,h2]at hd<;>simp[nv,if_false,if_true,tY,eB,Xb]at hd
  .exact xbt
  .exact xbt
  .exact xbt
  .simp only[V0,Xa,Xe,zc p.az h, *];exact bp Z _ ⟨_,rfl,by simp only[V0,Xa,Xe,af,hd]⟩
 .have hii:i=p.az.l.length:=Z;subst hii;rw[rD]at af;simp[V0,Xa,Xe,af,h];refine bK _ _ ?_;exact xap
def X4(os:List (aR 1 aK)):Nat->aR 1 aK
 |0=>kV
 |i+1=>(os[i]?).getD kV
structure l5(D:Nat)(os:List (aR 1 aK))(n:Nat)(fi:Nat->List (aR 1 aK))(fa:Nat->List Int)(J:aS)(B:Nat->Nat)(lv:IV)(A:List jl):Prop where
 l:dH iT 4 D 1 B 0 J lv A
 len:A.length=n+1
 el:∀ i a,A[i]?=some a->dH gp 1 D 1 B (2+2*i) J a.iv a.ic/\dH aK 1 D 1 B (3+2*i) J a.av a.al/\a.tw=0/\a.oc=X4 os i/\a.ic=fi i/\a.al=fa i
variable {os:List (aR 1 aK)}
section
variable {D:Nat} {fi:Nat->List (aR 1 aK)} {fa:Nat->List Int} {J:aS} {B:Nat->Nat} {A:List jl}
theorem l5.ne(h:l5 D os n fi fa J B lv A):A≠[]:=fun he=>by have:=h.len;grind
theorem l5.more(h:l5 D os n fi fa J B lv A)(r:aS):l5 D os n fi fa (J++r) B lv A :=
 ⟨h.l.more r,h.len,fun i a ha=>by
  let⟨h1,h2,h3⟩:=h.el i a ha;exact ⟨h1.more r,h2.more r,h3⟩⟩
theorem l5.blk(h:l5 D os n fi fa J B lv A):∃ b,lv=.slM D (1+b) 0 A.length A.length 4 false/\J[b]?=some (aH (A.flatMap iT))/\B b=0:=by
 exact xen
theorem l5.set{fi2:Nat->List (aR 1 aK)}{fa2:Nat->List Int}{J2:aS}{B2:Nat->Nat}{a a':jl}(h:l5 D os n fi fa J B lv A)(hl:lv=.slM D (1+b) 0 A.length A.length 4 false)(hb:J2[b]?=some (aH (A.flatMap iT)))(hB:B2 b=0)(ha:A[i]?=some a)(hoc:a'.oc=a.oc)(EJ:a'.tw=a.tw)
  (hel:∀ j x,A[j]?=some x->j≠i->dH gp 1 D 1 B2 (2+2*j) J2 x.iv x.ic/\dH aK 1 D 1 B2 (3+2*j) J2 x.av x.al/\fi2 j=fi j/\fa2 j=fa j)
  (h1:dH gp 1 D 1 B2 (2+2*i) J2 a'.iv a'.ic) (h2:dH aK 1 D 1 B2 (3+2*i) J2 a'.av a'.al) (h3:a'.ic=fi2 i) (h4:a'.al=fa2 i) :
  l5 D os n fi2 fa2 (J2.set b (aH ((A.set i a').flatMap iT))) B2 lv (A.set i a'):=by
 refine⟨.inr ⟨b,fun he=>h.ne (by simp_all),by grind,vW (ew.1 hb).1,hB⟩,by rw[Vv];exact h.len,fun j x hx=>?_⟩
 by_cases hj:j=i
 .subst hj
  rw[vW (ew.1 ha).1]at hx
  cases hx
  obtain⟨_,_,g3,g4,_⟩:=h.el j a ha
  exact⟨dH.fJ hB Z h1,dH.fJ hB Z h2,Z,by grind,h3,h4⟩
 .rw[EV (Se hj)]at hx
  obtain⟨_,_,g3,g4,g5,g6⟩:=h.el j x hx
  let⟨g1,g2,e1,e2⟩:=hel j x hx hj
  exact⟨dH.fJ hB Z g1,dH.fJ hB Z g2,g3,g4,by grind,by grind⟩
end
theorem aat{m D:Nat}{ah:bq}{K:eU}(p:Pn)(os:aR 1 gp)(jM:os.l.length<=65536)(hm:os.l.length+20<=m)(J0:aS)(B0:Nat->Nat)(ru:IV)(A0:List jl)(h0:l5 D os.l 0 (fun _=>[]) (fun _=>[]) J0 B0 ru A0)
  (t:List IV) (af:aN 121 t [(1,.ptrM D 0 0),(3,os.v),(4,ru)])
  (hK:∀ t' J B lv A,l5 D os.l os.l.length (fun _=>[]) (fun _=>[]) J B lv A->aN 121 t' [(1,.ptrM D 0 0),(3,os.v),(4,lv)]->K .normal ⟨t',p.o::J⟩) :
  Ex (aL aO S m) D ah m (i138.body.sub [1,1,1,0]) K ⟨t,p.o::J0⟩:=by
 simp[za,zb]at af
 simp[i138,IC.sub,V0]
 refine zm os.l.length (fun i st=>∃(J:aS)(B:Nat->Nat)(lv:IV)(A:List jl),l5 D os.l i (fun _=>[]) (fun _=>[]) J B lv A/\st.aa=p.o::J/\aN 121 st.t [(1,.ptrM D 0 0),(3,os.v),(4,lv),(5,iv i)]) Z ⟨J0,B0,ru,A0,h0,rfl,by simp[V0,Xa,Xe,af,cZ]⟩ ?_
 clear af h0
 rintro i ⟨t,aa⟩ KA hi ⟨J,B,lv,A,hD,rfl,af⟩ bp bK bQ
 simp[za,zb,zf]at af
 by_cases h:i<os.l.length
 rotate_left
 .simp[V0,Xa,Xe,af,h]
  refine bK _ _ ?_
  obtain rfl:i=os.l.length:=Z
  simp[V0]
  exact hK _ _ _ _ _ hD xay
 obtain⟨c,hx⟩:=fc (l:=os.l) (i:=i) h
 have hrd:bB (os.l.flatMap gp) (i*1) 1=some [c.v]:=xc2
 have hw:=zt i
 have hlen:=hD.len
 obtain⟨e,qw,J2,bz,_,cL,iN,kJ⟩:=yE (k0:=1) (Pre:=[p.o]) (n0:=J.length+1) (slot:=1) (k:=1) (R:=[aH [aB 0,c.v,.nilsl,.nilsl],.free]) yg rfl hD.l (ys:=[⟨0,c,.nilsl,[],.nilsl,[]⟩]) M (by grind) Z rfl xf5
 have bz:=bz (look D ah (p.o::(J++[aH [aB 0,c.v,.nilsl,.nilsl],.free]))) (fun j x hj hx=>by simp[look,if_true];grind)
 simp[gu,fP,eT,jm,iT,fB,gq,gF,eB]at bz
 have R5:bW (look D ah (p.o::(J++[aH [aB 0,c.v,.nilsl,.nilsl],.free]))) 4 (.slM D (J.length+1) 0 1 1 4 false)=some ([aB 0,c.v,.nilsl,.nilsl],1):=by simp[bW,look,seg,zi]
 simp only[V0,Xa,Xb,Xd,Xe,zc os h,rep,Y5,fZ,zh,zl,zq, *]
 refine bp Z _ ⟨J2,_,qw,_,⟨cL,by grind,fun j a ha=>?_⟩,rfl,by simp[V0,Xa,Xe,af]⟩
 by_cases hj:j<A.length
 .rw[pN hj]at ha
  exact xet
 .rw[q8 Z]at ha
  have hj0:j-A.length=0:=by grind
  rw[hj0]at ha
  cases ha
  obtain rfl:j=i+1:=Z
  refine⟨.inl ⟨rfl,rfl⟩,.inl ⟨rfl,rfl⟩,rfl,?_,rfl,rfl⟩
  show c=(os.l[i]?).getD kV
  grind
variable {kk:aR 1 aK->Nat}
section
def ot(tw:aR 1 aK->Int)(kk:aR 1 aK->Nat)(l:List (aR 1 aK))(i:Nat):List (aR 1 aK):=l.filter fun c=>decide (tw c<=0)&&kk c==i
theorem TG{tw:aR 1 aK->Int}{l:List (aR 1 aK)}{c:aR 1 aK}(h:decide (tw c<=0)=false):ot tw kk (l++[c])=ot tw kk l:=by funext i;unfold ot;grind
theorem TI{tw:aR 1 aK->Int}{l:List (aR 1 aK)}{c:aR 1 aK}(h:decide (tw c<=0)=true):ot tw kk (l++[c]) (kk c)=ot tw kk l (kk c)++[c]:=by unfold ot;grind
theorem TH{tw:aR 1 aK->Int}{l:List (aR 1 aK)}{c:aR 1 aK}(h:i≠kk c):ot tw kk (l++[c]) i=ot tw kk l i:=by unfold ot;grind
def CY{tw:aR 1 aK->Int}{l:List (aR 1 aK)}:(ot tw kk l i).length<=l.length:=zlv ..
theorem aas(hS:bk S){m D:Nat}{ah:bq}{K:eU}(p:Pn)(os cs:aR 1 gp)(hol:os.l.length<=65536)(jM:cs.l.length<=65536)(hm:cs.l.length+20<=m)(tw:aR 1 aK->Int)(kk:aR 1 aK->Nat)(J0:aS)(B0:Nat->Nat)(lv:IV)(A0:List jl)(h0:l5 D os.l os.l.length (fun _=>[]) (fun _=>[]) J0 B0 lv A0)
  (EJ:∀ c∈cs.l,∀ d ah aJ aa id,aL aO S m d ah aJ aa id 173 [.agg p.c,c.v]=some (.r,aB (tw c),aa))
  (hcy:∀ c∈cs.l,∃(z:Int)(r:List Int)(y:Pt)(pa:aR 2 Pt.c)(v:Int),c.l=z::r/\pa.l[0]?=some y/\(∀ d ah aJ aa id,aL aO S m d ah aJ aa id 175 [.agg p.c,aB z]=some (.r,pa.v,aa))/\1+v=(kk c:Nat)/\kk c<=os.l.length/\(∀ d ah aJ aa id,aL aO S m d ah aJ aa id 174 [.agg p.c,os.v,.agg y.c]=some (.r,aB v,aa)))
  (t:List IV) (af:aN 121 t [(1,.ptrM D 0 0),(3,os.v),(4,lv),(6,cs.v)])
  (hK:∀ t' J B A,l5 D os.l os.l.length (ot tw kk cs.l) (fun _=>[]) J B lv A->aN 121 t' [(1,.ptrM D 0 0),(3,os.v),(4,lv)]->K .normal ⟨t',p.o::J⟩) :
  Ex (aL aO S m) D ah m (i138.body.sub [1,1,1,1,1,0]) K ⟨t,p.o::J0⟩:=by
 simp[za,zb]at af
 simp[i138,IC.sub,V0]
 refine zm cs.l.length (fun i st=>∃(J:aS)(B:Nat->Nat)(A:List jl),l5 D os.l os.l.length (ot tw kk (cs.l.take i)) (fun _=>[]) J B lv A/\st.aa=p.o::J/\aN 121 st.t [(1,.ptrM D 0 0),(3,os.v),(4,lv),(6,cs.v),(8,iv i)]) Z ⟨J0,B0,A0,h0,rfl,by simp[V0,Xa,Xe,af,cZ]⟩ ?_
 clear af h0
 rintro i ⟨t,aa⟩ KA hi ⟨J,B,A,hD,rfl,af⟩ bp bK bQ
 simp[za,zb,zf]at af
 by_cases h:i<cs.l.length
 rotate_left
 .simp[V0,Xa,Xe,af,h]
  refine bK _ _ ?_
  obtain rfl:i=cs.l.length:=Z
  rw[rD]at hD
  simp[V0]
  exact hK _ _ _ _ hD xay
 have hx:cs.l[i]?=some cs.l[i]:=dw h
 have pL:cs.l.take (i+1)=cs.l.take i++[cs.l[i]]:=by simp
 have hmem:=gQ h
 generalize cs.l[i]=c at hx hmem pL
 have ct:=EJ c hmem
 let⟨z,r,y,pa,v,ae8,hy,cp,hkv,lz,ca⟩:=hcy c hmem
 simp[Pn.c,Pt.c,zf]at ct cp ca
 have hrd:bB (cs.l.flatMap gp) (i*1) 1=some [c.v]:=xc2
 have hw:=zt i
 have hwk:aT .i64 (1+v)=((kk c:Nat):Int):=by rw[hkv];exact zbi rfl Z
 cases g:decide (tw c<=0)
 .have hic:=TG (kk:=kk) (l:=cs.l.take i) g
  rw[←pL]at hic
  simp only[V0,Xa,Xe,af,h,zc cs h,hrd,ct,g,hw]
  exact xej
 let⟨b,hlv,hb,hB⟩:=hD.blk
 have hAl:=hD.len
 have hk:kk c<A.length:=Z
 obtain⟨a,ha⟩:=fc (l:=A) (i:=kk c) hk
 let⟨g1,g2,g3,g4,g5,g6⟩:=hD.el _ a ha
 have hil:∀ aa,cu aa 4 (.slM D (1+b) 0 A.length A.length 4 false) (aB (kk c:Nat))=some (.p,.ptrM D (1+b) (kk c*4),aa):=fun aa=>xan
 have hic:∀ aa,cu aa 1 c.v (aB 0)=some (.p,.ptrC (c.l.flatMap aK) (0*1),aa):=fun aa=>zc c (i:=0) (by grind)
 have hip:∀ aa,cu aa 2 pa.v (aB 0)=some (.p,.ptrC (pa.l.flatMap Pt.c) (0*2),aa):=fun aa=>zc pa (i:=0) (ew.1 hy).1
 have hrc:bB (c.l.flatMap aK) (0*1) 1=some [aB z]:=(zd (l:=c.l) (i:=0) (x:=z) ze 0 1 (by grind) Z).trans rfl
 simp only[V0,Xa,Xe,af,h,zc cs h,hrd,ct,g,Xc,hic,hrc,cp,hip,((zd Pt.aV 0 2 hy Z).trans rfl:bB (pa.l.flatMap Pt.c) (0*2) 2=some [aB y.x,aB y.y]),ca,hwk]
 have hhA:∀(vis:List Nat)(x:aP)(R:aS),(bI vis (J.length+3+1) (x::(J++R)))[1+b]?=some (aH (A.flatMap iT)):=fun vis x R=>by have h2:=Yq (show(x::J)[1+b]?=some (aH (A.flatMap iT)) by grind) vis 3 R;grind
 have Pg:=CY (tw:=tw) (kk:=kk) (l:=cs.l.take i) (i:=kk c)
 rw[ER,ML Z,←g5]at Pg
 obtain⟨e,MO,J2,bz,he,cL,iN,kJ⟩:=yE (k0:=1) (Pre:=[p.o]) (n0:=J.length+3+1) (slot:=0) (k:=0) (R:=[.free]) zx rfl (g1.more [.free,.free,.free]) (ys:=[c]) M (by grind) (by grind) rfl xfz
 have Lo:=hD.more [.free,.free,.free]
 have bz:=bz (look D ah (bI [] (J.length+3+1) (p.o::(J++[.free,.free,.free]++[.free])))) (fun j x hj hx=>by
  simp only[look,if_true];rw[zu];grind)
 simp[gu,fP,eT,jm,gp,fB,gq,gF,eB,mo]at bz
 have fE:J2[b]?=some (aH (A.flatMap iT))/\Ci B ((J++[aP.free,.free,.free]).length+0) (2+2*kk c) b=0:=by
  exact xey
 have pq:=Lo.set hlv fE.1 fE.2 ha (a':={ a with iv:=MO,ic:=a.ic++[c] }) rfl rfl (fi2:=ot tw kk (cs.l.take (i+1))) (fa2:=fun _=>[]) (fun j x hx hj=>by
  obtain⟨q1,q2,_⟩:=Lo.el j x hx;exact ⟨kJ Z q1,kJ Z q2,by rw [pL]; exact TH hj,rfl⟩) cL (kJ Z (g2.more _)) (by show a.ic++[c]=_; rw [pL,TI g,← g5]) g6
 have hwr:dS (A.flatMap iT) (kk c*4+2) [MO]=(A.set (kk c) { a with iv:=MO,ic:=a.ic++[c] }).flatMap iT:=y4 yg ha M rfl
 simp only[V0,Xa,Xb,Xe,af,hlv,hil,hhA,((AR ha Z).trans rfl:bB (A.flatMap iT) (kk c*4+2) 1=some [a.iv]),zc cs h,hrd,rep,zh,zl,zq,ZA,bz,(fun x=>by grind:∀ x:aP,(x::J2)[1+b]?=some (aH (A.flatMap iT))),(fun x y=>by grind:∀(x y:aP),(x::J2).set (1+b) y=x::J2.set b y),(show kk c*4+2+1<=(A.flatMap iT).length by rw[zj yg];omega),hwr,cL.rO,cL.cells,hw]
 exact xgc
end
variable {dg:Nd->Int}{kn:Nd->Nat}
section
def nT(dg:Nd->Int)(kn:Nd->Nat)(l:List Nd)(i:Nat):List Int:=(l.filter fun n=>dg n==0&&kn n==i).map Nd.id
theorem Vf{l:List Nd}{c:Nd}(h:(dg c==0)=false):nT dg kn (l++[c])=nT dg kn l:=by funext i;exact xgq
def Vh{l:List Nd}{c:Nd}(h:(dg c==0)=true):nT dg kn (l++[c]) (kn c)=nT dg kn l (kn c)++[c.id]:=xgq
def Vg{l:List Nd}{c:Nd}(h:i≠kn c):nT dg kn (l++[c]) i=nT dg kn l i:=xgq
def Eg{l:List Nd}:(nT dg kn l i).length<=l.length:=xgq
theorem Qh(hS:bk S){m D:Nat}{ah:bq}{K:eU}(p:Pn)(hpn:p.ns.l.length<=1000000)(os:aR 1 gp)(hol:os.l.length<=65536)(hm:p.ns.l.length+20<=m)(dg:Nd->Int)(kn:Nd->Nat)(fi:Nat->List (aR 1 aK))(J0:aS)(B0:Nat->Nat)(lv:IV)(A0:List jl)(h0:l5 D os.l os.l.length fi (fun _=>[]) J0 B0 lv A0)
  (hdg:∀ n∈p.ns.l,∀ d ah aJ aa id,aL aO S m d ah aJ aa id 176 [.agg p.c,aB n.id]=some (.r,aB (dg n),aa))
  (hcy:∀ n∈p.ns.l,∃ v:Int,1+v=(kn n:Nat)/\kn n<=os.l.length/\(∀ d ah aJ aa id,aL aO S m d ah aJ aa id 174 [.agg p.c,os.v,.agg n.at'.c]=some (.r,aB v,aa)))
  (t:List IV) (af:aN 121 t [(1,.ptrM D 0 0),(3,os.v),(4,lv)])
  (hK:∀ t' J B A,l5 D os.l os.l.length fi (nT dg kn p.ns.l) J B lv A->aN 121 t' [(4,lv)]->K .normal ⟨t',p.o::J⟩) :
  Ex (aL aO S m) D ah m (i138.body.sub [1,1,1,1,1,1,0]) K ⟨t,p.o::J0⟩:=by
 simp[za,zb]at af
 simp[i138,IC.sub,V0]
 refine zm p.ns.l.length (fun i st=>∃(J:aS)(B:Nat->Nat)(A:List jl),l5 D os.l os.l.length fi (nT dg kn (p.ns.l.take i)) J B lv A/\st.aa=p.o::J/\aN 121 st.t [(1,.ptrM D 0 0),(3,os.v),(4,lv),(10,iv i)]) Z ⟨J0,B0,A0,h0,rfl,by simp[V0,Xa,Xe,af,cZ]⟩ ?_
 clear af h0
 rintro i ⟨t,aa⟩ KA hi ⟨J,B,A,hD,rfl,af⟩ bp bK bQ
 simp[za,zb,zf]at af
 by_cases h:i<p.ns.l.length
 rotate_left
 .simp[V0,Xa,Xe,af,h]
  refine bK _ _ ?_
  obtain rfl:i=p.ns.l.length:=Z
  rw[rD]at hD
  simp[V0]
  exact hK _ _ _ _ hD xay
 have hx:p.ns.l[i]?=some p.ns.l[i]:=dw h
 have pL:p.ns.l.take (i+1)=p.ns.l.take i++[p.ns.l[i]]:=by simp
 have hmem:=gQ h
 generalize p.ns.l[i]=c at hx hmem pL
 have cd:=hdg c hmem
 let⟨v,hkv,lz,ca⟩:=hcy c hmem
 simp[Pn.c,Pt.c,zf]at cd ca
 have jE:bB (p.ns.l.flatMap Nd.c) (i*3) 1=some [aB c.id]:=xfn
 have hr2:bB (p.ns.l.flatMap Nd.c) (i*3+1) 2=some [aB c.at'.x,aB c.at'.y]:=(zd Nd.aV 1 2 hx Z).trans rfl
 have hw:=zt i
 cases g:dg c==0
 .have hic:=Vf (kn:=kn) (l:=p.ns.l.take i) g
  rw[←pL]at hic
  simp only[V0,Xa,Xe,af,h,zc p.ns h,jE,cd,g,hw]
  exact xej
 let⟨b,hlv,hb,hB⟩:=hD.blk
 have hAl:=hD.len
 have hk:kn c<A.length:=Z
 obtain⟨a,ha⟩:=fc (l:=A) (i:=kn c) hk
 let⟨g1,g2,g3,g4,g5,g6⟩:=hD.el _ a ha
 have hil:∀ aa,cu aa 4 (.slM D (1+b) 0 A.length A.length 4 false) (aB (kn c:Nat))=some (.p,.ptrM D (1+b) (kn c*4),aa):=fun aa=>xan
 simp only[V0,Xa,Xe,af,h,zc p.ns h,jE,cd,g,hr2,ca,(show aT .i64 (1+v)=((kn c:Nat):Int) by rw[hkv];exact zbi rfl Z)]
 have hhA:∀(vis:List Nat)(x:aP)(R:aS),(bI vis (J.length+2+1) (x::(J++R)))[1+b]?=some (aH (A.flatMap iT)):=fun vis x R=>by have h2:=Yq (show(x::J)[1+b]?=some (aH (A.flatMap iT)) by grind) vis 2 R;grind
 have Pg:=Eg (dg:=dg) (kn:=kn) (l:=p.ns.l.take i) (i:=kn c)
 rw[ER,ML Z,←g6]at Pg
 obtain⟨e,MU,J2,bz,he,cL,iN,kJ⟩:=yE (k0:=1) (Pre:=[p.o]) (n0:=J.length+2+1) (slot:=0) (k:=0) (R:=[.free]) ze rfl (g2.more [.free,.free]) (ys:=[c.id]) M (by grind) (by grind) rfl rfl
 have Lo:=hD.more [aP.free,.free]
 have bz:=bz (look D ah (bI [] (J.length+2+1) (p.o::(J++[.free,.free]++[.free])))) (fun j x hj hx=>by
  simp only[look,if_true];rw[zu];grind)
 simp[gu,fP,eT,jm,aK,zf,fB,gq,gF,eB,mo]at bz
 have fE:J2[b]?=some (aH (A.flatMap iT))/\Ci B ((J++[aP.free,.free]).length+0) (3+2*kn c) b=0:=by
  exact xey
 have pq:=Lo.set hlv fE.1 fE.2 ha (a':={ a with av:=MU,al:=a.al++[c.id] }) rfl rfl (fi2:=fi) (fa2:=nT dg kn (p.ns.l.take (i+1))) (fun j x hx hj=>by
  obtain⟨q1,q2,_⟩:=Lo.el j x hx;exact ⟨kJ Z q1,kJ Z q2,rfl,by rw [pL]; exact Vg hj⟩) (kJ Z (g1.more _)) cL g5 (by show a.al++[c.id]=_; rw [pL,Vh g,← g6])
 have hwr:dS (A.flatMap iT) (kn c*4+3) [MU]=(A.set (kn c) { a with av:=MU,al:=a.al++[c.id] }).flatMap iT:=y4 yg ha M rfl
 simp only[V0,Xa,Xb,Xe,af,hlv,hil,hhA,((AR ha Z).trans rfl:bB (A.flatMap iT) (kn c*4+3) 1=some [a.av]),zc p.ns h,jE,rep,zh,zl,zq,zw,bz,(fun x=>by grind:∀ x:aP,(x::J2)[1+b]?=some (aH (A.flatMap iT))),(fun x y=>by grind:∀(x y:aP),(x::J2).set (1+b) y=x::J2.set b y),(show kn c*4+3+1<=(A.flatMap iT).length by rw[zj yg];omega),hwr,cL.rO,cL.cells]
 simp only[V0,Xa,Xe,af,hw]
 exact xgc
end
def startP(p:Pn)(c:List Int):Pt:=((bR p ((c[0]?).getD 0))[0]?).getD ⟨0,0⟩
def jo(p:Pn)(os:List (List Int))(q:Pt):Nat:=(1+Ve p os q).toNat
def ocR(os:List (List Int)):Nat->List Int
 |0=>[]
 |i+1=>(os[i]?).getD []
def Rm(p:Pn)(os:List (List Int))(q:Pt):-1<=Ve p os q/\Ve p os q<os.length:=zad _
theorem uR{f:IV->Option IV}:∀{A:List jl}{n:Nat}{F:Nat->Ar},A.length=n->(∀ i a,A[i]?=some a->(iT a).mapM f=some (kD (F i)))->(A.flatMap iT).mapM f=some (((List.range n).map F).flatMap kD)
 |[],_,F,hn,_=>by grind
 |a::A,_,F,hn,h=>by subst hn;rw[fB,List.range_succ_eq_map,mQ,MV,eT,eT,List.mapM_append,h 0 a rfl,(uR (A:=A) (n:=A.length) (F:=fun i=>F (i+1)) rfl fun i x hx=>h (i+1) x (by grind))];rfl
structure A4(p:Pn)(q:List Ar):Prop where
 len:q.length=(b8 p).length+1
 el:∀ i a,q[i]?=some a->a.tw=0/\a.oc.l=ocR (b8 p) i/\a.ic.l.map (·.l)=((bn p).filter fun c=>decide (jv p c<=0)&&jo p (b8 p) (startP p c)==i)/\a.al.l=((p.ns.l.filter fun n=>((mW p.az.l n.id:Nat):Int)==0&&jo p (b8 p) n.at'==i).map Nd.id)
theorem YV{I γ:Type}(f:I->γ)(q:γ->Bool):∀ l:List I,(l.filter fun x=>q (f x)).map f=(l.map f).filter q
 |[]=>rfl
 |x::l=>by
  rw[mQ,MZ,MZ];split
  .rw[mQ,YV f q l]
  .exact YV f q l
theorem X3:∀ i,(X4 os i).l=ocR (os.map (·.l)) i
 |0=>rfl
 |i+1=>by show((os[i]?).getD kV).l=((os.map (·.l))[i]?).getD [];rw[qn];cases os[i]?<;>rfl
theorem GX(hS:bk S)(p:Pn)(gV:bL p)(ha:p.az.l.length<=200)(hn:p.ns.l.length<=200)(hok:∀ n∈p.ns.l,∀ z∈bu p n.id,gz p z)(hE:jq p=0)(hg:∀ c∈bn p,c.length<=512/\c≠[]/\∀ z∈c,GD p z):∃ q:List Ar,A4 p q/\q.length<=401/\∃ N,∀ m,N<=m->∀ d ah aJ aa id,aa[id]?=some .free->aL aO S m d ah aJ aa id 138 [.agg p.c]=some (.a,.slM d id 0 q.length q.length 4 false,aa.set id (aH (q.flatMap kD))):=by
 let⟨os,hos,N0,h0⟩:=Ml hS p gV ha hn hok hE hg;let⟨cs,hcs,N1,h1⟩:=vO hS p gV ha hn hok hE;have hg':∀ c∈cs.l,c.l.length<=512/\c.l≠[]/\∀ z∈c.l,GD p z:=fun c hc=>hg _ (by grind);have agp:∀ c∈os.l,c.l.length<=512/\∀ z∈c.l,GD p z:=fun c hc=>by have h3:=(EP.1 ((Zw p).mem_iff.1 (show c.l∈b8 p by grind))).1;grind
 have jM:cs.l.length<=400:=by
  exact xbr
 have hol:os.l.length<=400:=by have h:=dL List.length hos;rw[qE]at h;have h2:=(Zw p).length_eq;grind
 obtain⟨N2,h2⟩:∃ N,∀ c∈cs.l,aM S N 173 [.agg p.c,c.v] (aB (jv p c.l)):=Yw (P:=fun(c:aR 1 aK) N=>aM S N 173 [.agg p.c,c.v] (aB (jv p c.l))) (fun a n m hnm h m' hm'=>h m' Z) fun c hc=>zct hS p gV c (hg' c hc).1 fun z hz=>xes
 let⟨N3,h3⟩:=G1 hS p gV os Z agp;obtain⟨N4,h4⟩:∃ N,∀ c∈cs.l,∃ q:aR 2 Pt.c,q.l=bR p ((c.l[0]?).getD 0)/\aM S N 175 [.agg p.c,aB ((c.l[0]?).getD 0)] q.v:=Yw (P:=fun(c:aR 1 aK) N=>∃ q:aR 2 Pt.c,q.l=bR p ((c.l[0]?).getD 0)/\aM S N 175 [.agg p.c,aB ((c.l[0]?).getD 0)] q.v) (fun a n m hnm ⟨q,hq,h⟩=>⟨q,hq,fun m' hm'=>h m' Z⟩) fun c hc=>by
  let⟨hl,hne,hgd⟩:=hg' c hc;cases sD:c.l with
  |nil=>grind
  |cons z r =>
   let⟨q,hq,N,h⟩:=vM hS p z gV (hgd z (by grind))
   grind
 have hic:∀ i,(ot (fun c=>jv p c.l) (fun c=>jo p (b8 p) (startP p c.l)) cs.l i).length<9223372036854775808:=fun i=>by have:=CY (tw:=fun c=>jv p c.l) (kk:=fun c=>jo p (b8 p) (startP p c.l)) (l:=cs.l) (i:=i);omega
 have hal:∀ i,(nT (fun n=>((mW p.az.l n.id:Nat):Int)) (fun n=>jo p (b8 p) n.at') p.ns.l i).length<9223372036854775808:=fun i=>by have:=Eg (dg:=fun n=>((mW p.az.l n.id:Nat):Int)) (kn:=fun n=>jo p (b8 p) n.at') (l:=p.ns.l) (i:=i);omega
 generalize hF:(fun i=>(⟨0,X4 os.l i,bZ zx _ (hic i),bZ ze _ (hal i)⟩:Ar))=F;have acq:((List.range (os.l.length+1)).map F).length=os.l.length+1:=by simp
 refine⟨(List.range (os.l.length+1)).map F,⟨?_,fun i a kX=>?_⟩,Z,N0+N1+N2+N3+N4+3000,fun m hm d ah aJ aa id hid=>?_⟩
 .grind
 .rw[qn]at kX;have hi:i<os.l.length+1:=by grind
  rw[zm7 hi,iJ,iw]at kX;subst kX;rw[←hF];refine⟨rfl,(X3 i).trans (by grind),?_,?_⟩
  .dsimp only;rw[zM,←hcs];exact YV (fun x:aR 1 aK=>x.l) (fun c=>decide (jv p c<=0)&&jo p (b8 p) (startP p c)==i) cs.l
  .dsimp only;rw[zM];rfl
 obtain⟨m,rfl⟩:=gv m 8;suffices hmain:∃ r,aL aO S (m+7+1) d ah aJ aa id 138 [.agg p.c]=some r/\r=(.a,.slM d id 0 ((List.range (os.l.length+1)).map F).length ((List.range (os.l.length+1)).map F).length 4 false,aa.set id (aH (((List.range (os.l.length+1)).map F).flatMap kD))) by grind
 refine zF (i:=i138) (hS _ _ M M M M) rfl (show(1:Nat)≠2/\(1:Nat)≠3/\¬ 4<=1 by simp) (bP rfl) fun t af=>?_;simp[slotsOf,za,zb,i138,Pn.c]at af;generalize(fun l=>if l=d then aJ else ah l:bq)=bH
 have fin:∀(t':List IV)(J:aS)(B:Nat->Nat)(lv:IV)(A:List jl),l5 (d+1) os.l os.l.length (ot (fun c=>jv p c.l) (fun c=>jo p (b8 p) (startP p c.l)) cs.l) (nT (fun n=>((mW p.az.l n.id:Nat):Int)) (fun n=>jo p (b8 p) n.at') p.ns.l) J B lv A->aN 121 t' [(2,lv)]->(Out.ret=.normal∨Out.ret=.ret)/\∃ v r,bh (d+1) bH ⟨t',p.o::J⟩ i138.res=some v/\leave (m+7) d (p.o::J) aa id i138.mode v=some r/\r=(.a,.slM d id 0 ((List.range (os.l.length+1)).map F).length ((List.range (os.l.length+1)).map F).length 4 false,aa.set id (aH (((List.range (os.l.length+1)).map F).flatMap kD))):=fun t' J B lv A hD ht=>by
  simp[za,zb]at ht;let⟨b,hlv,hb,hB⟩:=hD.blk;have hfz:(A.flatMap iT).mapM (freeze (m+7) (d+1) ((p.o::J).set (1+b) .gone))=some (((List.range (os.l.length+1)).map F).flatMap kD):=by rw[Nat.add_comm 1 b,zk4];refine uR hD.len fun i a kX=>?_;let⟨q1,q2,q3,q4,q5,q6⟩:=hD.el i a kX;have q1:=dH.fJ (o:=.gone) hB Z q1;have q2:=dH.fJ (o:=.gone) hB Z q2;rw[q5]at q1;rw[q6]at q2;have f1:=ZT (Pre:=[p.o]) (n:=m+6) zx rfl (fun c x hx=>(Gv c x hx).le Z) (hic i) q1;have f2:=ZT (Pre:=[p.o]) (n:=m+6) ze rfl (fun c x hx=>(yO c x hx).le Z) (hal i) q2;simp[gu,fP]at f1 f2;have f3:freeze (m+7) (d+1) (p.o::J.set b .gone) a.oc.v=some a.oc.v:=zP yO a.oc _ Z _ _;have f0:freeze (m+7) (d+1) (p.o::J.set b .gone) (aB 0)=some (aB 0):=rfl;rw[q4]at f3;rw[←hF];simp[iT,kD,mq,qi,f0,f1,f2,f3,nY,nZ,iD,q3,q4]
  have hAl:=hD.len;refine⟨.inr rfl,lv,_,by simp[i138,V0,ht],?_,rfl⟩;have eX:seg (A.flatMap iT) 0 (A.length*4)=some (A.flatMap iT):=by unfold seg;rw[zi,zj yg,bU Z,s7,fT (by rw[zj yg];simp)]
  rw[hAl]at eX;rw[hlv];have Wf:i138.mode=1:=rfl;unfold leave;simp[Wf,if_true,handed,(show(p.o::J)[1+b]?=some (aH (A.flatMap iT)) by grind),eX,hfz,dD,hid,zi,hAl,acq]
 suffices jc:∀ K:eU,(∀(t':List IV)(J:aS)(B:Nat->Nat)(lv:IV)(A:List jl),l5 (d+1) os.l os.l.length (ot (fun c=>jv p c.l) (fun c=>jo p (b8 p) (startP p c.l)) cs.l) (nT (fun n=>((mW p.az.l n.id:Nat):Int)) (fun n=>jo p (b8 p) n.at') p.ns.l) J B lv A->aN 121 t' [(2,lv)]->K .ret ⟨t',p.o::J⟩)->Ex (aL aO S (m+7)) (d+1) bH (m+7) i138.body K ⟨t,[]⟩from jc _ fin
 clear fin;intro K fin;have c0:=fun d ah aJ aa i=>h0 (m+7) Z d ah aJ aa i;have c1:=fun d ah aJ aa i=>h1 (m+7) Z d ah aJ aa i;simp[Pn.c]at c0 c1;have hone:=fun K J0 B0 ru A0 h0 t af hK=>@aat S (m+7) (d+1) bH K p os Z Z J0 B0 ru A0 h0 t af hK;have TS:∀ q:Pt,1+Ve p (b8 p) q=(jo p (b8 p) q:Nat)/\jo p (b8 p) q<=os.l.length:=fun q=>by have:=Rm p (b8 p) q;rw[←hos,qE,hos]at this;unfold jo;omega
 have OX:=fun K J0 B0 lv A0 h0 t af hK=>@aas S hS (m+7) (d+1) bH K p os cs Z Z Z (fun c=>jv p c.l) (fun c=>jo p (b8 p) (startP p c.l)) J0 B0 lv A0 h0 (fun c hc d ah aJ aa id=>h2 c hc (m+7) Z d ah aJ aa id) (fun c hc=>by
  let⟨pa,hpa,hp⟩:=h4 c hc;have hne:=(hg' c hc).2.1;cases sD:c.l with
  |nil=>grind
  |cons z r =>
   rw[sD]at hpa hp
   have hl:=uJ gV (((z::r)[0]?).getD 0)
   have hst:pa.l[0]?=some (startP p (z::r)):=by unfold startP;grind
   refine⟨z,r,startP p (z::r),pa,Ve p (b8 p) (startP p (z::r)),rfl,hst,fun d ah aJ aa id=>hp (m+7) Z d ah aJ aa id,(TS _).1,(TS _).2,fun d ah aJ aa id=>?_⟩
   rw[←hos]
   exact h3 _ (m+7) Z d ah aJ aa id) t af hK
 have OY:=fun K fi J0 B0 lv A0 h0 t af hK=>@Qh S hS (m+7) (d+1) bH K p Z os Z Z (fun n=>((mW p.az.l n.id:Nat):Int)) (fun n=>jo p (b8 p) n.at') fi J0 B0 lv A0 h0 (fun n hn d ah aJ aa id=>Mo hS p n.id Z (m+7) Z d ah aJ aa id) (fun n hn=>⟨Ve p (b8 p) n.at',(TS _).1,(TS _).2,fun d ah aJ aa id=>by
  rw[←hos];exact h3 _ (m+7) Z d ah aJ aa id⟩) t af hK
 rw[show i138.body=.seq (i138.body.sub [0]) (.seq (i138.body.sub [1,0]) (.seq (i138.body.sub [1,1,0]) (.seq (i138.body.sub [1,1,1,0]) (.seq (i138.body.sub [1,1,1,1,0]) (.seq (i138.body.sub [1,1,1,1,1,0]) (.seq (i138.body.sub [1,1,1,1,1,1,0]) (i138.body.sub [1,1,1,1,1,1,1])))))))from rfl];generalize i138.body.sub [1,1,1,0]=T1 at hone ⊢;generalize i138.body.sub [1,1,1,1,1,0]=T2 at OX ⊢;generalize i138.body.sub [1,1,1,1,1,1,0]=T3 at OY ⊢;simp[i138,IC.sub,V0,Xa,Xb,Xe,af,c0,rep,Y5,fZ,dD];refine hone _ [.free,aH [aB 0,.nilsl,.nilsl,.nilsl]] (fun _=>0) (.slM (d+1) 2 0 1 1 4 false) [⟨0,kV,.nilsl,[],.nilsl,[]⟩] ⟨.inr ⟨1,M,rfl,rfl,rfl⟩,rfl,fun i a kX=>?_⟩ _ xap fun t1 J1 B1 VZ A1 hD1 ht1=>?_
 .cases i with
  |succ i=>grind
  |zero =>
   simp[rH,iw]at kX
   subst kX
   exact⟨.inl ⟨rfl,rfl⟩,.inl ⟨rfl,rfl⟩,rfl,rfl,rfl,rfl⟩
 clear af;simp[za,zb]at ht1;simp[V0,Xa,Xe,ht1,c1,bF];refine OX _ _ B1 VZ A1 (hD1.more _) _ (by simp[V0,Xa,Xe,ht1]) fun t2 J2 B2 A2 Wt ht2=>?_;simp[V0];refine OY _ _ J2 B2 VZ A2 Wt t2 ht2 fun t3 J3 B3 A3 Lo ht3=>?_;clear ht1 ht2;simp[za,zb]at ht3;simp[V0,Xa,ht3];exact fin _ _ _ _ _ Lo (by simp[V0,Xa,ht3])
theorem Vb(hS:bk S)(xs:List Int)(hxl:xs.length<=1000000000)(n:Int){aa:aS}{id:Nat}(hm:xs.length+4<=m)(h:RdI (d+1) (fun l=>if l=d then aJ else ah l) lv xs):aL aO S m d ah aJ aa id 125 [lv,aB n]=some (.r,.bool (xs.contains n),aa):=by
 obtain⟨m,rfl⟩:=gv m 2;have main:∃ r,aL aO S (m+1+1) d ah aJ aa id 125 [lv,aB n]=some r/\r=(.r,.bool (xs.contains n),aa):=by
  refine zF (i:=i125) (hS _ _ M M M M) rfl Δ (bP rfl) fun t af=>?_;simp[V2,i125]at af;generalize(fun l=>if l=d then aJ else ah l:bq)=bH at h ⊢
  have hlen:∀ d aa aJ,iY d bH aJ aa 1 lv=some (.p,aB (xs.length:Nat),aa):=fun d aa aJ=>by
   exact xa5
  simp only[i125,V0,seval];exact aD
 grind
theorem Q8(hS:bk S)(a b:aR 1 aK)(hal:a.l.length<=1000000000):aM S (a.l.length+4) 141 [a.v,b.v] (.bool (decide (a.l=b.l))):=by
 refine zg (i:=i141) (hS _ _ M M M M) rfl rfl (bP rfl) (a.l.length+3) Z zk fun m hm d ah t af=>?_;simp[V2,i141]at af;cases hl:((a.l.length:Nat):Int) != ((b.l.length:Nat):Int);rotate_left
 .have hne:¬ a.l=b.l:=fun e=>by grind
  simp only[i141,V0,Xa,Xe,reduceCtorEq,af,hl];grind
 have IZ:a.l.length=b.l.length:=by grind
 simp[i141,V0,Xa,Xe,reduceCtorEq,af,hl];refine zm a.l.length (fun i st=>a.l.take i=b.l.take i/\st.aa=[]/\aN 26 st.t [(0,a.v),(1,b.v),(5,iv i)]) Z ⟨rfl,rfl,by simp[V0,Xa,Xe,reduceCtorEq,af,cZ]⟩ ?_;clear af;rintro i ⟨t,bJ⟩ KA hi ⟨hc,rfl,af⟩ bp bK bQ;simp[za,zb,zf]at af;by_cases h:i<a.l.length
 .have h2:i<b.l.length:=Z;have hx:a.l[i]?=some a.l[i]:=dw h;have hy:b.l[i]?=some b.l[i]:=dw h2;generalize a.l[i]=x at hx;generalize b.l[i]=y at hy;have gE:bB (a.l.flatMap aK) (i*1) 1=some [aB x]:=zd ze 0 1 hx Z;have r7:bB (b.l.flatMap aK) (i*1) 1=some [aB y]:=zd ze 0 1 hy Z;cases hb:x != y
  .simp only[V0,Xa,Xe,reduceCtorEq,af,h,zc a h,zc b h2,gE,r7,hb,(zt i)];exact bp Z _ ⟨by rw[jh,jh,hx,hy,hc,(show x=y by grind)],rfl,by simp[V0,Xa,Xe,reduceCtorEq,af]⟩
  .have hne:¬ a.l=b.l:=fun e=>by grind
   simp only[V0,Xa,Xe,reduceCtorEq,af,h,zc a h,zc b h2,gE,r7,hb];refine bQ _ ?_;simp[V0,Xa,af,decide_eq_false hne]
 .simp[V0,Xa,Xe,reduceCtorEq,af,h];refine bK _ _ ?_;rw[fT Z,fT Z]at hc;simp[V0,Xa,af,decide_eq_true hc]
def j7(p:Pn)(i:Nat)(a:Ar):Int:=match i with
 |0=>a.tw
 |_+1=>iy p ((a.oc.l[0]?).getD 0)
def dN(p:Pn):Nat->List Ar->List Int->Option (List Int)
 |_,[],fs=>some fs
 | i,a::l,fs=>if (decide (0<i)&&(j7 p i a==0||fs.contains (j7 p i a)))=true then none else if (dB p a.oc.l (j7 p i a)&&a.ic.l.all fun c=>dB p c.l (j7 p i a))=true then dN p (i+1) l (if 0<i then fs++[j7 p i a]else fs)else none
def fcB(p:Pn):Option (List Int)->Bool
 |none=>false
 |some fs=>decide (gG fs=p.fs.l)
def fcV(As:List Ar)(n:Nat):Option (List Int)->IV
 |none=>.nilsl
 |some _=>.slC (As.flatMap kD) n 4 false
def sH(p:Pn)(As:List Ar):Bool:=fcB p (dN p 0 As [])
def kG(p:Pn)(As:List Ar)(i:Nat):List Ar:=As.mapIdx fun j a=>if j<i then{ a with tw:=j7 p j a }else a
variable {As:List Ar}
theorem YW{p:Pn}:(kG p As i).length=As.length:=by unfold kG;simp
theorem zbu{p:Pn}{a:Ar}(ha:As[j]?=some a):(kG p As i)[j]?=some (if j<i then{ a with tw:=j7 p j a }else a):=by unfold kG;grind
theorem zcy{p:Pn}:kG p As 0=As:=by refine Hj fun j=>?_;unfold kG;simp
theorem BH{p:Pn}{a:Ar}(ha:As[i]?=some a):(kG p As i).set i { a with tw:=j7 p i a }=kG p As (i+1):=by
 refine Hj fun j=>?_;by_cases hj:i=j
 .subst hj;have hl:=(ew.1 ha).1;rw[vW (by rw[YW];omega),zbu ha,bU (zl5 _)]
 .rw[EV hj];unfold kG;grind
theorem Kr{p:Pn}{a:Ar}(ha:As[0]?=some a):kG p As 1=As:=by
 rw[←BH ha,zcy];refine Hj fun j=>?_;by_cases hj:0=j
 .subst hj;rw[vW (ew.1 ha).1,ha];rfl
 grind
def G2{A:List Ar}{a:Ar}(ha:A[k]?=some a)(hj:j+1<=4):bB (A.flatMap kD) (k*4+j) 1=bB (kD a) j 1:=zd Zt j 1 ha hj
theorem aan(hS:bk S)(p:Pn){m d:Nat}{ah:bq}{K:eU}(As:List Ar)(i n:Nat)(hn:As.length=n)(hnl:n<=1000)(a:Ar)(ha:As[i]?=some a)(hm:2000<=m)(hz:a.tw=0∨0<i)(hoc:0<i->a.oc.l≠[])
  (O3:0<i->∀ d ah aJ aa id,aL aO S m d ah aJ aa id 139 [.agg p.c,aB ((a.oc.l[0]?).getD 0)]=some (.r,aB (iy p ((a.oc.l[0]?).getD 0)),aa))
  (t:List IV) (J:aS) (fv:IV) (fs:List Int) (hfl:fs.length<=i) (hO:bE aK 1 d 2 J fv fs) (af:aN 99 t [(1,.ptrM d 0 0),(4,.slM d 1 0 n n 4 false),(5,fv),(6,iv i)])
  (hR:(decide (0<i)&&(j7 p i a==0||fs.contains (j7 p i a)))=true->∀ t' J',aN 99 t' [(2,.nilsl),(3,.bool false)]->K .ret ⟨t',p.o::J'⟩)
  (hK:(decide (0<i)&&(j7 p i a==0||fs.contains (j7 p i a)))=false->∀ t' J' fv',bE aK 1 d 2 J' fv' (if 0<i then fs++[j7 p i a]else fs)->aN 99 t' [(1,.ptrM d 0 0),(4,.slM d 1 0 n n 4 false),(5,fv'),(6,iv i)]->K .normal ⟨t',p.o::aH ((kG p As (i+1)).flatMap kD)::J'⟩) :
  Ex (aL aO S m) d ah m (i70.body.sub [1,1,1,0,1,0,0,1,0,0,0]) K ⟨t,p.o::aH ((kG p As i).flatMap kD)::J⟩:=by
 simp[za,zb,zf]at af
 have hil:=(ew.1 ha).1
 rcases i with -|i
 .have hg0:decide (((0:Nat):Int)>0)=false:=rfl
  simp only[i70,IC.sub,V0,Xa,af,hg0]
  have h1:=hK rfl
  rw[Kr ha]at h1
  rw[zcy]
  exact h1 _ _ fv hO (by simp[V0,Xe,af,cZ])
 have hpos:0<i+1:=Nat.succ_pos _
 have hg1:decide (((i+1:Nat):Int)>0)=true:=decide_eq_true Z
 have cs:=O3 hpos
 have hne:=hoc hpos
 simp[Pn.c]at cs
 have hg:=zbu (p:=p) (i:=i+1) ha
 rw[b9 (zmw _)]at hg
 have hst:=BH (p:=p) ha
 have hlen:=YW (p:=p) (As:=As) (i:=i+1)
 generalize kG p As (i+1)=L at hg hst hlen
 have hra:bB (L.flatMap kD) ((i+1)*4+1) 1=some [a.oc.v]:=(G2 hg Z).trans rfl
 have hic:∀ aa,cu aa 1 a.oc.v (aB 0)=some (.p,.ptrC (a.oc.l.flatMap aK) (0*1),aa):=fun aa=>zc a.oc (i:=0) (MH.2 hne)
 have hrc:bB (a.oc.l.flatMap aK) (0*1) 1=some [aB ((a.oc.l[0]?).getD 0)]:=(zd (l:=a.oc.l) (i:=0) (x:=(a.oc.l[0]?).getD 0) ze 0 1 (by grind) Z).trans rfl
 have ac6:j7 p (i+1) a=iy p ((a.oc.l[0]?).getD 0):=rfl
 rw[ac6]at hR hK hst
 generalize iy p ((a.oc.l[0]?).getD 0)=f at hR hK cs hst ac6
 have hwr:dS (L.flatMap kD) ((i+1)*4) [aB f]=(L.set (i+1) { a with tw:=f }).flatMap kD:=by have:=y4 (x':={ a with tw:=f }) (vs:=[aB f]) (k:=0) Zt hg M rfl;omega
 rw[hst]at hwr
 have hfit:(i+1)*4+1<=(L.flatMap kD).length:=by rw[zj Zt,hlen];omega
 have F5:∀ aa,cu aa 4 (.slM d 1 0 n n 4 false) (aB ((i+1:Nat):Int))=some (.p,.ptrM d 1 ((i+1)*4),aa):=fun aa=>by have:=zo (aa:=aa) (l:=d) (b:=1) (off:=0) (cap:=n) (z:=4) (z':=4) (tight:=false) (k:=.i64) (show i+1<n by omega);grind
 have s9:∀(vis:List Nat)(x y:aP)(R:aS),(bI vis (J.length+1+1) (x::y::(J++R)))[1]?=some y:=fun vis x y R=>Yr (Q:=x::y::J) rfl vis R
 simp only[i70,IC.sub,V0,Xa,Xc,Xe, *]
 have hg2:=zbu (p:=p) (i:=i+1+1) ha
 rw[bU (zl5 _),ac6]at hg2
 have acw:=YW (p:=p) (As:=As) (i:=i+1+1)
 generalize kG p As (i+1+1)=L2 at hg2 acw hK
 have hrf:∀ x:Ar,L2[i+1]?=some x->bB (L2.flatMap kD) ((i+1)*4) 1=some [aB x.tw]:=fun x hx=>(zd Zt 0 1 hx Z).trans rfl
 have hrf:=hrf _ hg2
 dsimp only at hrf
 have adw:∀ (x y:aP) (R aa:aS) (id:Nat),aL aO S m d ah (x::y::(J++R)) aa id 125 [fv,aB f]=some (.r,.bool (fs.contains f),aa):=fun x y R aa id=>Vb hS fs Z f Z (by
  rcases hO with⟨rfl,rfl⟩|⟨b,hne,rfl,hb⟩
  .exact xeg
  .refine .inr ⟨d,_,_,_,Z,rfl,?_⟩;grind)
 cases g1:f==0
 rotate_left
 .simp only[V0,Xa,Xb,Xe,af,F5,hrf,g1]
  refine hR (by grind) _ _ ?_
  exact xap
 cases g2:fs.contains f
 rotate_left
 .simp only[V0,Xa,Xb,Xe, *]
  refine hR (by grind) _ _ ?_
  exact xap
 obtain⟨e,fv',J2,bz,cL⟩:=zI (Pre:=[p.o,aH (L2.flatMap kD)]) (n0:=J.length+1+1+1+1) (slot:=0) (k:=2) (ah:=ah) (R:=[.free,.free,.free]) ze hO (ys:=[f]) M (by grind) (by grind) rfl rfl
 simp[fP,gu,eT,jm,aK,zf,fB,gq,gF,eB]at bz
 rw[bU hpos]at hK
 simp only[V0,Xa,Xb,Xe,rep,zh,zl,zq,zw, *]
 exact hK (by grind) _ _ _ cL xap
def mS(p:Pn)(b:Ar):Bool:=dB p b.oc.l b.tw&&b.ic.l.all fun c=>dB p c.l b.tw
theorem aam(hS:bk S)(p:Pn){m d:Nat}{ah:bq}{K:eU}(L:List Ar)(i n:Nat)(hn:L.length=n)(hnl:n<=1000)(b:Ar)(hg:L[i]?=some b)(th:b.ic.l.length<=1000)(hm:2000<=m)
  (hs1:∀ d ah aJ aa id,aL aO S m d ah aJ aa id 140 [.agg p.c,b.oc.v,aB b.tw]=some (.r,.bool (dB p b.oc.l b.tw),aa))
  (hs2:∀ c∈b.ic.l,∀ d ah aJ aa id,aL aO S m d ah aJ aa id 140 [.agg p.c,c.v,aB b.tw]=some (.r,.bool (dB p c.l b.tw),aa))
  (t:List IV) (J:aS) (fv:IV) (fs:List Int) (hO:bE aK 1 d 2 J fv fs) (af:aN 99 t [(1,.ptrM d 0 0),(4,.slM d 1 0 n n 4 false),(5,fv),(6,iv i)])
  (hR:mS p b=false->∀ t' J',aN 99 t' [(2,.nilsl),(3,.bool false)]->K .ret ⟨t',p.o::J'⟩)
  (hK:mS p b=true->∀ t' J',bE aK 1 d 2 J' fv fs->aN 99 t' [(1,.ptrM d 0 0),(4,.slM d 1 0 n n 4 false),(5,fv),(6,iv i)]->K .normal ⟨t',p.o::aH (L.flatMap kD)::J'⟩) :
  Ex (aL aO S m) d ah m (i70.body.sub [1,1,1,0,1,0,0,1,0,0,1]) K ⟨t,p.o::aH (L.flatMap kD)::J⟩:=by
 simp[za,zb,zf]at af
 have hil:=(ew.1 hg).1
 have F5:∀ aa,cu aa 4 (.slM d 1 0 n n 4 false) (aB ((i:Nat):Int))=some (.p,.ptrM d 1 (i*4),aa):=fun aa=>by have:=zo (aa:=aa) (l:=d) (b:=1) (off:=0) (cap:=n) (z:=4) (z':=4) (tight:=false) (k:=.i64) Z;grind
 have s8:bB (L.flatMap kD) (i*4) 1=some [aB b.tw]:=(zd Zt 0 1 hg Z).trans rfl
 have jE:bB (L.flatMap kD) (i*4+1) 1=some [b.oc.v]:=(G2 hg Z).trans rfl
 have hr2:bB (L.flatMap kD) (i*4+2) 1=some [b.ic.v]:=(G2 hg Z).trans rfl
 have s9:∀(J:aS)(vis:List Nat)(x y:aP)(R:aS),(bI vis (J.length+1+1) (x::y::(J++R)))[1]?=some y:=fun J vis x y R=>Yr (Q:=x::y::J) rfl vis R
 simp[Pn.c]at hs1 hs2
 unfold mS at hR hK
 cases g1:dB p b.oc.l b.tw
 .rw[g1,dZ]at hR
  simp[i70,IC.sub,V0,Xa,Xe,af,F5,s9,s8,jE,hs1,g1]
  exact hR rfl _ _ xap
 rw[g1,rF]at hR hK
 simp[i70,IC.sub,V0,Xa,Xe,af,F5,s9,s8,jE,hs1,g1]
 refine zm b.ic.l.length (fun k st=>∃(J:aS),((b.ic.l.take k).all fun c=>dB p c.l b.tw)=true/\bE aK 1 d 2 J fv fs/\st.aa=p.o::aH (L.flatMap kD)::J/\aN 99 st.t [(1,.ptrM d 0 0),(4,.slM d 1 0 n n 4 false),(5,fv),(6,iv i),(7,iv k)]) Z ⟨_,rfl,hO.more _,rfl,by simp[V0,Xa,Xe,af,cZ]⟩ ?_
 clear af hO
 rintro k ⟨t,aa⟩ KA hk ⟨J,hall,hO,rfl,af⟩ bp bK bQ
 simp[za,zb,zf]at af
 have hlen:∀ d2 ah aJ aa,iY d2 ah aJ aa 1 b.ic.v=some (.p,aB (b.ic.l.length:Nat),aa):=fun d2 ah aJ aa=>yx b.ic
 by_cases h:k<b.ic.l.length
 rotate_left
 .simp[V0,Xa,Xe,af,F5,hr2,hlen,h]
  refine bK _ _ ?_
  rw[fT Z]at hall
  simp[V0]
  exact hK hall _ _ hO xay
 have hx:b.ic.l[k]?=some b.ic.l[k]:=dw h
 have hmem:=gQ h
 generalize b.ic.l[k]=c at hx hmem
 have cs:=hs2 c hmem
 have gE:bB (b.ic.l.flatMap gp) (k*1) 1=some [c.v]:=zd zx 0 1 hx Z
 cases g2:dB p c.l b.tw
 .have Ll:(b.ic.l.all fun c=>dB p c.l b.tw)=false:=by grind
  simp only[V0,Xa,Xe,af,F5,hr2,hlen,h,s9,s8,zc b.ic h,gE,cs,g2]
  refine bQ _ ?_
  simp only[V0]
  exact hR Ll _ _ xap
 .simp only[V0,Xa,Xe,af,F5,hr2,hlen,h,s9,s8,zc b.ic h,gE,cs,g2,(zt k)]
  refine bp Z _ ⟨_,?_,hO.more _,rfl,by simp[V0,Xa,Xe,af]⟩
  rw[zy hx,Vt,hall]
  grind
theorem zbv{p:Pn}{a:Ar}{l:List Ar}{fs:List Int}:dN p i (a::l) fs=if (decide (0<i)&&(j7 p i a==0||fs.contains (j7 p i a)))=true then none else if mS p { a with tw:=j7 p i a }=true then dN p (i+1) l (if 0<i then fs++[j7 p i a]else fs)else none:=by rfl
theorem abb(a:Ar):∀ x∈kD a,Fz 6 x:=fun x hx=>by
 refine Zo (n:=6) ?_;simp[kD,eG,gm,gw]at hx;rcases hx with rfl|rfl|rfl|rfl
 .rfl
 .exact Y9 _ _
 .exact Qu _ _
 .exact Y9 _ _
theorem Rf(hS:bk S)(p:Pn)(gV:bL p)(ha:p.az.l.length<=200)(hn:p.ns.l.length<=200)(hok:∀ n∈p.ns.l,∀ z∈bu p n.id,gz p z)(hE:jq p=0)(hg:∀ c∈bn p,c.length<=512/\c≠[]/\∀ z∈c,GD p z):∃ As:List Ar,A4 p As/\∃ v N,aM S N 70 [.agg p.c] (.tuple [v,.bool (sH p As)]):=by
 let⟨As,hR,hAl,N0,h0⟩:=GX hS p gV ha hn hok hE hg;have acr:∀ i a,As[i]?=some a->(0<i->a.oc.l≠[])/\a.oc.l.length<=512/\(∀ c∈a.ic.l,c.l.length<=512)/\a.ic.l.length<=1000/\(a.tw=0):=fun i a kX=>by
  let⟨e1,e2,e3,e4⟩:=hR.el i a kX;have hil:=(ew.1 kX).1;have qy:∀ c∈a.ic.l,c.l∈bn p:=fun c hc=>by have:c.l∈a.ic.l.map (·.l):=W7 hc;grind
  have jM:(bn p).length<=400:=by
   have h2:=yV (dV (dF p) (dQ p)) id (aZ p) [] [];have hdl:(aZ p).length<=400:=xcv
   unfold bn;grind
  have Pg:a.ic.l.length<=1000:=by have h1:=dL List.length e3;grind
  refine⟨fun h=>?_,?_,fun c hc=>(hg _ (qy c hc)).1,Pg,e1⟩
  .rw[e2];obtain⟨k,rfl⟩:∃ k,i=k+1:=⟨i-1,Z⟩;have hk:k<(b8 p).length:=by rw[hR.len]at hil;omega
   show((b8 p)[k]?).getD []≠[];rw[dw hk];exact(hg _ (EP.1 ((Zw p).mem_iff.1 (gQ hk))).1).2.1
  .rw[e2];rcases i with -|k
   .exact RH _
   .have hk:k<(b8 p).length:=by rw[hR.len]at hil;omega
    show(((b8 p)[k]?).getD []).length<=512;rw[dw hk];exact(hg _ (EP.1 ((Zw p).mem_iff.1 (gQ hk))).1).1
 obtain⟨N1,h1⟩:∃ N,∀ a∈As,aM S N 139 [.agg p.c,aB ((a.oc.l[0]?).getD 0)] (aB (iy p ((a.oc.l[0]?).getD 0))):=Yw (P:=fun(a:Ar) N=>aM S N 139 [.agg p.c,aB ((a.oc.l[0]?).getD 0)] (aB (iy p ((a.oc.l[0]?).getD 0)))) (fun a n m hnm h m' hm'=>h m' Z) fun a _=>JH hS p _ gV;obtain⟨N2,h2⟩:∃ N,∀ a∈As,∀ f:Int,aM S N 140 [.agg p.c,a.oc.v,aB f] (.bool (dB p a.oc.l f)):=Yw (P:=fun(a:Ar) N=>∀ f:Int,aM S N 140 [.agg p.c,a.oc.v,aB f] (.bool (dB p a.oc.l f))) (fun a n m hnm h f m' hm'=>h f m' Z) fun a hma=>by let⟨i,hi⟩:=rj hma;exact D5 hS p gV a.oc (by grind)
 obtain⟨N3,h3⟩:∃ N,∀ c∈As.flatMap (fun a=>a.ic.l),∀ f:Int,aM S N 140 [.agg p.c,c.v,aB f] (.bool (dB p c.l f)):=Yw (P:=fun(c:aR 1 aK) N=>∀ f:Int,aM S N 140 [.agg p.c,c.v,aB f] (.bool (dB p c.l f))) (fun a n m hnm h f m' hm'=>h f m' Z) fun c hmc=>by let⟨a,hma,hca⟩:=oQ.1 hmc;let⟨i,hi⟩:=rj hma;exact D5 hS p gV c (by grind)
 refine⟨As,hR,fcV (kG p As As.length) As.length (dN p 0 As []),N0+N1+N2+N3+400000,zr (i:=i70) (hS _ _ M M M M) rfl rfl (bP rfl) (N0+N1+N2+N3+399999) fun m hm d ah t af=>?_⟩;simp[slotsOf,za,zb,i70,Pn.c]at af;have c0:=fun d ah aJ aa i h=>h0 m Z d ah aJ aa i h;simp[Pn.c]at c0;have hone:=fun K i a kX t J fv fs hfl hO af hR hK=>@aan S hS p m d ah K As i As.length rfl Z a kX Z (.inl (acr i a kX).2.2.2.2) (acr i a kX).1 (fun _ d ah aJ aa id=>h1 a (og kX) m Z d ah aJ aa id) t J fv fs hfl hO af hR hK;have OX:=fun K i a kX b (hbo:b.oc=a.oc) (Lm:b.ic=a.ic) L hL hg t J fv fs hO af hR hK=>@aam S hS p m d ah K L i As.length hL Z b hg (by rw[Lm];exact(acr i a kX).2.2.2.1) Z (fun d ah aJ aa id=>by rw[hbo];exact h2 a (og kX) b.tw m Z d ah aJ aa id) (fun c hc d ah aJ aa id=>h3 c (oQ.2 ⟨a,og kX,by grind⟩) b.tw m Z d ah aJ aa id) t J fv fs hO af hR hK;rw[show i70.body=.seq (i70.body.sub [0]) (.seq (i70.body.sub [1,0]) (.seq (i70.body.sub [1,1,0]) (.seq (.seq (i70.body.sub [1,1,1,0,0]) (.block 0 (.loop (.seq (.seq (i70.body.sub [1,1,1,0,1,0,0,0,0]) (i70.body.sub [1,1,1,0,1,0,0,0,1])) (.seq (.block 1 (.seq (i70.body.sub [1,1,1,0,1,0,0,1,0,0,0]) (i70.body.sub [1,1,1,0,1,0,0,1,0,0,1]))) (i70.body.sub [1,1,1,0,1,0,0,1,1])))))) (.seq (i70.body.sub [1,1,1,1,0]) .ret))))from rfl];generalize i70.body.sub [1,1,1,0,1,0,0,1,0,0,0]=T1 at hone ⊢;generalize i70.body.sub [1,1,1,0,1,0,0,1,0,0,1]=T2 at OX ⊢;simp[i70,IC.sub,V0,Xa,Xb,Xe,af,c0];unfold sH;generalize hG:dN p 0 As []=G;have hd0:As.drop 0=As:=rfl;refine zm As.length (fun i st=>∃(J:aS)(fv:IV)(fs:List Int),dN p i (As.drop i) fs=G/\fs.length<=i/\bE aK 1 d 2 J fv fs/\st.aa=p.o::aH ((kG p As i).flatMap kD)::J/\aN 99 st.t [(1,.ptrM d 0 0),(4,.slM d 1 0 As.length As.length 4 false),(5,fv),(6,iv i)]) Z ⟨[],.nilsl,[],hG,M,.inl ⟨rfl,rfl⟩,by rw[zcy],by simp[V0,Xa,Xe,af,cZ]⟩ ?_;clear af;rintro i ⟨t,aa⟩ KA hi ⟨J,fv,fs,lR,hfl,hO,rfl,af⟩ bp bK bQ;simp[za,zb,zf]at af;by_cases h:i<As.length;rotate_left
 .simp[V0,Xa,Xe,af,h];refine bK _ _ ?_;obtain rfl:i=As.length:=Z;rw[Sj (cI _)]at lR;unfold dN at lR;subst lR;have hbn:∀(x y:aP)(R:aS),RdI (d+1) (fun l=>if l=d then bI [] (J.length+1+1) (x::y::(J++R))else ah l) fv fs:=fun x y R=>by
   rcases hO with⟨rfl,rfl⟩|⟨b,hne,rfl,hb⟩
   .exact xeg
   .refine .inr ⟨d,_,_,_,Z,rfl,?_⟩;show(if d=d then bI [] (J.length+1+1) (x::y::(J++R))else ah d)[2+b]?=_
    rw[bU rfl];have h3:(x::y::J)[2+b]?=some (aH (fs.flatMap aK)):=by grind
    exact Yr h3 [] R
  obtain⟨q,hq,cn⟩:=CC hS fs Z (aa:=p.o::aH ((kG p As As.length).flatMap kD)::(J++[.free,.free])) (id:=J.length+2) (hbn (p.o) (aH ((kG p As As.length).flatMap kD)) [.free,.free]) (m:=m) Z;have pz:q.l.length<=100000:=by rw[hq];have:=Zc fs;omega
  have cs:=fun d ah aJ aa id=>Q8 hS q p.fs Z m Z d ah aJ aa id;rw[hq]at cs;simp only[V0,Xa,Xe,af,cn,cs];obtain⟨m,rfl⟩:=gv m 9;have Wg:((kG p As As.length).flatMap kD).mapM (freeze (m+7) d (p.o::aH ((kG p As As.length).flatMap kD)::(J++[.free,.free])))=some ((kG p As As.length).flatMap kD):=zD fun x hx=>by obtain⟨a,_,hxa⟩:=oQ.1 hx;exact abb a x hxa _ Z _ _
  have f1:=zfj (b:=1) Zt Wg rfl;rw[YW]at f1;refine⟨_,rfl,?_⟩;show([IV.slM d 1 0 As.length As.length 4 false,.bool (decide (gG fs=p.fs.l))].mapM (freeze (m+8) d (p.o::aH ((kG p As As.length).flatMap kD)::(J++[.free,.free])))).map IV.tuple=_;rw[yw f1 (yw rfl zcb)];rfl
 have hx:As[i]?=some As[i]:=dw h;rw[(EU h)]at lR;generalize As[i]=a at hx lR;rw[zbv]at lR;have aei:∀ t' J',G=none->aN 99 t' [(2,.nilsl),(3,.bool false)]->Eo d ah i70.res m (.tuple [fcV (kG p As As.length) As.length G,.bool (fcB p G)]) .ret ⟨t',p.o::J'⟩:=fun t' J' hn ht=>by subst hn;simp[za,zb]at ht;obtain⟨m,rfl⟩:=gv m 5;simp only[i70,V0,ht];exact⟨_,rfl,rfl⟩
 simp[V0,Xa,Xe,af,h];refine hone _ i a hx _ J fv fs hfl hO xay (fun hc t' J' ht'=>?_) (fun hc t' J' fv' uY ht'=>?_)
 .rw[hc,bU rfl]at lR;refine bQ _ ?_;exact aei t' J' lR.symm ht'
 clear af;rw[hc,b9 M]at lR;have hg2:=zbu (p:=p) (i:=i+1) hx;rw[bU (zl5 _)]at hg2;refine OX _ i a hx { a with tw:=j7 p i a } rfl rfl (kG p As (i+1)) YW hg2 t' J' fv' _ uY ht' (fun nM t2 J2 ht2=>?_) (fun nM t2 J2 cL ht2=>?_)
 .rw[nM,b9 M]at lR;refine bQ _ ?_;exact aei t2 J2 lR.symm ht2
 .rw[nM,bU rfl]at lR;simp[za,zb,zf]at ht2;simp only[V0,Xa,ht2,(zt i)];refine bp Z _ ⟨_,_,_,lR,?_,cL,rfl,by simp[V0,Xa,Xe,ht2]⟩;grind
theorem D9(hS:bk S)(p:Pn)(hE:jq p≠0):∃ N,aM S N 29 [.agg p.c] (aB (jq p)):=by let⟨N0,h0⟩:=zaq hS p;refine⟨N0+12,zg (i:=i29) (hS _ _ M M M M) rfl rfl (bP rfl) (N0+11) Z zp fun m hm d ah t af=>?_⟩;simp[slotsOf,za,zb,i29,Pn.c]at af;have c0:=h0 m Z;simp[Pn.c]at c0;simp[i29,V0,Xa,Xb,Xe,af,c0,(bne_iff_ne.2 hE)]
theorem GZ(hS:bk S)(p:Pn)(gV:bL p)(ha:p.az.l.length<=200)(hn:p.ns.l.length<=200)(hok:∀ n∈p.ns.l,∀ z∈bu p n.id,gz p z)(hE:jq p=0)(hg:∀ c∈bn p,c.length<=512/\c≠[]/\∀ z∈c,GD p z):∃ As:List Ar,A4 p As/\∃ N,aM S N 29 [.agg p.c] (aB (bif sH p As then 0 else 12)):=by
 let⟨N0,h0⟩:=zaq hS p;rw[hE]at h0;let⟨As,hR,v,N1,h1⟩:=Rf hS p gV ha hn hok hE hg;refine⟨As,hR,N0+N1+12,zg (i:=i29) (hS _ _ M M M M) rfl rfl (bP rfl) (N0+N1+11) Z zp fun m hm d ah t af=>?_⟩;simp[slotsOf,za,zb,i29,Pn.c]at af;have c0:=h0 m Z;have c1:=h1 m Z;simp[Pn.c]at c0 c1;have z0:((0:Int) != 0)=false:=rfl;cases g:sH p As
 .exact xgh
 .exact xgh
structure ad9(p:Pn)(z:Int):Prop where
 bad:jq p≠0->z=jq p
 good:jq p=0->∃ As:List Ar,A4 p As/\z=bif sH p As then 0 else 12
theorem D8(hS:bk S)(p:Pn)(gV:bL p)(ha:p.az.l.length<=200)(hn:p.ns.l.length<=200):∃ z,ad9 p z/\∃ N,aM S N 29 [.agg p.c] (aB z):=by
 by_cases hE:jq p=0
 .have h:=Wz hE;let⟨As,hR,N,hN⟩:=GZ hS p gV ha hn h.agb hE (h.pF ha);exact⟨_,⟨fun e=>absurd hE e,fun _=>⟨As,hR,rfl⟩⟩,N,hN⟩
 .let⟨N,hN⟩:=D9 hS p hE;exact⟨_,⟨fun _=>rfl,fun e=>absurd e hE⟩,N,hN⟩
theorem Ea(hS:bk S)(xs:List Int)(hxl:xs.length<=1000000000){aa:aS}{id:Nat}(hm:xs.length+5<=m)(h:RdI (d+1) (fun l=>if l=d then aJ else ah l) lv xs):aL aO S m d ah aJ aa id 31 [lv]=some (.r,.bool (dz xs),aa):=by
 obtain⟨m,rfl⟩:=gv m 2;have main:∃ r,aL aO S (m+1+1) d ah aJ aa id 31 [lv]=some r/\r=(.r,.bool (dz xs),aa):=by
  refine zF (i:=i31) (hS _ _ M M M M) rfl Δ (bP rfl) fun t af=>?_;simp[slotsOf,za,zb,i31]at af;generalize(fun l=>if l=d then aJ else ah l:bq)=bH at h ⊢
  have hlen:∀ d aa aJ,iY d bH aJ aa 1 lv=some (.p,aB (xs.length:Nat),aa):=fun d aa aJ=>by
   exact xa5
  simp only[i31,V0,seval];refine zn (fun jj st=>∃(i:Nat),xs.length-i<=jj/\(1<=i/\i<=xs.length+1)/\qc xs i/\st.aa=[]/\aN 20 st.t [(0,lv),(3,iv i)]) xs.length Z ⟨1,Z,Z,fun i x y h _ _=>by omega,rfl,by simp[V0,seval,af,Sh]⟩ ?_;clear af;rintro jj ⟨t,bJ⟩ KA ⟨i,hjj,hi,ha,rfl,af⟩ bp bK bQ;simp[za,zb,zf]at af;by_cases h2:i<xs.length
  .obtain⟨x,hx⟩:=fc (l:=xs) (i:=i) h2;have h0:i-1<xs.length:=Z;obtain⟨y,hy⟩:=fc (l:=xs) (i:=i-1) h0;have gE:bB (xs.flatMap aK) (i*1) 1=some [aB x]:=zd ze 0 1 hx Z;have r7:bB (xs.flatMap aK) ((i-1)*1) 1=some [aB y]:=zd ze 0 1 hy Z;have hw:=zt i;have hv:aT .i64 ((i:Int)-1)=((i-1:Nat):Int):=oS;by_cases hb:x<=y
   .have hf:dz xs=false:=by rw[←tZ];intro hc;have:=yC.1 hc (i-1) y x Z hy (by grind);omega
    rcases h with⟨q0,rfl,rfl⟩|⟨l,b,cap,tg,hl,rfl,qT⟩
    .simp only[V0,seval,zc q0 h2,zc q0 h0,l7,hb, *];refine bQ _ ?_;exact xcf
    .have mB:¬ l=d+1:=Z;simp only[V0,seval,zo,l7,hb, *];refine bQ _ ?_;exact xcf
   .have hst:qc xs (i+1):=fun j u v hj hu hv=>by
     by_cases hj2:j+1<i
     .exact ha j u v hj2 hu hv
     grind
    rcases h with⟨q0,rfl,rfl⟩|⟨l,b,cap,tg,hl,rfl,qT⟩
    .simp only[V0,seval,zc q0 h2,zc q0 h0,l7,hb, *];exact bp _ (q0.l.length-(i+1)) Z ⟨i+1,Z,Z,hst,rfl,bS⟩
    .have mB:¬ l=d+1:=Z;simp only[V0,seval,zo,l7,hb, *];exact bp _ (xs.length-(i+1)) Z ⟨i+1,Z,Z,hst,rfl,bS⟩
  .simp[V0,seval,af,hlen,h2];refine bK _ _ ?_;have hf:dz xs=true:=yC.2 fun j u v hj hu hv=>ha j u v Z hu hv;exact xcf
 grind
def Uu(p:Pn)(sh x:Int):Bool:=bif sh==1 then(cT p x).isSome else bif sh==2 then(mX p x).isSome else p.fs.l.contains x
theorem GW(hS:bk S)(p:Pn)(hv:bL p)(sh x:Int):∃ N,aM S N 180 [.agg p.c,aB sh,aB x] (.bool (Uu p sh x)):=by
 let⟨N1,h1⟩:=wR hS p x;obtain⟨q,hq,N2,h2⟩:=H6 hS p x (fun f hf=>by have:=hv f hf;omega);let⟨N3,h3⟩:=u6 hS p.fs x;refine⟨N1+N2+N3+12,zg (i:=i180) (hS _ _ M M M M) rfl rfl (bP rfl) (N1+N2+N3+11) Z zk fun m hm d ah t af=>?_⟩;simp[V2,Xb,i180,Pn.c]at af;have c1:=h1 m Z;have c2:=h2 m Z;have c3:=h3 m Z;simp only[Pn.c,zf,Nd.c,Ac.c]at c1 c2 c3;unfold Uu;cases g1:sh==1
 .cases g2:sh==2
  .simp only[i180,V0,Xa,Xe,af,c3,g1,g2];rfl
  .simp only[i180,V0,Xa,Xb,Xe,af,c2,bF,g1,g2];rfl
 .simp only[i180,V0,Xa,Xb,Xe,af,c1,bF,g1];rfl
theorem D7(hS:bk S)(p:Pn)(hv:bL p)(f:Ft)(hfl:f.parts.l.length<=1000000):∃ N,aM S N 145 [.agg p.c,.agg f.c] (.bool (f.parts.l.all fun x=>Uu p (bN f.kind) x)):=by
 let⟨N1,h1⟩:=Zr hS f.kind;obtain⟨N2,h2⟩:∃ N,∀ x∈f.parts.l,aM S N 180 [.agg p.c,aB (bN f.kind),aB x] (.bool (Uu p (bN f.kind) x)):=Yw (P:=fun(x:Int) N=>aM S N 180 [.agg p.c,aB (bN f.kind),aB x] (.bool (Uu p (bN f.kind) x))) (fun a n m hnm h m' hm'=>h m' Z) fun x _=>GW hS p hv _ x;refine⟨N1+N2+f.parts.l.length+31,zg (i:=i145) (hS _ _ M M M M) rfl rfl (bP rfl) (N1+N2+f.parts.l.length+30) Z zk fun m hm d ah t af=>?_⟩;simp[V2,i145,Pn.c,Ft.c,zf]at af;have c1:=h1 m Z;simp[zf]at c1;simp[i145,V0,Xb,Xe,af];refine zm f.parts.l.length (fun i st=>∃(J:aS),((f.parts.l.take i).all fun x=>Uu p (bN f.kind) x)=true/\st.aa=p.o::aH [aB f.id,aB f.kind,aB f.cls,.str f.name.1,f.parts.v]::J/\aN 24 st.t [(2,.ptrM d 0 0),(3,.ptrM d 1 0),(5,iv i)]) Z ⟨[],rfl,rfl,by simp[V0,Xa,Xe,af,cZ]⟩ ?_;clear af;rintro i ⟨t,aa⟩ KA hi ⟨J,hall,rfl,af⟩ bp bK bQ;simp[za,zb,zf]at af;have hlen:∀ d2 ah aJ aa,iY d2 ah aJ aa 1 f.parts.v=some (.p,aB (f.parts.l.length:Nat),aa):=fun d2 ah aJ aa=>yx f.parts;by_cases h:i<f.parts.l.length;rotate_left
 .simp[V0,Xa,Xe,af,hlen,h];refine bK _ _ ?_;rw[fT Z]at hall;simp[V0,Xa,af,hall]
 have hx:f.parts.l[i]?=some f.parts.l[i]:=dw h;have hmem:=gQ h;generalize f.parts.l[i]=x at hx hmem;have c2:=h2 x hmem m Z;simp[Pn.c]at c2;have gE:bB (f.parts.l.flatMap aK) (i*1) 1=some [aB x]:=xbu;cases g:Uu p (bN f.kind) x
 .have Ll:(f.parts.l.all fun x=>Uu p (bN f.kind) x)=false:=by grind
  simp only[V0,Xa,Xe,af,hlen,h,c1,zc f.parts h,gE,c2,g,Xb];refine bQ _ ?_;simp[V0,Xa,af,Ll]
 .simp only[V0,Xa,Xe,af,hlen,h,c1,zc f.parts h,gE,c2,g,Xb,(zt i)];refine bp Z _ ⟨_,?_,rfl,by simp[V0,Xa,Xe,af]⟩;rw[zy hx,Vt,hall];grind
def lU(f g:Ft):Bool:=bif (bN f.kind==2||bN f.kind != bN g.kind)||(bN f.kind==3&&f.kind != g.kind)then false else f.parts.l.any fun x=>g.parts.l.contains x
theorem Rj(hS:bk S)(f g:Ft)(hfl:f.parts.l.length<=1000000):∃ N,aM S N 72 [.agg f.c,.agg g.c] (.bool (lU f g)):=by
 let⟨N1,h1⟩:=Zr hS f.kind;let⟨N2,h2⟩:=Zr hS g.kind;obtain⟨N3,h3⟩:∃ N,∀ x∈f.parts.l,aM S N 146 [g.parts.v,aB x] (.bool (g.parts.l.contains x)):=Yw (P:=fun(x:Int) N=>aM S N 146 [g.parts.v,aB x] (.bool (g.parts.l.contains x))) (fun a n m hnm h m' hm'=>h m' Z) fun x _=>u6 hS g.parts x;refine⟨N1+N2+N3+f.parts.l.length+31,zg (i:=i72) (hS _ _ M M M M) rfl rfl (bP rfl) (N1+N2+N3+f.parts.l.length+30) Z zk fun m hm d ah t af=>?_⟩;simp[V2,i72,Ft.c,zf]at af;have c1:=h1 m Z;have c2:=h2 m Z;simp[zf]at c1 c2;have main:∀(t:List IV)(J:aS)(K:eU),aN 47 t [(2,.ptrM d 0 0),(3,.ptrM d 1 0)]->(∀ t' J',aN 47 t' [(4,.bool (f.parts.l.any fun x=>g.parts.l.contains x))]->K .ret ⟨t',J'⟩)->Ex (aL aO S m) d ah m (i72.body.sub [1,1]) K ⟨t,aH [aB f.id,aB f.kind,aB f.cls,.str f.name.1,f.parts.v]::aH [aB g.id,aB g.kind,aB g.cls,.str g.name.1,g.parts.v]::J⟩:=fun t J K af hK=>by
  simp[za,zb]at af;simp[i72,IC.sub,V0];refine zm f.parts.l.length (fun i st=>∃(J:aS),((f.parts.l.take i).any fun x=>g.parts.l.contains x)=false/\st.aa=aH [aB f.id,aB f.kind,aB f.cls,.str f.name.1,f.parts.v]::aH [aB g.id,aB g.kind,aB g.cls,.str g.name.1,g.parts.v]::J/\aN 47 st.t [(2,.ptrM d 0 0),(3,.ptrM d 1 0),(5,iv i)]) Z ⟨J,rfl,rfl,by simp[V0,Xa,Xe,af,cZ]⟩ ?_;clear af;rintro i ⟨t,aa⟩ KA hi ⟨J,hall,rfl,af⟩ bp bK bQ;simp[za,zb,zf]at af;by_cases h:i<f.parts.l.length;rotate_left
  .simp[V0,Xa,Xe,af,(fun d2 ah aJ aa=>yx f.parts),h];refine bK _ _ ?_;rw[fT Z]at hall;simp[V0];exact hK _ _ (by simp only[V0,Xa,af,hall])
  have hx:f.parts.l[i]?=some f.parts.l[i]:=dw h;have hmem:=gQ h;generalize f.parts.l[i]=x at hx hmem;have c3:=h3 x hmem m Z;have gE:bB (f.parts.l.flatMap aK) (i*1) 1=some [aB x]:=xbu;have hw:=zt i;cases q:g.parts.l.contains x
  .simp only[V0,Xa,Xe,zc f.parts h, *];refine bp Z _ ⟨_,?_,rfl,by simp[V0,Xa,Xe,af]⟩;rw[zy hx,Vs,hall,znq,q];rfl
  .simp only[V0,Xa,Xe,zc f.parts h, *];refine bQ _ ?_;simp only[V0];exact hK _ _ (by simp only[V0,Xa,af,(Bj.2 ⟨x,hmem,q⟩)])
 rw[show i72.body=.seq (i72.body.sub [0]) (.seq (.seq (i72.body.sub [1,0,0]) (i72.body.sub [1,0,1])) (i72.body.sub [1,1]))from rfl];generalize i72.body.sub [1,1]=T at main ⊢;unfold lU;cases g1:bN f.kind==2;rotate_left
 .simp only[i72,IC.sub,V0,Xa,Xb,Xe,af,c1,g1,k9,bV]
 cases g2:bN f.kind != bN g.kind;rotate_left
 .simp only[i72,IC.sub,V0,Xa,Xb,Xe,k9,RM,bV, *]
 cases g3:bN f.kind==3
 .simp only[i72,IC.sub,V0,Xa,Xb,Xe, *];refine main _ _ _ xap fun t' J' ht'=>?_;simp only[za,zb]at ht';simp[V0,ht',dZ,Vq,bT]
 cases g4:f.kind != g.kind;rotate_left
 .simp only[i72,IC.sub,V0,Xa,Xb,Xe,RM,bV, *]
 .simp only[i72,IC.sub,V0,Xa,Xb,Xe, *];refine main _ _ _ xap fun t' J' ht'=>?_;simp only[za,zb]at ht';simp[V0,ht',Vq,bT]
def mC(fs:List Ft):Nat->Bool
 |0=>false
 | i+1=>mC fs i||(match fs[i]? with
  |some x=>(fs.take i).any fun y=>lU x y
  | none=>false)
def qF(fs:List Ft):Bool:=mC fs fs.length
theorem zdi{fs:List Ft}{i:Nat}(h:mC fs i=true):∀ k,mC fs (i+k)=true
 |0=>h
 |k+1=>by show(mC fs (i+k)||_)=true;rw[zdi h k,k9]
theorem U4(hS:bk S)(s:Sv)(hl:s.ft.l.length<=100000)(hfl:∀ f∈s.ft.l,f.parts.l.length<=1000000):∃ N,aM S N 32 [.agg s.c] (.bool (qF s.ft.l)):=by
 obtain⟨N1,h1⟩:∃ N,∀ f∈s.ft.l,∀ g∈s.ft.l,aM S N 72 [.agg f.c,.agg g.c] (.bool (lU f g)):=Yw (P:=fun(f:Ft) N=>∀ g∈s.ft.l,aM S N 72 [.agg f.c,.agg g.c] (.bool (lU f g))) (fun a n m hnm h g hg m' hm'=>h g hg m' Z) fun f hf=>Yw (P:=fun(g:Ft) N=>aM S N 72 [.agg f.c,.agg g.c] (.bool (lU f g))) (fun a n m hnm h m' hm'=>h m' Z) fun g _=>Rj hS f g (hfl f hf);refine⟨N1+s.ft.l.length+31,zg (i:=i32) (hS _ _ M M M M) rfl rfl (bP rfl) (N1+s.ft.l.length+30) Z zk fun m hm d ah t af=>?_⟩;simp[slotsOf,za,zb,i32,Sv.c]at af;simp[i32,V0,af];have hlen:∀ d2 ah aJ aa,iY d2 ah aJ aa 1 s.ft.v=some (.p,aB (s.ft.l.length:Nat),aa):=fun d2 ah aJ aa=>yx s.ft;refine zn (fun jj st=>∃(i:Nat)(J:aS),s.ft.l.length-i<=jj/\i<=s.ft.l.length/\mC s.ft.l i=false/\st.aa=s.o::J/\aN 28 st.t [(1,.ptrM d 0 0),(3,iv i)]) s.ft.l.length Z ⟨0,[],Z,Z,rfl,rfl,by simp[V0,Xa,Xe,af,cZ]⟩ ?_;clear af;rintro jj ⟨t,aa⟩ KA ⟨i,J,hjj,hi,hno,rfl,af⟩ bp bK bQ;simp[za,zb,zf]at af;by_cases h:i<s.ft.l.length;rotate_left
 ·simp[V0,Xa,Xe,af,hlen,h];refine bK _ _ ?_;obtain rfl:i=s.ft.l.length:=Z;have:qF s.ft.l=false:=hno;simp[V0,Xa,af,this]
 have hx:s.ft.l[i]?=some s.ft.l[i]:=dw h;have hmem:=gQ h;generalize s.ft.l[i]=x at hx hmem;have gE:bB (s.ft.l.flatMap Ft.c) (i*5) 5=some [aB x.id,aB x.kind,aB x.cls,.str x.name.1,x.parts.v]:=(zd Ft.aV 0 5 hx Z).trans rfl;have hw:=zt i;have hst:mC s.ft.l (i+1)=(mC s.ft.l i||(s.ft.l.take i).any fun y=>lU x y):=by
  conv=>lhs;unfold mC
  grind
 rw[hno,jg]at hst;simp[V0,Xa,Xe,af,hlen,h];refine zm i (fun j st=>∃(J:aS),((s.ft.l.take j).any fun y=>lU x y)=false/\st.aa=s.o::J/\aN 28 st.t [(1,.ptrM d 0 0),(3,iv i),(4,iv j)]) Z ⟨J,rfl,rfl,by simp[V0,Xa,Xe,af,cZ]⟩ ?_;clear af;rintro j ⟨t,aa⟩ KB hj ⟨J,hall,rfl,af⟩ gJ jL kP;simp[za,zb,zf]at af;by_cases hji:j<i;rotate_left
 ·simp[V0,Xa,Xe,af,(by omega)];refine jL _ _ ?_;obtain rfl:j=i:=Z;simp only[V0,Xa,Xe,af,hw];exact bp _ (s.ft.l.length-(j+1)) Z ⟨j+1,_,Z,Z,by grind,rfl,by simp[V0,Xa,Xe,af]⟩
 have aho:((j:Int)<(i:Int)):=Z;have hjl:j<s.ft.l.length:=Z;have hy:s.ft.l[j]?=some s.ft.l[j]:=dw hjl;have hmy:=gQ hjl;generalize s.ft.l[j]=y at hy hmy;have cc:=h1 x hmem y hmy m Z;simp[Ft.c,zf]at cc;have r7:bB (s.ft.l.flatMap Ft.c) (j*5) 5=some [aB y.id,aB y.kind,aB y.cls,.str y.name.1,y.parts.v]:=(zd Ft.aV 0 5 hy Z).trans rfl;have hwj:=zt j;cases q:lU x y
 ·simp only[V0,Xa,Xe,zc s.ft h,zc s.ft hjl, *];refine gJ Z _ ⟨_,?_,rfl,by simp[V0,Xa,Xe,af]⟩;rw[zy hy,Vs,hall,znq,q];rfl
 ·have hty:(s.ft.l.take i).any (fun y=>lU x y)=true:=Bj.2 ⟨y,og (i:=j) (by grind),q⟩;have hu:qF s.ft.l=true:=by unfold qF;have:=zdi (hst.trans hty) (s.ft.l.length-(i+1));grind
  simp[V0,Xa,Xe,zc s.ft h,zc s.ft hjl, *];refine kP _ ?_;refine bQ _ ?_;simp[V0,Xa,af,hu]
def lJ(nm:ByteArray->Int)(p:Pn)(f:Ft)(e:Int):Bool:=bif e==3 then GL f else bif e==10 then !dz f.parts.l else bif e==2 then GK f else bif e==9 then GJ f else bif e==14 then GI nm f else bif e==1 then GH f else !(f.parts.l.all fun x=>Uu p (bN f.kind) x)
theorem Q5(hS:bk S)(nm:ByteArray->Int)(s:Sv)(hv:bL s.pl)(f:Ft)(hfl:f.parts.l.length<=1000000)(h7:∃ N,aM S N 144 [.str f.name.1] (aB (nm f.name.1))):∃ N,∀ e:Int,aM S N 71 [.agg s.c,.agg f.c,aB e] (.bool (lJ nm s.pl f e)):=by
 let⟨N7,h7⟩:=h7;let⟨N1,h1⟩:=Zr hS f.kind;let⟨N2,h2⟩:=D7 hS s.pl hv f hfl;refine⟨N7+N1+N2+f.parts.l.length+31,fun e=>zg (i:=i71) (hS _ _ M M M M) rfl rfl (bP rfl) (N7+N1+N2+f.parts.l.length+30) Z zk fun m hm d ah t af=>?_⟩;simp[V2,Xb,i71,Sv.c,Ft.c,zf]at af;have c7:=h7 m Z;have c1:=h1 m Z;have c2:=h2 m Z;simp[zf,Pn.c,Ft.c]at c1 c2;have hpl:=f.parts.eZ;unfold lJ;cases e1:e==3;rotate_left
 .simp[i71,V0,Xa,Xb,Xe,af,(fun d2 ah aJ aa=>yx f.parts),e1,ez,bV,GL]
 cases e2:e==10;rotate_left
 .simp[i71,V0,Xa,Xb,Xe,af,e1,e2,(fun d ah aJ aa id=>Ea hS f.parts.l Z (m:=m) (d:=d) (ah:=ah) (aJ:=aJ) (aa:=aa) (id:=id) (lv:=f.parts.v) Z (.inl ⟨f.parts,rfl,rfl⟩)),bV,bT]
 cases e3:e==2;rotate_left
 .unfold GK;cases g1:decide (f.id<1)
  .cases g2:decide (1073741824<f.id)
   .cases g3:decide (f.cls<1)
    .simp only[i71,V0,Xa,Xb,Xe,ez,bV,bT,jg, *]
    .simp only[i71,V0,Xa,Xb,Xe,ez,bV,bT,jg,k9, *]
   .simp only[i71,V0,Xa,Xb,Xe,ez,bV,bT,jg,k9, *]
  .simp only[i71,V0,Xa,Xb,Xe,bV,bT,k9, *]
 cases e4:e==9;rotate_left
 .simp[i71,V0,Xa,Xb,Xe,bV,bT,GJ, *]
 cases e5:e==14;rotate_left
 .unfold GI;cases g1:(f.name.1.toList==(bs []).toList)
  .simp only[i71,V0,Xa,Xb,Xe,mE,bV,bT, *]
  .simp only[i71,V0,Xa,Xb,Xe,mE,bV,bT,dZ, *]
 cases e6:e==1;rotate_left
 .unfold GH;cases g1:((f.parts.l.length:Nat):Int)==0
  .cases g2:bN f.kind==1
   .simp only[i71,V0,Xa,Xb,Xe,bV,bT,jg,dZ, *]
   .simp only[i71,V0,Xa,Xb,Xe,ez,bV,bT,jg, *]
  .simp only[i71,V0,Xa,Xb,Xe,bV,bT,k9, *]
 .simp[i71,V0,Xa,Xb,Xe,bT, *]
theorem U5(hS:bk S)(nm:ByteArray->Int)(s:Sv)(hv:bL s.pl)(hl:s.ft.l.length<=1000000)(hfl:∀ f∈s.ft.l,f.parts.l.length<=1000000)(h7:∀ f∈s.ft.l,∃ N,aM S N 144 [.str f.name.1] (aB (nm f.name.1))):∃ N,∀ e:Int,aM S N 30 [.agg s.c,aB e] (.bool (s.ft.l.any fun f=>lJ nm s.pl f e)):=by
 obtain⟨N1,h1⟩:∃ N,∀ f∈s.ft.l,∀ e:Int,aM S N 71 [.agg s.c,.agg f.c,aB e] (.bool (lJ nm s.pl f e)):=Yw (P:=fun(f:Ft) N=>∀ e:Int,aM S N 71 [.agg s.c,.agg f.c,aB e] (.bool (lJ nm s.pl f e))) (fun a n m hnm h e m' hm'=>h e m' Z) fun f hf=>Q5 hS nm s hv f (hfl f hf) (h7 f hf);refine⟨N1+s.ft.l.length+31,fun e=>zg (i:=i30) (hS _ _ M M M M) rfl rfl (bP rfl) (N1+s.ft.l.length+30) Z zk fun m hm d ah t af=>?_⟩;simp[V2,i30,Sv.c]at af;simp[i30,V0,af];have hlen:∀ d2 ah aJ aa,iY d2 ah aJ aa 1 s.ft.v=some (.p,aB (s.ft.l.length:Nat),aa):=fun d2 ah aJ aa=>yx s.ft;refine zm s.ft.l.length (fun i st=>∃(J:aS),((s.ft.l.take i).any fun f=>lJ nm s.pl f e)=false/\st.aa=s.o::J/\aN 21 st.t [(1,aB e),(2,.ptrM d 0 0),(5,iv i)]) Z ⟨[],rfl,rfl,by simp[V0,Xa,Xe,af,cZ]⟩ ?_;clear af;rintro i ⟨t,aa⟩ KA hi ⟨J,hno,rfl,af⟩ bp bK bQ;simp[za,zb,zf]at af;by_cases h:i<s.ft.l.length;rotate_left
 .simp[V0,Xa,Xe,af,hlen,h];refine bK _ _ ?_;rw[fT Z]at hno;simp[V0,Xa,af,hno]
 have hx:s.ft.l[i]?=some s.ft.l[i]:=dw h;have hmem:=gQ h;generalize s.ft.l[i]=x at hx hmem;have cc:=h1 x hmem e m Z;simp[Sv.c,Ft.c,zf]at cc;have gE:bB (s.ft.l.flatMap Ft.c) (i*5) 5=some [aB x.id,aB x.kind,aB x.cls,.str x.name.1,x.parts.v]:=(zd Ft.aV 0 5 hx Z).trans rfl;cases q:lJ nm s.pl x e
 .simp only[V0,Xa,Xe,af,hlen,h,zc s.ft h,gE,cc,q,(zt i)];refine bp Z _ ⟨_,?_,rfl,by simp[V0,Xa,Xe,af]⟩;rw[zy hx,Vs,hno,znq,q];rfl
 .simp[V0,Xa,Xe,af,hlen,h,zc s.ft h,gE,cc,q];refine bQ _ ?_;simp[V0,Xa,af,(Bj.2 ⟨x,hmem,q⟩:(s.ft.l.any fun f=>lJ nm s.pl f e)=true)]
def jF:List Int:=[3,10,2,9,14,1,7]
def F4(nm:ByteArray->Int)(p:Pn)(fs:List Ft)(e:Int):Bool:=(fs.any fun f=>lJ nm p f e)||(e==10&&!dz (fs.map Ft.id))
def rP(nm:ByteArray->Int)(p:Pn)(fs:List Ft):Int:=match jF.find? (F4 nm p fs)with
 |some e=>e
 |none=>bif qF fs then 13 else 0
def VK(nm:ByteArray->Int)(z:Int)(s:Sv):Int:=bif z != 0 then z else bif decide ((128:Int)<(s.ft.l.length:Int))then 3 else rP nm s.pl s.ft.l
theorem Lu{q:H->Bool}{l:List H}{x:H}(hx:l[i]?=some x)(hq:q x=true)(hno:(l.take i).any q=false):l.find? q=some x:=by
 have hs:l=l.take i++x::l.drop (i+1):=by
  conv=>lhs;rw[←MJ i l]
  rw[EU (ew.1 hx).1,(ew.1 hx).2]
 grind
theorem GY(hS:bk S)(nm:ByteArray->Int)(s:Sv)(hv:bL s.pl)(hl:s.ft.l.length<=1000000)(hfl:∀ f∈s.ft.l,f.parts.l.length<=1000000)(h7:∀ f∈s.ft.l,∃ N,aM S N 144 [.str f.name.1] (aB (nm f.name.1)))(z:Int)(h16:∃ N,aM S N 29 [.agg s.pl.c] (aB z)):∃ N,aM S N 15 [.agg s.c] (aB (VK nm z s)):=by
 let⟨N0,h0⟩:=h16;let⟨N1,h1⟩:=U5 hS nm s hv hl hfl h7;obtain⟨N2,h2⟩:∃ N,s.ft.l.length<=128->aM S N 32 [.agg s.c] (.bool (qF s.ft.l)):=by
  by_cases h:s.ft.l.length<=128
  ·let⟨N,hN⟩:=U4 hS s Z hfl;grind
  simp[*]
 refine⟨N0+N1+N2+s.ft.l.length+61,zg (i:=i15) (hS _ _ M M M M) rfl rfl (bP rfl) (N0+N1+N2+s.ft.l.length+60) Z zp fun m hm d ah t af=>?_⟩;simp[slotsOf,za,zb,i15,Sv.c]at af;have c0:=h0 m Z;have c1:=fun e d ah aJ aa i=>h1 e m Z d ah aJ aa i;simp[Pn.c,Sv.c]at c0 c1;have hlen:∀ d2 ah aJ aa,iY d2 ah aJ aa 1 s.ft.v=some (.p,aB (s.ft.l.length:Nat),aa):=fun d2 ah aJ aa=>yx s.ft;unfold VK;cases g0:z != 0;rotate_left
 ·simp[i15,V0,Xa,Xb,Xe,af,c0,g0,bV]
 cases g1:decide ((128:Int)<(s.ft.l.length:Int));rotate_left
 ·simp[i15,V0,Xa,Xb,Xe,af,c0,g0,hlen,ez,g1,bV,bT]
 have ou:s.ft.l.length<=128:=by grind
 have c2:=h2 ou m Z;simp[Sv.c]at c2;rw[bT,bT];simp[i15,V0,Xa,Xb,Xe,af,c0,g0,hlen,ez,g1];refine zm s.ft.l.length (fun i st=>∃(J:aS)(lv:IV),bE aK 1 d 1 J lv ((s.ft.l.take i).map Ft.id)/\st.aa=s.o::J/\aN 65 st.t [(1,.ptrM d 0 0),(4,lv),(5,iv i)]) Z ⟨_,.nilsl,.inl ⟨rfl,rfl⟩,rfl,by simp[V0,Xa,Xe,af,cZ]⟩ ?_;clear af;rintro i ⟨t,aa⟩ KA hi ⟨J,lv,hO,rfl,af⟩ bp bK bQ;simp[za,zb,zf]at af;by_cases h:i<s.ft.l.length
 ·obtain⟨x,hx⟩:=fc (l:=s.ft.l) (i:=i) h;have gE:bB (s.ft.l.flatMap Ft.c) (i*5) 1=some [aB x.id]:=(zd Ft.aV 0 1 hx Z).trans rfl;obtain⟨e,cH,J2,bz,cL⟩:=zI (Pre:=[s.o]) (n0:=J.length+1) (slot:=0) (k:=0) (ah:=ah) (R:=[.free]) ze hO (ys:=[x.id]) M (by grind) (by grind) rfl rfl;simp[fP,gu,eT,jm,aK,zf,fB,gq,gF,eB]at bz;simp only[V0,Xa,Xe,af,hlen,h,zc s.ft h,gE,rep,zh,zl,zq,zw,bz,(zt i)];exact bp Z _ ⟨J2,cH,by rw[zy hx,Hi];exact cL,rfl,by simp[V0,Xa,Xe,af]⟩
 simp[V0,Xa,Xe,af,hlen,h];refine bK _ _ ?_;obtain rfl:i=s.ft.l.length:=Z;rw[rD]at hO;have ecs:([aB 3,aB 10,aB 2,aB 9,aB 14,aB 1,aB 7]:List IV)=jF.flatMap aK:=rfl;simp[V0,Xa,Xb,Xd,af,rep];rw[ecs];refine zm 7 (fun i st=>∃(J:aS),((jF.take i).any (F4 nm s.pl s.ft.l))=false/\bE aK 1 d 1 J lv (s.ft.l.map Ft.id)/\st.aa=s.o::J/\aN 65 st.t [(1,.ptrM d 0 0),(4,lv),(6,.slC (jF.flatMap aK) 7 1 true),(7,iv i)]) Z ⟨J,rfl,hO,rfl,by simp[V0,Xa,Xe,af,cZ]⟩ ?_;clear af hO;rintro i ⟨t,aa⟩ KB hi ⟨J,hno,hO,rfl,af⟩ gJ jL kP;simp[za,zb,zf]at af;have C6:∀ d2 ah aJ aa,iY d2 ah aJ aa 1 (.slC (jF.flatMap aK) 7 1 true)=some (.p,aB ((7:Nat):Int),aa):=fun d2 ah aJ aa=>rfl;by_cases h7':i<7;rotate_left
 ·simp only[V0,Xa,Xe,af,C6,(by omega)];refine jL _ _ ?_;obtain rfl:i=7:=Z;have hf:jF.find? (F4 nm s.pl s.ft.l)=none:=List.find?_eq_none.2 fun y hy=>by have:=ES.1 hno y hy;omega
  have hr:rP nm s.pl s.ft.l=bif qF s.ft.l then 13 else 0:=by unfold rP;grind
  cases q:qF s.ft.l
  ·rw[q]at hr;simp[V0,Xa,Xe,af,c2,q,hr,bT]
  ·rw[q]at hr;simp[V0,Xa,Xe,af,c2,q,hr,bV]
 have h7i:((i:Int)<((7:Nat):Int)):=Z;have hx:jF[i]?=some jF[i]:=dw h7';generalize jF[i]=e at hx;have hre:bB (jF.flatMap aK) (i*1) 1=some [aB e]:=zd ze 0 1 hx Z;have hie:∀ aa,cu aa 1 (.slC (jF.flatMap aK) 7 1 true) (aB (i:Int))=some (.p,.ptrC (jF.flatMap aK) (i*1),aa):=fun aa=>zC h7';have hw:=zt i;have afl:∀ (vis:List Nat) (x:aP) (R aa:aS) (id:Nat),aL aO S m d ah (bI vis (J.length+1) (x::(J++R))) aa id 31 [lv]=some (.r,.bool (dz (s.ft.l.map Ft.id)),aa):=fun vis x R aa id=>Ea hS _ (by grind) (by grind) (by
  rcases hO with⟨h1,rfl⟩|⟨b,hne,rfl,hb⟩
  ·rw[h1];exact .inl ⟨kU 1 aK,rfl,rfl⟩
  ·refine .inr ⟨d,_,_,_,Z,rfl,?_⟩;show(if d=d then bI vis (J.length+1) (x::(J++R))else ah d)[1+b]?=_
   rw[bU rfl];have h3:(x::J)[1+b]?=some (aH ((s.ft.l.map Ft.id).flatMap aK)):=by grind
   exact Yr h3 vis R)
 have next:F4 nm s.pl s.ft.l e=false->((jF.take (i+1)).any (F4 nm s.pl s.ft.l))=false:=fun hh=>by rw[zy hx,Vs,hno,znq,hh];rfl
 have hit:F4 nm s.pl s.ft.l e=true->rP nm s.pl s.ft.l=e:=fun hh=>by unfold rP;rw[Lu hx hh hno]
 unfold F4 at next hit
 cases q1:s.ft.l.any fun f=>lJ nm s.pl f e;rotate_left
 ·rw[q1,k9]at hit;simp only[V0,Xa,Xe,af,C6,h7i,hie,hre,c1,q1,Xb];refine kP _ ?_;simp[V0,Xa,af,(hit rfl)]
 cases q2:e==10
 ·rw[q1,q2,jg,dZ]at next
  simp only[V0,Xa,Xe,af,C6,h7i,hie,hre,c1,q1,q2,Xb,hw];exact gJ Z _ ⟨_,(next rfl),hO.more _,rfl,by simp[V0,Xa,Xe,af]⟩
 cases q3:dz (s.ft.l.map Ft.id)
 ·rw[q1,q2,q3,jg,rF,Hg]at hit;simp only[V0,Xa,Xe,af,C6,h7i,hie,hre,c1,q1,q2,afl,q3,Xb];refine kP _ ?_;simp[V0,Xa,af,(hit rfl)]
 ·simp only[V0,Xa,Xe,af,C6,h7i,hie,hre,c1,q1,q2,afl,q3,Xb,hw];exact gJ Z _ ⟨_,(next (by grind)),hO.more _,rfl,by simp[V0,Xa,Xe,af]⟩
def nO(p:Pn)(a:Ar):Int:=iy p ((a.oc.l[0]?).getD 0)
def okO(p:Pn)(a:Ar):Bool:=mS p { a with tw:=nO p a }
theorem YX{p:Pn}:∀{l:List Ar}{i:Nat}{fs r:List Int},0<i->(dN p i l fs=some r↔r=fs++l.map (nO p)/\(∀ a∈l,nO p a≠0/\okO p a=true/\nO p a ∉ fs)/\(l.map (nO p)).Nodup)
 |[],i,fs,r,h=>by unfold dN;grind
 |a::l,i,fs,r,h=>by
  obtain⟨j,rfl⟩:∃ j,i=j+1:=⟨i-1,Z⟩;have ih:=@YX p l (j+1+1) (fs++[nO p a]) r Z;show(if (nO p a==0||fs.contains (nO p a))=true then none else if okO p a=true then dN p (j+1+1) l (fs++[nO p a])else none)=some r↔_
  grind
def WB(p:Pn)(c:List Int):Int:=iy p ((c[0]?).getD 0)
theorem Tc(p:Pn)(os:List (List Int))(q:Pt):jo p os q<=os.length:=by have:=Rm p os q;unfold jo;omega
structure Sd(f:Int->Int)(D:List Int)(z:Int)(l:List Int):Prop where
 nodup:l.Nodup
 sub:∀ x∈l,x∈D
 head:l[0]?=some z
 step:∀ i x,l[i]?=some x->i+1<l.length->l[i+1]?=some (f x)
variable {D:List Int}{f:Int->Int}
def Sd.pos(h:Sd f D z l):0<l.length:=(ew.1 h.head).1
theorem Sd.last(h:Sd f D z l):l[l.length-1]?=some (eV l):=by have:=h.pos;unfold eV;grind
theorem VQ{f:Int->Int}{D:List Int}(hD:∀ x∈D,f x∈D)(inj:∀ x∈D,∀ y∈D,f x=f y->x=y){z:Int}:∀(k:Nat)(l:List Int),Sd f D z l->D.length<k+l.length->Sd f D z (ku f z k l)/\f (eV (ku f z k l))=z
 |0,l,h,hk=>by have:=h.nodup.length_le_of_subset fun x hx=>h.sub x hx;omega
 |k+1,l,h,hk=>by
  unfold ku;have r9:=h.last;by_cases hz:(f (eV l)==z)=true
  .grind
  .rw[b9 hz];have hz:f (eV l)≠z:=fun e=>hz (by grind);have hmem:eV l∈D:=h.sub _ (og r9);have hnew:f (eV l) ∉ l:=fun hm=>by
    let⟨i,hi⟩:=rj hm;rcases i with -|i
    .rw[h.head]at hi;grind
    .have hil:=(ew.1 hi).1;have hx:l[i]?=some l[i]:=dw Z;have h2:=h.step i _ hx hil;rw[hi]at h2;have e:=inj _ hmem _ (h.sub _ (gQ Z)) (s6 h2);have e2:l[l.length-1]?=l[i]?:=by grind
     rw[dw (show l.length-1<l.length by omega),hx,iw]at e2;have:=(zl6 h.nodup).1 e2;omega
   refine VQ hD inj k _ ⟨?_,?_,?_,?_⟩ (by grind)
   .rw[znn];refine⟨h.nodup,M,fun a ha b hb e=>?_⟩;grind
   .intro x hx;rcases qY.1 hx with hx|hx
    .exact h.sub x hx
    grind
   .rw[pN h.pos];exact h.head
   .intro i x hx hi;rw[mV,fB,gq]at hi;by_cases hil:i+1<l.length
    .rw[pN hil];rw[pN Z]at hx;exact h.step i x hx hil
    grind
theorem Sd.closed(inj:∀ x∈D,∀ y∈D,f x=f y->x=y){c:List Int}(h:Sd f D z c)(hz:f (eV c)=z){d:Int}(hd:d∈D):f d∈c↔d∈c:=by
 have r9:=h.last;constructor
 .intro hm;let⟨i,hi⟩:=rj hm;rcases i with -|i
  .rw[h.head]at hi;have e:=inj _ hd _ (h.sub _ (og r9)) ((s6 hi).symm.trans hz.symm);grind
  .have hil:=(ew.1 hi).1;have h2:=h.step i _ (dw Z) hil;rw[hi]at h2;have e:=inj _ hd _ (h.sub _ (gQ Z)) (s6 h2);grind
 .intro hm;let⟨i,hi⟩:=rj hm;by_cases hl:i+1<c.length
  .exact og (h.step i d hi hl)
  .have hil:=(ew.1 hi).1;rw[(show i=c.length-1 by omega),r9]at hi;cases hi;rw[hz];exact og h.head
theorem Vj(hn:l.Nodup){w:Int}(h1:Vm l u v)(h2:Vm l u w):v=w:=by
 rcases h1 with⟨A,B,e⟩|⟨B,e,h1⟩<;>rcases h2 with⟨A',B',e'⟩|⟨B',e',h2⟩
 .have i2:l[A'.length]?=some u:=by grind
  have j1:l[A.length+1]?=some v:=by grind
  grind
 .grind
 .grind
 grind
section
variable {p:Pn} (h:aX p)
include h
theorem aX.CE:∀ x∈aZ p,∀ y∈aZ p,jU p x=jU p y->x=y:=fun x hx y hy e=>by
 obtain⟨_,nx⟩:=h.fV (h.jd.1 hx);obtain⟨_,ny⟩:=h.fV (h.jd.1 hy);let⟨a,ha,ea,ma⟩:=h.node nx;let⟨b,hb,eb,mb⟩:=h.node ny;let⟨u,hu⟩:=G8 ma;let⟨v,hv⟩:=G8 mb;have fu:=h.next ha hu;have fv:=h.next hb hv;rw[Sf]at fu fv;have huv:u=v:=by grind
 subst huv;have su:=(h.eE ha hu.mem.1).2;have sv:=(h.eE hb hv.mem.1).2;have aq:=ZN h.nice.VT ha hb (zbs h.pts ha hb (by grind) (by grind));subst aq;have:=Vj ((h.around ha).1.nodup_iff.2 h.nS) hu hv;omega
theorem aX.vB(hz:z∈aZ p):Sd (jU p) (aZ p) z (dV (dF p) (dQ p) z)/\jU p (eV (dV (dF p) (dQ p) z))=z:=by
 have ak:(aZ p).length<=(dF p).length:=by
  have hn:(aZ p).Nodup:=by
   exact xao
  refine hn.length_le_of_subset fun d hd=>?_;let⟨e,hd2⟩:=h.fV (h.jd.1 hd);obtain⟨e2,_⟩:=h.fV hd2;obtain⟨x,hx,_,hm⟩:=h.node hd2;refine oQ.2 ⟨x,hx,(BS _).mem_iff.2 (kO.2 ⟨-d,hm,?_⟩)⟩;grind
 refine VQ (fun d hd=>h.jd.2 (h.uO (h.jd.1 hd)).1) h.CE (dF p).length [z] ⟨M,fun x hx=>by grind,rfl,fun i x hx hi=>by grind⟩ ?_;grind
theorem aX.Ay{d:Int}(hz:z∈aZ p)(hd:d∈aZ p):jU p d∈dV (dF p) (dQ p) z↔d∈dV (dF p) (dQ p) z:=by let⟨h1,h2⟩:=h.vB hz;exact h1.closed h.CE h2 hd
end
def aX.D2{p:Pn}(h:aX p)(hx:x∈p.ns.l)(hp:l.Perm (bu p x.id))(hs:l.Pairwise fun a b=>lss x.at' (h.eH.sc a) (h.eH.sc b)=true):l=bt p x.id :=
 zmb (fun _ _ _ _ h1 h2=>(zab h1 h2).elim) hs (h.around hx).2 (hp.trans (h.around hx).1.symm)
section
variable {p:Pn} (h:aX p)
include h
omit h in
theorem aX.Cw{c:List Int}(hc:c∈bn p):∃ z∈aZ p,c=dV (dF p) (dQ p) z:=by
 unfold bn at hc;rcases zae hc with hc|hc
 .simp at hc
 .exact hc
end
end
variable {d z:Int}
section
variable {p:Pn} (h:aX p)
include h
theorem aX.vA{w:Int}(hz:z∈aZ p)(hw:w∈aZ p)(h1:d∈dV (dF p) (dQ p) z)(h2:d∈dV (dF p) (dQ p) w):∀ x∈dV (dF p) (dQ p) w,x∈dV (dF p) (dQ p) z:=fun x hx=>by
 obtain⟨o,_⟩:=h.vB hw;have key:∀(i:Nat)(u v:Int),(dV (dF p) (dQ p) w)[0]?=some u->(dV (dF p) (dQ p) w)[i]?=some v->(u∈dV (dF p) (dQ p) z↔v∈dV (dF p) (dQ p) z):=fun i=>by
  induction i with
  |zero =>
   grind
  |succ i ih =>
   intro u v hu hv
   have hl:=(ew.1 hv).1
   have hxi:(dV (dF p) (dQ p) w)[i]?=some (dV (dF p) (dQ p) w)[i]:=dw Z
   have hst:=o.step i _ hxi hl
   rw[hv]at hst
   rw[s6 hst,h.Ay hz (o.sub _ (og hxi))]
   grind
 let⟨i,hi⟩:=rj h2;let⟨j,hj⟩:=rj hx;grind
def aX.Gu{w:Int}(hz:z∈aZ p)(hw:w∈aZ p)(h1:d∈dV (dF p) (dQ p) z)(h2:d∈dV (dF p) (dQ p) w)(x:Int):x∈dV (dF p) (dQ p) z↔x∈dV (dF p) (dQ p) w :=
 ⟨h.vA hw hz h2 h1 x,h.vA hz hw h1 h2 x⟩
end
section
open Go Go.RowKit
section
variable {H I:Type}
theorem Kn{f:H->Int}{q:H->Bool}:∀{l:List H},sm f (l.filter q)=sm (fun x=>b2 (q x)*f x) l
 |[]=>rfl
 |x::l=>by
  have ih:=Kn (f:=f) (q:=q) (l:=l);rw[MZ];cases h:q x
  .rw[b9 M];simp[sm,h,ih,show b2 false=0 from rfl,Vp,Int.zero_add]
  .rw[bU rfl];simp[sm,h,ih,show b2 true=1 from rfl,Int.one_mul]
theorem Nv{f:H->Int}{k:Int}:∀{l:List H},sm (fun x=>k*f x) l=k*sm f l
 |[]=>(zm9 k).symm
 |x::l=>by simp[sm,(Nv (f:=f) (k:=k) (l:=l)),Int.mul_add]
theorem zge{f:H->Int}{B:Int}:∀{l:List H},(∀ x∈l,-B<=f x/\f x<=B)->-(B*l.length)<=sm f l/\sm f l<=B*l.length
 |[],_=>by simp[sm]
 |x::l,h=>by have ih:=zge fun y hy=>h y (tj _ hy);have hx:=h x (qj ..);simp[sm,fB,Int.natCast_add,Sh,Int.mul_add,Int.mul_one];omega
end
section
variable {p:Pn} (h:aX p)
include h
theorem aX.qW:(aZ p).Nodup:=by
 exact xao
end
def Bg(a b:Pt):Int:=a.x*b.y-b.x*a.y
variable {PI:Int}
section
variable (N:Net) (fD:0<PI) (hd:∀ i,((N.drawn.B i).h-(N.drawn.A i).h)∣PI)
def Net.tau(a:Int):Int:=sm (fun k=>Bg (N.pt a k) (N.pt a (k+1))) (List.range (N.len a))
def Net.mD(d:Int):Int:=if 0<d then N.tau d else-N.tau (-d)
def Net.tu(c:List Int):Int:=sm N.mD c
include fD hd
end
section
variable {p:Pn} (h:aX p) (fD:0<PI) (hd:∀ i,((h.eH.drawn.B i).h-(h.eH.drawn.A i).h)∣PI)
theorem aX.Hy{a:Ac}(ha:a∈p.az.l):h.eH.mD (-a.id)=- h.eH.mD a.id:=by have:=h.pid a ha;unfold Net.mD;grind
end
variable {z:Int}
section
variable {p:Pn} (h:aX p)
include h
def aX.NG(hz:z∈aZ p):z∈dV (dF p) (dQ p) z:=og (h.vB hz).1.head
variable (fD:0<PI) (hd:∀ i,((h.eH.drawn.B i).h-(h.eH.drawn.A i).h)∣PI)
end
variable {a b q:Pt}
def v8:tw b a q=- tw a b q:=xbv
def HO(ha:a.near)(hb:b.near)(hq:q.near):decide (0<HP a b q)=decide (0<tw a b q):=xe3
def BN(ha:a.near)(hb:b.near)(hq:q.near):(HP a b q==0)=decide (tw a b q=0):=xe3
theorem zcz(ha:a.near)(hb:b.near)(hq:q.near):gL a b q=true↔(b.y<=q.y/\q.y<a.y/\tw a b q<0)∨(a.y<=q.y/\q.y<b.y/\0<tw a b q):=by unfold gL;rw[HO hb ha hq,HO ha hb hq,v8];grind
theorem Gw(ha:a.near)(hb:b.near)(hq:q.near):gL a b q=gL b a q:=by rw[Hh,zcz ha hb hq,zcz hb ha hq,v8];omega
theorem aa0(a b:Bool):b2 (xor a b)%2=(b2 a+b2 b)%2:=by cases a<;>cases b<;>rfl
def LW(l:List Pt)(q:Pt):Int:=sm (fun k=>b2 (gL (l.getD k fS) (l.getD (k+1) fS) q)) (List.range (l.length-1))
theorem Iq{l:List Pt}{q:Pt}{o:Bool}:∀ k,k+1<=l.length->b2 (iA l q o k)%2=(b2 o+sm (fun j=>b2 (gL (l.getD j fS) (l.getD (j+1) fS) q)) (List.range k))%2
 |0,_=>by simp[iA,sm]
 |k+1,hk=>by
  have ih:=Iq (l:=l) (q:=q) (o:=o) k Z;have h1:l[k]?=some (l.getD k fS):=by grind
  have h2:l[k+1]?=some (l.getD (k+1) fS):=by grind
  have e:iA l q o (k+1)=xor (iA l q o k) (gL (l.getD k fS) (l.getD (k+1) fS) q):=by
   show(match l[k]?,l[k+1]? with|some a,some b=>xor (iA l q o k) (gL a b q)|_,_=>iA l q o k)=_
   grind
  rw[e,aa0,zmc,Yf];simp only[sm];omega
variable {l:List Pt}
def Cx{o:Bool}(hl:1<=l.length):b2 (nD l q o)%2=(b2 o+LW l q)%2:=Iq _ Z
theorem zc0:∀(n:Nat)(g:Nat->Int),sm g (List.range n)=sm (fun k=>g (n-1-k)) (List.range n)
 |0,_=>rfl
 |n+1,g=>by
  have e1:sm g (List.range (n+1))=sm g (List.range n)+g n:=by rw[zmc,Yf];simp only[sm];omega
  have e2:sm (fun k=>g (n+1-1-k)) (List.range (n+1))=g n+sm (fun k=>g (n-1-k)) (List.range n):=by rw[List.range_succ_eq_map];simp only[sm];rw[XB];grind
  rw[e1,e2,zc0 n g];omega
variable {k:Nat}
theorem zbw(hk:k<l.length):l.reverse.getD k fS=l.getD (l.length-1-k) fS:=by grind
theorem UD(hl:∀ x∈l,x.near)(hq:q.near):LW l.reverse q=LW l q:=by unfold LW;rw[Vy,zc0 (l.length-1)];refine zf2 fun k hk=>?_;have hk:=vU.1 hk;rw[zbw Z,zbw Z,show l.length-1-(l.length-1-1-k)=k+1 by omega,show l.length-1-(l.length-1-1-k+1)=k by omega];rw[Gw (hl _ (yb Z)) (hl _ (yb Z)) hq]
theorem Ip:Ct l q=true↔∃ k,k<l.length-1/\nC (l.getD k fS) (l.getD (k+1) fS) q=true:=by
 have key:∀ n,n<=l.length-1->(nB l q n=true↔∃ k,k<n/\nC (l.getD k fS) (l.getD (k+1) fS) q=true):=fun n=>by
  induction n with
  |zero =>
   intro _
   constructor
   .intro h;cases h
   simp
  |succ n ih =>
   intro hn
   have h1:l[n]?=some (l.getD n fS):=by grind
   have h2:l[n+1]?=some (l.getD (n+1) fS):=by grind
   have e:nB l q (n+1)=(nB l q n||nC (l.getD n fS) (l.getD (n+1) fS) q):=by
    show(nB l q n||match l[n]?,l[n+1]? with | some a,some b=>nC a b q | _,_=>false)=_
    grind
   grind
 exact key _ (cI _)
theorem Cu(ha:a.near)(hb:b.near)(hq:q.near):nC a b q=true↔tw a b q=0/\min a.x b.x<=q.x/\q.x<=max a.x b.x/\min a.y b.y<=q.y/\q.y<=max a.y b.y:=by
 unfold nC;rw[BN ha hb hq];have m1:∀ u v:Int,qK u v=min u v:=fun u v=>by unfold qK;grind
 have m2:∀ u v:Int,rz u v=max u v:=fun u v=>by unfold rz;grind
 grind
theorem K0(ha:a.near)(hb:b.near)(hq:q.near):nC a b q=nC b a q:=by rw[Hh,Cu ha hb hq,Cu hb ha hq,v8];omega
theorem Io(hl:∀ x∈l,x.near)(hq:q.near)(h:Ct l.reverse q=true):Ct l q=true:=by let⟨k,hk,h2⟩:=Ip.1 h;rw[Vy]at hk;rw[zbw Z,zbw Z]at h2;refine Ip.2 ⟨l.length-1-1-k,Z,?_⟩;rw[show l.length-1-(k+1)=l.length-1-1-k by omega,show l.length-1-k=l.length-1-1-k+1 by omega]at h2;rw[K0 (hl _ (yb Z)) (hl _ (yb Z)) hq];omega
theorem X0(hl:∀ x∈l,x.near)(hq:q.near):Ct l.reverse q=Ct l q:=by rw[Hh];refine⟨Io hl hq,fun h=>Io (fun x hx=>hl x (Si.1 hx)) hq ?_⟩;grind
variable {d:Int}
section
variable {p:Pn} (h:aX p)
include h
theorem aX.kS{a:Ac}(ha:a∈p.az.l):bR p a.id=bC p a:=by have:=h.pid a ha;unfold bR;rw[decide_eq_true (show 0<a.id by omega),bV,(h.nice.path ha).2]
theorem aX.l9{a:Ac}(ha:a∈p.az.l):bR p (-a.id)=(bC p a).reverse:=by have:=h.pid a ha;unfold bR;rw[decide_eq_false (show ¬ 0 < -a.id by omega),bT,h.ng2 ha,(h.nice.path ha).2]
def aX.oa{a:Ac}(ha:a∈p.az.l):∀ x∈bC p a,x.near:=fun x hx=>Xn (Yh h.nice ha x hx)
theorem aX.Tp{a:Ac}(ha:a∈p.az.l)(hd:d=a.id∨d=-a.id)(hq:q.near):Ct (bR p d) q=Ct (bC p a) q:=by
 rcases hd with rfl|rfl
 .rw[h.kS ha]
 .rw[h.l9 ha,X0 (h.oa ha) hq]
theorem aX.QB{a:Ac}(ha:a∈p.az.l)(hd:d=a.id∨d=-a.id)(hq:q.near):LW (bR p d) q=LW (bC p a) q:=by
 rcases hd with rfl|rfl
 .rw[h.kS ha]
 .rw[h.l9 ha,UD (h.oa ha) hq]
theorem aX.rT(hd:d∈aZ p):2<=(bR p d).length:=by
 obtain⟨a,ha,rfl|rfl⟩:=h.dy.1 (h.jd.1 hd)
 .rw[h.kS ha];exact yv
 .rw[h.l9 ha,Vy];exact yv
variable (fD:0<PI) (hd:∀ i,((h.eH.drawn.B i).h-(h.eH.drawn.A i).h)∣PI)
end
theorem vD(ha:a.near)(hb:b.near):-8796093022208<=Bg a b/\Bg a b<=8796093022208:=by let⟨h1,h2,h3,h4⟩:=ha;let⟨g1,g2,g3,g4⟩:=hb;obtain⟨m1,m2⟩:=YS (a:=a.x) Z Z Z Z;obtain⟨m3,m4⟩:=YS (a:=b.x) (b:=a.y) Z Z Z Z;unfold Bg;grind
variable {acc:Int}
theorem Kg(ha:a.near)(hb:b.near)(h1:-4611686018427387904<=acc)(h2:acc<=4611686018427387904):o9 acc a b=acc+Bg a b:=by let⟨q1,q2,q3,q4⟩:=ha;let⟨g1,g2,g3,g4⟩:=hb;obtain⟨m1,m2⟩:=YS (a:=a.x) Z Z Z Z;obtain⟨m3,m4⟩:=YS (a:=b.x) (b:=a.y) Z Z Z Z;unfold o9 Bg;generalize a.x*b.y=u at *;generalize b.x*a.y=v at *;rw[zO (x:=u) Z Z,zO (x:=v) Z Z,zO (x:=acc+u) Z Z,zO Z Z];omega
def rJ(l:List Pt):Int:=sm (fun k=>Bg (l.getD k fS) (l.getD (k+1) fS)) (List.range (l.length-1))
theorem zaf(hl:∀ x∈l,x.near)(k:Nat)(hk:k+1<=l.length):-(8796093022208*(k:Int))<=sm (fun j=>Bg (l.getD j fS) (l.getD (j+1) fS)) (List.range k)/\sm (fun j=>Bg (l.getD j fS) (l.getD (j+1) fS)) (List.range k)<=8796093022208*(k:Int):=by
 have:=zge (f:=fun j=>Bg (l.getD j fS) (l.getD (j+1) fS)) (l:=List.range k) fun j hj=>by have:=vU.1 hj;exact vD (hl _ (yb Z)) (hl _ (yb Z))
 grind
theorem Hw{l:List Pt}(hl:∀ x∈l,x.near){acc:Int}(IZ:l.length<=1000)(h1:-4600000000000000000<=acc)(h2:acc<=4600000000000000000):∀ k,k+1<=l.length->pO l acc k=acc+sm (fun j=>Bg (l.getD j fS) (l.getD (j+1) fS)) (List.range k)
 |0,_=>by simp[pO,sm]
 |k+1,hk=>by
  have e1:l[k]?=some (l.getD k fS):=by grind
  have e2:l[k+1]?=some (l.getD (k+1) fS):=by grind
  have e:pO l acc (k+1)=o9 (pO l acc k) (l.getD k fS) (l.getD (k+1) fS):=by
   show(match l[k]?,l[k+1]? with|some a,some b=>o9 (pO l acc k) a b|_,_=>pO l acc k)=_
   grind
  have hb:=zaf hl k Z;rw[e,(Hw hl IZ h1 h2 k Z),Kg (hl _ (yb Z)) (hl _ (yb Z)) Z Z,zmc,Yf];simp only[sm];omega
def Xv(hl:∀ x∈l,x.near)(IZ:l.length<=1000)(h0:1<=l.length)(h1:-4600000000000000000<=acc)(h2:acc<=4600000000000000000):twP l acc=acc+rJ l:=Hw hl IZ h1 h2 _ Z
theorem SC:rJ l.reverse=- rJ l:=by unfold rJ;rw[Vy,zc0 (l.length-1),show ∀ z:Int,-z=(-1)*z from fun z=>by omega,←Nv];refine zf2 fun k hk=>?_;unfold Bg;grind
section
variable {p:Pn} (h:aX p)
include h
theorem aX.qo(hd:d∈aZ p):h.eH.mD d=rJ (bR p d):=by
 have key:∀ a∈p.az.l,h.eH.mD a.id=rJ (bC p a):=fun a ha=>by have:=h.pid a ha;unfold Net.mD Net.tau rJ;rw[bU Z,h.len ha];exact zf2 fun k _=>by rw[h.pt ha,h.pt ha]
 obtain⟨a,ha,rfl|rfl⟩:=h.dy.1 (h.jd.1 hd)
 .rw[h.kS ha];grind
 .rw[h.l9 ha,SC,←key a ha];exact h.Hy ha
theorem aX.xg(hd:d∈aZ p):∀ x∈bR p d,x.near:=by
 obtain⟨a,ha,rfl|rfl⟩:=h.dy.1 (h.jd.1 hd)
 .rw[h.kS ha];exact h.oa ha
 .rw[h.l9 ha];exact fun x hx=>h.oa ha x (Si.1 hx)
theorem aX.Cl(hv:∀ a∈p.az.l,a.via.l.length<=900)(hd:d∈aZ p):(bR p d).length<=902:=by
 have key:∀ a∈p.az.l,(bC p a).length<=902:=fun a ha=>by unfold bC;grind
 obtain⟨a,ha,rfl|rfl⟩:=h.dy.1 (h.jd.1 hd)
 .rw[h.kS ha];grind
 .rw[h.l9 ha,Vy];grind
theorem aX.Hv(hv:∀ a∈p.az.l,a.via.l.length<=900):∀(c:List Int)(acc:Int),(∀ d∈c,d∈aZ p)->-(8000000000000000*((512:Int)-c.length))<=acc->acc<=8000000000000000*((512:Int)-c.length)->c.length<=512->c.foldl (fun acc z=>twP (bR p z) acc) acc=acc+sm h.eH.mD c
 |[],acc,_,_,_,_=>by simp[sm]
 |d::c,acc,hs,h1,h2,hl=>by have hd:=hs d (qj ..);have hp:=h.rT hd;have hf:=h.Cl hv hd;rw[fB]at hl h1 h2;have hb:=zaf (h.xg hd) ((bR p d).length-1) Z;have hb:-(8796093022208*(((bR p d).length-1:Nat):Int))<=rJ (bR p d)/\rJ (bR p d)<=8796093022208*(((bR p d).length-1:Nat):Int):=hb;rw[List.foldl_cons,(Xv (acc:=acc) (h.xg hd) Z Z Z Z),aX.Hv hv c _ (fun x hx=>hs x (tj _ hx)) Z Z Z];simp[sm];rw[h.qo hd];omega
theorem aX.abi(hv:∀ a∈p.az.l,a.via.l.length<=900){c:List Int}(hs:∀ d∈c,d∈aZ p)(hl:c.length<=512):jv p c=h.eH.tu c:=by have:=h.Hv hv c 0 hs Z Z hl;unfold jv Net.tu;grind
end
def Af(p:Pn)(os:List (List Int))(q:Pt):Int:=match jo p os q with
 |0=>0
 |k+1=>WB p ((os[k]?).getD [])
section
variable {p:Pn} (h:aX p) (hv:∀ a∈p.az.l,a.via.l.length<=900) (ha:p.az.l.length<=200)
include h
theorem aX.Az{c:List Int}(hc:c∈bn p):∀ d∈c,d∈aZ p:=by obtain⟨z,hz,rfl⟩:=aX.Cw hc;exact(h.vB hz).1.sub
include hv ha
def aX.Xu{c:List Int}(hc:c∈bn p):jv p c=h.eH.tu c:=h.abi hv (h.Az hc) (h.pF ha c hc).1
end
def gH(p:Pn)(c:List Int):Pt:=((dW p (cW ((c[0]?).getD 0)))[0]?).getD ⟨0,0⟩
structure sW(p:Pn)(os:List (List Int)):Prop where
 outer:∀ c∈os,WB p c≠0/\dB p c (WB p c)=true
 aha:(os.map (WB p)).Nodup
 num:os.length=p.fs.l.length
 inner:∀ c∈bn p,jv p c<=0->dB p c (Af p os (gH p c))=true
def LP(a b q:Pt):Bool:=decide (a.y<=q.y)&&(decide (q.y<b.y)&&decide (0<eO a b q))
def LO(a b q:Pt):Bool:=decide (b.y<=q.y)&&(decide (q.y<a.y)&&decide (eO a b q<0))
variable {D m:Nat}{S:bX}{ah:bq}
section
theorem Ut(hS:bk S){m D:Nat}{ah:bq}(hm:12<=m)(K:eU)(t:List IV)(a b q:Pt)(x1 x2:aP)(J:aS)(ja jb:Nat)(ha:J[ja]?=some (aH [aB a.x,aB a.y]))(hb:J[jb]?=some (aH [aB b.x,aB b.y]))
  (af:aN 56 t [(2,.ptrM D 0 0),(3,.ptrM D 1 0),(4,.ptrM D 2 0),(5,.ptrM D (ja+1+1+1) 0),(6,.ptrM D (jb+1+1+1) 0)])
  (hK:∀ t',aN 56 t' [(2,.ptrM D 0 0),(3,.ptrM D 1 0),(4,.ptrM D 2 0),(5,.ptrM D (ja+1+1+1) 0),(6,.ptrM D (jb+1+1+1) 0),(12,.bool (LP a b q))]->K .normal ⟨t',aH [aB q.x,aB q.y]::x1::x2::(J++[.free])⟩) :
  Ex (aL aO S m) D ah m (i272.body.sub [1,0,1,1,0]) K ⟨t,aH [aB q.x,aB q.y]::x1::x2::J⟩:=by
 simp[za,zb]at af
 have fa:(J++[aP.free])[ja]?=some (aH [aB a.x,aB a.y]):=by grind
 have fb:(J++[aP.free])[jb]?=some (aH [aB b.x,aB b.y]):=by grind
 have c0:=AJ hS a b q m Z
 simp[Pt.c,zf]at c0
 cases h1:decide (a.y<=q.y)
 .simp only[i272,IC.sub,V0,seval,af,fa,h1]
  exact hK _ (by simp[V0,seval,af,dZ,LP,h1])
 .cases h2:decide (q.y<b.y)
  .simp only[i272,IC.sub,V0,seval, *]
   exact hK _ (by simp[V0,seval,af,dZ,LP,h1,h2])
  .simp only[i272,IC.sub,V0,seval,ez, *]
   exact hK _ (by simp[V0,seval,af,LP,h1,h2])
theorem Us(hS:bk S){m D:Nat}{ah:bq}(hm:12<=m)(K:eU)(t:List IV)(a b q:Pt)(x1 x2:aP)(J:aS)(ja jb:Nat)(ha:J[ja]?=some (aH [aB a.x,aB a.y]))(hb:J[jb]?=some (aH [aB b.x,aB b.y]))
  (af:aN 56 t [(2,.ptrM D 0 0),(3,.ptrM D 1 0),(4,.ptrM D 2 0),(5,.ptrM D (ja+1+1+1) 0),(6,.ptrM D (jb+1+1+1) 0)])
  (hK:∀ t',aN 56 t' [(2,.ptrM D 0 0),(3,.ptrM D 1 0),(4,.ptrM D 2 0),(5,.ptrM D (ja+1+1+1) 0),(6,.ptrM D (jb+1+1+1) 0),(34,.bool (LO a b q))]->K .normal ⟨t',aH [aB q.x,aB q.y]::x1::x2::(J++[.free])⟩) :
  Ex (aL aO S m) D ah m (i272.body.sub [1,0,1,1,1,1,0]) K ⟨t,aH [aB q.x,aB q.y]::x1::x2::J⟩:=by
 simp[za,zb]at af
 have fa:(J++[aP.free])[ja]?=some (aH [aB a.x,aB a.y]):=by grind
 have fb:(J++[aP.free])[jb]?=some (aH [aB b.x,aB b.y]):=by grind
 have c0:=AJ hS a b q m Z
 simp[Pt.c,zf]at c0
 cases h1:decide (b.y<=q.y)
 .simp only[i272,IC.sub,V0,seval,af,fb,h1]
  exact hK _ (by simp[V0,seval,af,dZ,LO,h1])
 .cases h2:decide (q.y<a.y)
  .simp only[i272,IC.sub,V0,seval, *]
   exact hK _ (by simp[V0,seval,af,dZ,LO,h1,h2])
  .simp only[i272,IC.sub,V0,seval, *]
   exact hK _ (by simp[V0,seval,af,LO,h1,h2])
theorem Gf(hS:bk S)(hm:16<=m)(a b q:Pt)(on n9:Bool)(J aJ:aS):∃ J',∀ id,aL aO S m D ah aJ (aH [aB q.x,aB q.y]::aH [.bool on]::aH [.bool n9]::J) id 272 [.agg [aB a.x,aB a.y],.agg [aB b.x,aB b.y],.ptrM D 0 0,.ptrM D 1 0,.ptrM D 2 0]=some (.x,.tuple [],aH [aB q.x,aB q.y]::aH [.bool (on||mz a b q)]::aH [.bool (bif mz a b q then n9 else xor n9 (LP a b q||LO a b q))]::J'):=by
 obtain⟨m,rfl⟩:=gv m 1;have main:∃ v aU,(∀ id,aL aO S (m+1) D ah aJ (aH [aB q.x,aB q.y]::aH [.bool on]::aH [.bool n9]::J) id 272 [.agg [aB a.x,aB a.y],.agg [aB b.x,aB b.y],.ptrM D 0 0,.ptrM D 1 0,.ptrM D 2 0]=some (.x,v,aU))/\(v=.tuple []/\∃ J',aU=aH [aB q.x,aB q.y]::aH [.bool (on||mz a b q)]::aH [.bool (bif mz a b q then n9 else xor n9 (LP a b q||LO a b q))]::J'):=by
  refine yq (i:=i272) (hS _ _ M M M M) rfl rfl (bP rfl) fun t af=>?_;simp[V2,Xb,i272]at af;suffices jc:∀ K:eU,(∀ t' J',K .normal ⟨t',aH [aB q.x,aB q.y]::aH [.bool (on||mz a b q)]::aH [.bool (bif mz a b q then n9 else xor n9 (LP a b q||LO a b q))]::J'⟩)->Ex (aL aO S m) D ah m i272.body K ⟨t,aH [aB q.x,aB q.y]::aH [.bool on]::aH [.bool n9]::J⟩from jc _ fun t' J'=>by simp only[i272,yB,M5];simp
  intro K fin;have hA:=fun K t x1 x2 J ja jb ha hb af hK=>@Ut S hS m D ah Z K t a b q x1 x2 J ja jb ha hb af hK;have hB:=fun K t x1 x2 J ja jb ha hb af hK=>@Us S hS m D ah Z K t a b q x1 x2 J ja jb ha hb af hK;have c0:=JD hS a b q m Z;simp[Pt.c,zf]at c0;rw[show i272.body=.seq (i272.body.sub [0]) (.block 0 (.seq (i272.body.sub [1,0,0]) (.cond (.tmp 7) (i272.body.sub [1,0,1,0]) (.seq (i272.body.sub [1,0,1,1,0]) (.cond (.tmp 12) (i272.body.sub [1,0,1,1,1,0]) (.seq (i272.body.sub [1,0,1,1,1,1,0]) (i272.body.sub [1,0,1,1,1,1,1])))))))from rfl];generalize i272.body.sub [1,0,1,1,0]=TA at hA ⊢;generalize i272.body.sub [1,0,1,1,1,1,0]=TB at hB ⊢;have g0:∀(x:aP)(R:aS),(J++x::R)[J.length]?=some x:=fun x R=>by simp
  have g1:∀(x y:aP)(R:aS),(J++x::y::R)[J.length+1]?=some y:=fun x y R=>by simp
  have s0:∀(x y:aP)(R:aS),(J++x::R).set J.length y=J++y::R:=fun x y R=>by simp
  have s1:∀(x y z:aP)(R:aS),(J++x::y::R).set (J.length+1) z=J++x::z::R:=fun x y z R=>by simp
  have ahu:∀ t' x y J',(on||mz a b q)=x->(bif mz a b q then n9 else xor n9 (LP a b q||LO a b q))=y->K .normal ⟨t',aH [aB q.x,aB q.y]::aH [.bool x]::aH [.bool y]::J'⟩:=fun t' x y J' h1 h2=>by grind
  cases hon:mz a b q
  .simp[i272,IC.sub,V0,seval,s1, *];refine hA _ _ _ _ _ J.length (J.length+1) M M bS fun t' ht=>?_;clear af;simp[za,zb]at ht;cases hcA:LP a b q
   .rw[hcA]at ht;simp[V0,seval,ht];refine hB _ _ _ _ _ J.length (J.length+1) M M bS fun t2 ht2=>?_;clear ht;simp[za,zb]at ht2;cases hcB:LO a b q
    .rw[hcB]at ht2;simp[V0,seval,ht2];simp[*]
    .rw[hcB]at ht2;simp[V0,seval,ht2];grind
   .rw[hcA]at ht;simp[V0,seval,ht];grind
  .simp only[i272,IC.sub,V0,seval,s1, *];grind
 obtain⟨v,aU,h1,rfl,J',rfl⟩:=main;simp[*]
end
section
variable {p:Pn} (h:aX p)
include h
theorem aX.p7(hz:z∈aZ p):∃ a∈p.az.l,cW z=a.id/\((z=a.id/\0<z)∨(z=-a.id/\z<0))/\j8 p z=true/\cQ p (cW z)=true/\dW p (cW z)=bC p a:=by
 let⟨a,ha,e⟩:=h.dy.1 (h.jd.1 hz);have hid:=h.pid a ha;have aq:cW z=a.id:=by obtain⟨g1,_⟩:=zcu (h.gd (h.jd.1 hz));have RV:iR z=-z:=(h.fV (h.jd.1 hz)).1;omega
 refine⟨a,ha,aq,Z,?_,by rw[aq];exact(h.nice.path ha).1,by rw[aq];exact(h.nice.path ha).2⟩;unfold j8;have e1:(z==0||z==-9223372036854775808)=false:=by grind
 rw[e1,aq,show mX p a.id=some a from ZM h.nice.Rq ha];rfl
theorem aX.rK(hv:∀ a∈p.az.l,a.via.l.length<=900)(hd:d∈aZ p):-8000000000000000<=h.eH.mD d/\h.eH.mD d<=8000000000000000:=by have hp:=h.rT hd;have hf:=h.Cl hv hd;have hb:=zaf (h.xg hd) ((bR p d).length-1) Z;have hb:-(8796093022208*(((bR p d).length-1:Nat):Int))<=rJ (bR p d)/\rJ (bR p d)<=8796093022208*(((bR p d).length-1:Nat):Int):=hb;rw[h.qo hd];omega
end
theorem E2(hS:bk S)(p:Pn)(h0:aX p)(hv:∀ a∈p.az.l,a.via.l.length<=900)(gV:bL p)(c:aR 1 aK)(hcd:∀ z∈c.l,z∈aZ p)(jM:c.l.length<=512):∃ N,∀ m,N<=m->∀ d ah aJ aa id,aL aO S m d ah aJ aa id 190 [.agg p.c,c.v]=some (.r,aB (h0.eH.tu c.l),aa):=by
 let⟨N,hN⟩:=ED c.l fun z _=>Gs hS p gV z;refine⟨N+c.l.length+200000,fun m hm d ah aJ aa id=>?_⟩;obtain⟨m,rfl⟩:=gv m 2;have main:∃ v,aL aO S (m+1+1) d ah aJ aa id 190 [.agg p.c,c.v]=some (.r,v,aa)/\v=aB (h0.eH.tu c.l):=by
  refine ZK (i:=i190) (hS _ _ M M M M) rfl rfl (bP rfl) fun t af=>?_;simp[V2,i190,Pn.c]at af;generalize(fun l=>if l=d then aJ else ah l:bq)=bH
  suffices jc:∀ K:eU,(∀ t' O,aN 84 t' [(4,aB (h0.eH.tu c.l))]->K .ret ⟨t',O⟩)->Ex (aL aO S (m+1)) (d+1) bH (m+1) i190.body K ⟨t,[]⟩from jc _ fun t' O ht=>by simp[za,zb]at ht;rw[y3];refine⟨aB (h0.eH.tu c.l),aB (h0.eH.tu c.l),?_,rfl,rfl⟩;simp[i190,V0,seval,ht]
  intro K fin;have Pm:=c.eZ;have aq:∀ z:Int,(if aT .i64 (0-z)>z then aT .i64 (0-z)else z)=cW z:=fun _=>rfl
  have hb:decide ((512:Int)<(c.l.length:Int))=false:=decide_eq_false Z;have d0:(0:Int)=sm h0.eH.mD (c.l.take 0):=by rfl
  simp[i190,V0,seval,af,ez,hb];refine zm c.l.length (fun i st=>∃(n:Int)(J:aS),n=sm h0.eH.mD (c.l.take i)/\st.aa=p.o::J/\aN 84 st.t [(1,c.v),(2,.ptrM (d+1) 0 0),(4,aB n),(16,c.v),(17,iv (c.l.length:Nat)),(18,iv i)]) Z ⟨0,[],d0,rfl,by simp[V0,seval,af,cZ]⟩ ?_;clear af;rintro i ⟨t,aa⟩ KA hi ⟨n,J,hn,rfl,af⟩ bp bK bQ;simp[za,zb,zf]at af;by_cases h:i<c.l.length
  .have hx:c.l[i]?=some c.l[i]:=dw h;have OW:=hcd _ (gQ h);let⟨a,q',tM,ca,cp⟩:=hN _ (gQ h) (m+1) Z;generalize c.l[i]=z at hx ca cp tM OW;let⟨a0,ha0,haz,agk,hd,TW,hpl⟩:=h0.p7 OW;have hrd:bB (c.l.flatMap aK) (i*1) 1=some [aB z]:=(zd ze 0 1 hx Z).trans rfl;have hw:=zt i;simp[Pn.c,Ac.c,zf]at ca cp;have hg:∀ k,J.length+(k+1)=J.length+k+1:=fun k=>rfl;have pz:=tM TW;rw[hpl]at pz;have iN:=yv (p:=p) (a:=a0);have hlf:(bC p a0).length<=902:=by have:=hv a0 ha0;unfold bC;grind
   have qP:=h0.oa ha0;rw[←pz]at iN hlf qP;have RZ:=q'.eZ;have hw1:aT .i64 ((q'.l.length:Int)-1)=((q'.l.length-1:Nat):Int):=oS;have hnb:=zge (f:=h0.eH.mD) (B:=8000000000000000) (l:=c.l.take i) fun x hx=>h0.rK hv (hcd x (zlb hx));rw[ER,ML Z,←hn]at hnb;have e0:(0:Int)=sm (fun j=>Bg (q'.l.getD j fS) (q'.l.getD (j+1) fS)) (List.range 0):=rfl;simp only[V0,seval,af,h,zc c h,hrd,ca,hd,aq,cp,TW,bV,show((0:Int) != 0)=false from rfl,hw1];refine zm (q'.l.length-1) (fun k st=>∃(s:Int)(J:aS),s=sm (fun j=>Bg (q'.l.getD j fS) (q'.l.getD (j+1) fS)) (List.range k)/\st.aa=p.o::J/\aN 84 st.t [(1,c.v),(2,.ptrM (d+1) 0 0),(4,aB n),(6,aB z),(9,q'.v),(11,aB s),(16,c.v),(17,iv (c.l.length:Nat)),(18,iv i),(43,iv (q'.l.length-1:Nat)),(44,iv k)]) Z ⟨0,_,e0,rfl,by simp[V0,seval,af,cZ]⟩ ?_;clear af;rintro k ⟨t,aa⟩ KB hk ⟨s,J,hs,rfl,af⟩ gJ jL kP;simp[za,zb,zf]at af;have hsb:=zaf qP k Z;rw[←hs]at hsb;by_cases h2:k<q'.l.length-1
   .have h3:k<q'.l.length:=Z;have h4:k+1<q'.l.length:=Z;have hx1:q'.l[k]?=some (q'.l.getD k fS):=by grind
    have hx2:q'.l[k+1]?=some (q'.l.getD (k+1) fS):=by grind
    have hsum:sm (fun j=>Bg (q'.l.getD j fS) (q'.l.getD (j+1) fS)) (List.range (k+1))=s+Bg (q'.l.getD k fS) (q'.l.getD (k+1) fS):=by rw[zmc,Yf,←hs];simp only[sm];omega
    have n1:=qP _ (yb h3);have n2:=qP _ (yb h4);generalize q'.l.getD k fS=y1 at hx1 hsum n1;generalize q'.l.getD (k+1) fS=y2 at hx2 hsum n2;have r10:bB (q'.l.flatMap Pt.c) (k*2) 1=some [aB y1.x]:=(zd Pt.aV 0 1 hx1 Z).trans rfl;have r20:bB (q'.l.flatMap Pt.c) ((k+1)*2) 1=some [aB y2.x]:=(zd Pt.aV 0 1 hx2 Z).trans rfl;have hstep:aT .i64 (s+aT .i64 (aT .i64 (y1.x*y2.y)-aT .i64 (y2.x*y1.y)))=s+Bg y1 y2:=by have cb:=vD n1 n2;let⟨q1,q2,q3,q4⟩:=n1;let⟨g1,g2,g3,g4⟩:=n2;obtain⟨m1,m2⟩:=YS (a:=y1.x) (b:=y2.y) (k:=2097152) Z Z Z Z;obtain⟨m3,m4⟩:=YS (a:=y2.x) (b:=y1.y) (k:=2097152) Z Z Z Z;unfold Bg at cb ⊢;generalize y1.x*y2.y=u at *;generalize y2.x*y1.y=v at *;rw[zO (x:=u) Z Z,zO (x:=v) Z Z,zO (x:=u-v) Z Z,zO Z Z]
    simp only[V0,seval,af,h2,zc q' h3,zc q' h4,r10,((zd Pt.aV 1 1 hx1 Z).trans rfl:bB (q'.l.flatMap Pt.c) (k*2+1) 1=some [aB y1.y]),r20,((zd Pt.aV 1 1 hx2 Z).trans rfl:bB (q'.l.flatMap Pt.c) ((k+1)*2+1) 1=some [aB y2.y]),(zt k)];exact gJ Z _ ⟨aT .i64 (s+aT .i64 (aT .i64 (y1.x*y2.y)-aT .i64 (y2.x*y1.y))),_,Z,rfl,by simp[V0,seval,af]⟩
   .simp[V0,seval,af,h2];refine jL _ _ ?_;have hst:s=h0.eH.mD a0.id:=by rw[hs,(show k=q'.l.length-1 by omega),h0.qo (h0.jd.2 (h0.dy.2 ⟨a0,ha0,.inl rfl⟩)),h0.kS ha0,pz];rfl
    have pL:sm h0.eH.mD (c.l.take (i+1))=n+h0.eH.mD z:=by rw[jh,hx,oP,Yf,←hn];simp only[sm];omega
    have htb:=h0.rK hv OW;have hid:=h0.pid a0 ha0;cases hz:decide (z<0)
    .have hval:aT .i64 (n+s)=n+h0.eH.mD z:=by rw[hst,←(show z=a0.id by grind)];exact zA rfl Z Z
     simp only[V0,seval,af,hz,hw];exact bp Z _ ⟨aT .i64 (n+s),_,Z,rfl,by simp[V0,seval,af]⟩
    .have hneg:=h0.Hy ha0;rw[←(show z=-a0.id by grind)]at hneg;have hval:aT .i64 (n+aT .i64 (0-s))=n+h0.eH.mD z:=by rw[zO (x:=0-s) Z Z,show(0:Int)-s=h0.eH.mD z by omega];exact zA rfl Z Z
     simp only[V0,seval,af,hz,hw];exact bp Z _ ⟨aT .i64 (n+aT .i64 (0-s)),_,Z,rfl,by simp[V0,seval,af]⟩
  .simp[V0,seval,af,h];refine bK _ _ ?_;simp[V0,seval,af];rw[fT Z]at hn;have hn:n=h0.eH.tu c.l:=hn;exact fin _ _ (by simp[V0,seval,af,hn])
 grind
theorem NA(ha:a.near)(hb:b.near)(hq:q.near):eO a b q=bif decide (0<tw a b q)then 1 else bif decide (tw a b q<0)then -1 else 0:=by
 have hall:[a,b,q].all bg=true:=by rw[oO,oO,oO,zS ha,zS hb,zS hq];rfl
 unfold eO Xw;rw[hall,bV,Xm (zS ha) (zS hb) (zS hq),←Sn]
theorem adp(ha:a.near)(hb:b.near)(hq:q.near):(LP a b q||LO a b q)=gL a b q:=by
 rw[Hh,zcz ha hb hq];have hs:decide (0<eO a b q)=decide (0<tw a b q)/\decide (eO a b q<0)=decide (tw a b q<0):=by rw[NA ha hb hq];grind
 unfold LP LO;grind
theorem X1(ha:a.near)(hb:b.near)(hq:q.near):mz a b q=nC a b q:=by
 have hall:[a,b,q].all bg=true:=by rw[oO,oO,oO,zS ha,zS hb,zS hq];rfl
 unfold mz nC;rw[hall,BN ha hb hq,Xm (zS ha) (zS hb) (zS hq),←Sn,rF];rfl
def Vl(l:List Pt)(q:Pt)(on0 Cy:Bool)(k:Nat)(on n9:Bool):Prop:=on=(on0||nB l q k)/\(on=false->n9=iA l q Cy k)
theorem Vl.step{on0 Cy on n9:Bool}(h:Vl l q on0 Cy k on n9)(ha:l[k]?=some a)(hb:l[k+1]?=some b)(na:a.near)(nb:b.near)(nq:q.near):Vl l q on0 Cy (k+1) (on||mz a b q) (bif mz a b q then n9 else xor n9 (LP a b q||LO a b q)):=by
 let⟨h1,h2⟩:=h;have e1:nB l q (k+1)=(nB l q k||nC a b q):=by
  show(nB l q k||match l[k]?,l[k+1]? with | some a,some b=>nC a b q | _,_=>false)=_
  grind
 have e2:iA l q Cy (k+1)=xor (iA l q Cy k) (gL a b q):=by
  show(match l[k]?,l[k+1]? with|some a,some b=>xor (iA l q Cy k) (gL a b q)|_,_=>iA l q Cy k)=_
  grind
 rw[X1 na nb nq,adp na nb nq];refine⟨by grind,fun h=>?_⟩;grind
theorem aa1{a b:Bool}(h:b2 a%2=b2 b%2):a=b:=by cases a<;>cases b<;>first|rfl|(simp[b2]at h)
section
variable {p:Pn} (h:aX p)
include h
theorem aX.Oy{a:Ac}(ha:a∈p.az.l)(hd:d=a.id∨d=-a.id)(hq:q.near)(o:Bool):nD (bR p d) q o=nD (bC p a) q o:=by have h2:=yv (p:=p) (a:=a);have hl:2<=(bR p d).length:=h.rT (h.jd.2 (h.dy.2 ⟨a,ha,hd⟩));refine aa1 ?_;rw[Cx Z,Cx Z,h.QB ha hd hq]
end
theorem Gg(hS:bk S)(hm:16<=m)(a b q:Pt)(on n9:Bool)(J:aS):∃ J',∀ aJ id,aL aO S m D ah aJ (aH [aB q.x,aB q.y]::aH [.bool on]::aH [.bool n9]::J) id 272 [.agg [aB a.x,aB a.y],.agg [aB b.x,aB b.y],.ptrM D 0 0,.ptrM D 1 0,.ptrM D 2 0]=some (.x,.tuple [],aH [aB q.x,aB q.y]::aH [.bool (on||mz a b q)]::aH [.bool (bif mz a b q then n9 else xor n9 (LP a b q||LO a b q))]::J'):=by obtain⟨J',h⟩:=Gf (D:=D) (ah:=ah) hS hm a b q on n9 J [];exact⟨J',fun aJ id=>(yU (hS _ _ M M M M) rfl rfl).trans (h 0)⟩
theorem Ku(hS:bk S)(p:Pn)(h0:aX p)(c:aR 1 aK)(hcd:∀ z∈c.l,z∈aZ p)(L:List (Int×aR 2 Pt.c))(hL:sY p L)(B:Nat)(hB:∀ kv∈L,kv.2.l.length<=B)(hm:c.l.length+B+20<=m)(q:Pt)(hq:q.near)(J:aS):∃ on n9 J',(on=(c.l.any fun z=>Ct (bR p z) q)/\(on=false->n9=c.l.foldl (fun o z=>nD (bR p z) q o) false))/\∀ aJ id,aL aO S m D ah aJ (aH [aB q.x,aB q.y]::aH [.bool false]::aH [.bool false]::J) id 271 [.cR (eD L) (eL mw L),c.v,.fn 272 [] [.ptrM D 0 0,.ptrM D 1 0,.ptrM D 2 0]]=some (.x,.tuple [],aH [aB q.x,aB q.y]::aH [.bool on]::aH [.bool n9]::J'):=by
 obtain⟨m,rfl⟩:=gv m 1;have main:∃ v aU,(∀ id,aL aO S (m+1) D ah [] (aH [aB q.x,aB q.y]::aH [.bool false]::aH [.bool false]::J) id 271 [.cR (eD L) (eL mw L),c.v,.fn 272 [] [.ptrM D 0 0,.ptrM D 1 0,.ptrM D 2 0]]=some (.x,v,aU))/\(v=.tuple []/\∃ on n9 J',(on=(c.l.any fun z=>Ct (bR p z) q)/\(on=false->n9=c.l.foldl (fun o z=>nD (bR p z) q o) false))/\aU=aH [aB q.x,aB q.y]::aH [.bool on]::aH [.bool n9]::J'):=by
  refine yq (i:=i271) (hS _ _ M M M M) rfl rfl (bP rfl) fun t af=>?_;simp[V2,Xb,i271]at af;have Pm:=c.eZ;have aq:∀ z:Int,(if aT .i64 (0-z)>z then aT .i64 (0-z)else z)=cW z:=fun _=>rfl
  simp only[i271,V0,seval,af];refine zm c.l.length (fun i st=>∃(on n9:Bool)(J:aS),(on=((c.l.take i).any fun z=>Ct (bR p z) q)/\(on=false->n9=(c.l.take i).foldl (fun o z=>nD (bR p z) q o) false))/\st.aa=aH [aB q.x,aB q.y]::aH [.bool on]::aH [.bool n9]::J/\aN 40 st.t [(0,.cR (eD L) (eL mw L)),(2,.fn 272 [] [.ptrM D 0 0,.ptrM D 1 0,.ptrM D 2 0]),(10,c.v),(11,iv (c.l.length:Nat)),(12,iv i)]) Z ⟨false,false,J,M,rfl,by simp[V0,seval,af,cZ]⟩ ?_;clear af;rintro i ⟨t,aa⟩ KA hi ⟨on,n9,J,hE,rfl,af⟩ bp bK bQ;simp[za,zb,zf]at af;by_cases h:i<c.l.length
  .have hx:c.l[i]?=some c.l[i]:=dw h;have OW:=hcd _ (gQ h);generalize c.l[i]=z at hx OW;obtain⟨a0,ha0,haz,agk,_,TW,hpl⟩:=h0.p7 OW;have hrd:bB (c.l.flatMap aK) (i*1) 1=some [aB z]:=(zd ze 0 1 hx Z).trans rfl;have Jm:∀(C:Call)(n0:Nat)(aJ aa:aS)(t:List IV)(a b:bD),ρ t a=.cR (eD L) (eL mw L)->ρ t b=aB (cW z)->bY C D ah n0 aJ aa t (.lookup .nilsl (false,[1]) false a b)=some (.p,(gR qv L (cW z)).v,aa):=fun C n0 aJ aa t a b h1 h2=>YP (u:=mw) qv (cW z) rfl h1 h2;have hpB:(gR qv L (cW z)).l.length<=B:=by
    rcases TC (z:=qv) (L:=L) (id:=cW z)with h|h
    .rw[h];exact RH _
    grind
   have TX:(gR qv L (cW z)).l=bC p a0:=by rw[haz];exact(hL a0 ha0).trans (h0.nice.path ha0).2
   generalize gR qv L (cW z)=pa at Jm hpB TX;have hpf:=pa.eZ;have qP:=h0.oa ha0;have h2l:=yv (p:=p) (a:=a0);rw[←TX]at qP h2l;simp only[V0,seval,af,h,zc c h,hrd,aq,Jm];refine zn (fun jj st=>∃(k:Nat)(on' tI:Bool)(J:aS),pa.l.length+1-k<=jj/\1<=k/\k<=pa.l.length/\Vl pa.l q on n9 (k-1) on' tI/\st.aa=aH [aB q.x,aB q.y]::aH [.bool on']::aH [.bool tI]::J/\aN 40 st.t [(0,.cR (eD L) (eL mw L)),(2,.fn 272 [] [.ptrM D 0 0,.ptrM D 1 0,.ptrM D 2 0]),(8,pa.v),(9,iv k),(10,c.v),(11,iv (c.l.length:Nat)),(12,iv i)]) (pa.l.length+1) Z ⟨1,on,n9,J,Z,Z,Z,⟨by simp[nB],fun _=>rfl⟩,rfl,by simp[V0,seval,af,Sh]⟩ ?_;clear af;rintro jj ⟨t,aa⟩ KB ⟨k,on',tI,J,hjj2,hk1,hk,hEn,rfl,af⟩ gJ jL kP;simp[za,zb,zf]at af;by_cases h2:k<pa.l.length
   .have h3:k-1<pa.l.length:=Z;have hx1:pa.l[k-1]?=some pa.l[k-1]:=dw h3;have hx2:pa.l[k]?=some pa.l[k]:=dw h2;have n1:=qP _ (gQ h3);have n2:=qP _ (gQ h2);generalize pa.l[k-1]=y1 at hx1 n1;generalize pa.l[k]=y2 at hx2 n2;have r1:bB (pa.l.flatMap Pt.c) ((k-1)*2) 2=some [aB y1.x,aB y1.y]:=(zd Pt.aV 0 2 hx1 Z).trans rfl;have r2:bB (pa.l.flatMap Pt.c) (k*2) 2=some [aB y2.x,aB y2.y]:=(zd Pt.aV 0 2 hx2 Z).trans rfl;obtain⟨J',hc⟩:=Gg (D:=D) (ah:=ah) hS (m:=m) Z y1 y2 q on' tI (J++[.free]);have hst:=hEn.step hx1 (by grind) n1 n2 hq;rw[show k-1+1=k+1-1 by omega]at hst;simp only[V0,seval,af,h2,zc pa h2,zc pa h3,r1,r2,(oS:aT .i64 ((k:Int)-1)=((k-1:Nat):Int)),hc,(zt k)];exact gJ _ (pa.l.length+1-(k+1)) Z ⟨k+1,_,_,J',Z,Z,Z,hst,rfl,bS⟩
   .simp[V0,seval,af,h2];refine jL _ _ ?_;simp only[V0,seval,af,(zt i)];refine bp Z _ ⟨on',tI,J,?_,rfl,bS⟩;rw[(show k=pa.l.length by omega)]at hEn;let⟨g1,g2⟩:=hEn;have hzz:z=a0.id∨z=-a0.id:=Z;have o1:Ct (bR p z) q=nB pa.l q (pa.l.length-1):=by rw[h0.Tp ha0 hzz hq,TX];rfl
    have o2:∀ o,nD (bR p z) q o=iA pa.l q o (pa.l.length-1):=fun o=>by rw[h0.Oy ha0 hzz hq,TX];rfl
    have pL:c.l.take (i+1)=c.l.take i++[z]:=by rw[jh,hx];rfl
    grind
  .simp[V0,seval,af,h];refine bK _ _ ?_;simp only[V0,seval,yB,M5];rw[fT Z]at hE;simp_all
 obtain⟨v,aU,h1,rfl,on',tI,J',hE,rfl⟩:=main;exact⟨on',tI,J',hE,fun aJ id=>(yU (hS _ _ M M M M) rfl rfl).trans (h1 0)⟩
theorem LA(hS:bk S)(p:Pn)(h0:aX p)(c:aR 1 aK)(hcd:∀ z∈c.l,z∈aZ p)(L:List (Int×aR 2 Pt.c))(hL:sY p L)(q:Pt)(hq:q.near):∃ N,∀ m,N<=m->∀ d ah aJ aa id,aL aO S m d ah aJ aa id 236 [.cR (eD L) (eL mw L),c.v,.agg q.c]=some (.r,.bool (cO p c.l q),aa):=by
 let⟨B,hB⟩:=uI L;refine⟨c.l.length+B+30,fun m hm d ah aJ aa id=>?_⟩;obtain⟨m,rfl⟩:=gv m 2;have main:∃ v,aL aO S (m+1+1) d ah aJ aa id 236 [.cR (eD L) (eL mw L),c.v,.agg q.c]=some (.r,v,aa)/\v=.bool (cO p c.l q):=by
  refine ZK (i:=i236) (hS _ _ M M M M) rfl rfl (bP rfl) fun t af=>?_;simp[V2,Xb,i236,Pt.c,zf]at af;generalize(fun l=>if l=d then aJ else ah l:bq)=bH
  suffices jc:∀ K:eU,(∀ t' O (b:Bool),b=cO p c.l q->aN 18 t' [(6,.bool b)]->K .ret ⟨t',O⟩)->Ex (aL aO S (m+1)) (d+1) bH (m+1) i236.body K ⟨t,[]⟩from jc _ fun t' O b hb ht=>by simp[za,zb]at ht;rw[y3];refine⟨.bool b,.bool b,?_,rfl,by grind⟩;simp[i236,V0,seval,ht]
  intro K fin;obtain⟨on',tI,J',⟨hE1,hE2⟩,hc⟩:=Ku (D:=d+1) (ah:=bH) hS p h0 (m:=m+1) c hcd L hL B hB Z q hq [.free];have hin:cO p c.l q=(!on'&&tI):=by unfold cO;grind
  cases tI
  .simp only[i236,V0,seval,af,hc];exact fin _ _ false (by grind) bS
  .simp only[i236,V0,seval,af,hc];exact fin _ _ (!on') (by grind) bS
 grind
def tQ(p:Pn)(A:List jl)(q:Pt):Nat:=(1+iq (fun i=>cO p (((A[i+1]?).map fun a=>a.oc.l).getD []) q) (fun i=>((A[i+1]?).map jl.tw).getD 0) (A.length-1)).toNat
theorem PN{p:Pn}{A:List jl}(h:A≠[]):tQ p A q<A.length:=by have h1:=zad (ins:=fun i=>cO p (((A[i+1]?).map fun a=>a.oc.l).getD []) q) (tw:=fun i=>((A[i+1]?).map jl.tw).getD 0) (A.length-1);have h2:0<A.length:=MH.2 h;unfold tQ;omega
theorem Lv(hS:bk S)(p:Pn)(hg:aX p)(U:List (aR 1 aK))(hUd:∀ c∈U,∀ z∈c.l,z∈aZ p)(L:List (Int×aR 2 Pt.c))(hL:sY p L)(q:Pt)(hq:q.near):∃ N,∀(A:List jl) m,N+A.length<=m->A≠[]->A.length<=1000000->(∀ a∈A,a.oc∈U)->∀ D ah aJ aa id b,aJ[b]?=some (aH (A.flatMap iT)) ->
  aL aO S m D ah aJ aa id 191 [.cR (eD L) (eL mw L),.slM D b 0 A.length A.length 4 false,.agg q.c]=some (.r,aB (tQ p A q:Nat),aa):=by
 have sE:∀ c∈U,∃ N,∀ m,N<=m->∀ d ah aJ aa id,aL aO S m d ah aJ aa id 236 [.cR (eD L) (eL mw L),c.v,.agg q.c]=some (.r,.bool (cO p c.l q),aa):=fun c hc=>by exact LA hS p hg c (hUd c hc) L hL q hq
 let⟨N,hN⟩:=ED U sE
 refine⟨N+10,fun A m hm hA0 hAl hAU d ah aJ aa id b hb=>?_⟩
 obtain⟨m,rfl⟩:=gv m 2
 have hA1:1<=A.length:=by grind
 have main:∃ v,aL aO S (m+1+1) d ah aJ aa id 191 [.cR (eD L) (eL mw L),.slM d b 0 A.length A.length 4 false,.agg q.c]=some (.r,v,aa)/\v=aB (tQ p A q:Nat):=by
  refine ZK (i:=i191) (hS _ _ M M M M) rfl rfl (bP rfl) fun t af=>?_;simp[V2,Xb,i191,Pt.c,zf]at af;have EK:(fun l=>if l=d then aJ else ah l:bq) d=aJ:=bU rfl
  generalize(fun l=>if l=d then aJ else ah l:bq)=bH at EK
  suffices jc:∀ K:eU,(∀ t' O,aN 42 t' [(6,iv (tQ p A q:Nat))]->K .ret ⟨t',O⟩)->Ex (aL aO S (m+1)) (d+1) bH (m+1) i191.body K ⟨t,[]⟩from jc _ fun t' O ht=>by simp[za,zb]at ht;rw[y3];refine⟨iv (tQ p A q:Nat),iv (tQ p A q:Nat),?_,rfl,rfl⟩;simp[i191,V0,seval,ht]
  intro K fin;generalize hins:(fun i=>cO p (((A[i+1]?).map fun a=>a.oc.l).getD []) q)=ins;generalize agf:(fun i=>((A[i+1]?).map jl.tw).getD 0)=Ht;have R3:tQ p A q=(1+iq ins Ht (A.length-1)).toNat:=by rw[←hins,←agf];rfl
  have e1:(d=d+1)=False:=eq_false Z;have e2:(d<d+1)=True:=eq_true Z;simp[i191,V0,seval,af];refine zn (fun jj st=>∃(i best:Nat)(J:aS),A.length-i<=jj/\1<=i/\i<=A.length/\(best:Int)=1+iq ins Ht (i-1)/\st.aa=aH [aB q.x,aB q.y]::J/\aN 42 st.t [(0,.cR (eD L) (eL mw L)),(1,.slM d b 0 A.length A.length 4 false),(5,.ptrM (d+1) 0 0),(7,iv best),(8,iv i)]) A.length Z ⟨1,0,[],Z,Z,Z,by rfl,rfl,by simp[V0,seval,af,cZ,Sh]⟩ ?_;clear af;rintro jj ⟨t,aa⟩ KA ⟨i,best,J,hjj,hi1,hi,hbx,rfl,af⟩ bp bK bQ;simp[za,zb,zf]at af;have ahq:=zad (ins:=ins) (tw:=Ht) (i-1);have Wr:best<A.length:=Z;by_cases h:i<A.length
  .have hx:A[i]?=some A[i]:=dw h;have hc:=hN _ (hAU _ (gQ h)) (m+1) Z;generalize A[i]=x at hx hc;obtain⟨y,hx2⟩:=fc (l:=A) (i:=best) Wr;have hstep:iq ins Ht (i-1+1)=if (cO p x.oc.l q&&(((best:Int)==0)||decide (x.tw<y.tw)))=true then((i-1:Nat):Int)else iq ins Ht (i-1):=by
    have g1:ins (i-1)=cO p x.oc.l q:=by grind
    have g2:Ht (i-1)=x.tw:=by grind
    show(if (ins (i-1)&&(decide (iq ins Ht (i-1)<0)||decide (Ht (i-1)<Ht (iq ins Ht (i-1)).toNat)))=true then((i-1:Nat):Int)else iq ins Ht (i-1))=_
    grind
   have hsame:cO p x.oc.l q=false∨(((best:Int)==0)=false/\decide (x.tw<y.tw)=false)->(best:Int)=1+iq ins Ht (i+1-1):=fun hh=>by grind
   have O9:cO p x.oc.l q=true->(((best:Int)==0)=true∨decide (x.tw<y.tw)=true)->(i:Int)=1+iq ins Ht (i+1-1):=fun h1 h2=>by grind
   simp[Pt.c,zf]at hc;have r0:bB (A.flatMap iT) (i*4) 1=some [aB x.tw]:=(zd yg 0 1 hx Z).trans rfl;have r1:bB (A.flatMap iT) (i*4+1) 1=some [x.oc.v]:=(zd yg 1 1 hx Z).trans rfl;have r2:bB (A.flatMap iT) (best*4) 1=some [aB y.tw]:=(zd yg 0 1 hx2 Z).trans rfl;have i1:∀ aa,cu aa 4 (.slM d b 0 A.length A.length 4 false) (aB (i:Int))=some (.p,.ptrM d b (i*4),aa):=fun aa=>by have:=zo (aa:=aa) (l:=d) (b:=b) (off:=0) (cap:=A.length) (z:=4) (z':=4) (tight:=false) (k:=.i64) h;grind
   have i2:∀ aa,cu aa 4 (.slM d b 0 A.length A.length 4 false) (aB (best:Int))=some (.p,.ptrM d b (best*4),aa):=fun aa=>by have:=zo (aa:=aa) (l:=d) (b:=b) (off:=0) (cap:=A.length) (z:=4) (z':=4) (tight:=false) (k:=.i64) Wr;grind
   have hw:=zt i;have hnext:∀ t' O (JA:Nat),(JA:Int)=1+iq ins Ht (i+1-1)->aN 42 t' [(0,.cR (eD L) (eL mw L)),(1,.slM d b 0 A.length A.length 4 false),(5,.ptrM (d+1) 0 0),(7,iv JA),(8,iv (i+1:Nat))]->KA .normal ⟨t',aH [aB q.x,aB q.y]::O⟩:=fun t' O JA hb' ht=>bp _ (A.length-(i+1)) Z ⟨i+1,JA,O,Z,Z,Z,hb',rfl,ht⟩;cases h0:((best:Int)==0)
   .cases ht:decide (x.tw<y.tw)
    .simp only[V0,seval,af,h,i1,i2,r0,r2,e1,e2,EK,hb,h0,ht,hw];exact hnext _ _ best (hsame (.inr ⟨h0,ht⟩)) bS
    .cases qT:cO p x.oc.l q
     .rw[qT]at hc;simp only[V0,seval,af,h,i1,i2,r0,r1,r2,e1,e2,EK,hb,hc,h0,ht,hw];exact hnext _ _ best (hsame (.inl qT)) bS
     .rw[qT]at hc;simp only[V0,seval,af,h,i1,i2,r0,r1,r2,e1,e2,EK,hb,hc,h0,ht,hw];exact hnext _ _ i (O9 qT (.inr ht)) bS
   .cases qT:cO p x.oc.l q
    .rw[qT]at hc;simp only[V0,seval,af,h,i1,r1,e1,e2,EK,hb,hc,h0,hw];exact hnext _ _ best (hsame (.inl qT)) bS
    .rw[qT]at hc;simp only[V0,seval,af,h,i1,r1,e1,e2,EK,hb,hc,h0,hw];exact hnext _ _ i (O9 qT (.inl h0)) bS
  .simp[V0,seval,af,h];refine bK _ _ ?_;simp[V0,seval,af];have hie:i=A.length:=Z;have hbf:best=tQ p A q:=by grind
   exact fin _ _ bS
 grind
end
end Go.Proofs.YtjibdelmjcenhaaGreatDoor
end
