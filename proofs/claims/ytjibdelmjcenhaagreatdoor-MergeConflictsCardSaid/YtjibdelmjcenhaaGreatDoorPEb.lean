/-
  A part of the proof: the small machine, its simulation and its walks.
-/
import Derived.Orders
import Derived.LoopN
import Derived.Sort.AssemblyPlain
import Derived.Shelf.SlSortCmp.Insertion
import Derived.Shelf.SlSortCmp.WholeK
import Derived.Shelf.SlSortCmp.NoneTotal
import Derived.Shelf.Slices.In.SortNone
import Derived.Shelf.Sort.Plain
import Derived.Deep.Slices
import Derived.Carry
import Derived.ProofKit
import Derived.Test.YtjibdelmjcenhaaGreatDoorProg
import Derived.Test.YtjibdelmjcenhaaGreatDoorPEa
set_option linter.unusedVariables false
set_option linter.unusedSimpArgs false
set_option linter.unusedSectionVars false
set_option linter.defProp false
set_option maxRecDepth 1000000
set_option maxHeartbeats 3200000
open Nat renaming reduceLT → Xa, reduceAdd → Xb, reduceMul → Xc, reduceLeDiff → Xd, reduceEqDiff → Xe
namespace Go.Proofs.YtjibdelmjcenhaaGreatDoor
section
open Go Go.RowKit
def Fits(P:Program)(ops:Array Oper)(o:Oper)(r:cg):Prop:=r.dst=o.dst/\(∃ slot,QK P o.op slot=some r.op)/\pG ops o.guard=some r.guard
variable {B d i j k n n0:Nat}{C:Call}{P:Program}{Q:Exit->Act->World->Prop}{ah:bq}{b:Array Nat}{listed:Array Bool}{ops:Array Oper}
section
variable {W0:World} 
theorem zer:∀{L:List Oper}{s s':Nat}{l:List cg},L4 P ops L s=some (l,s')->l.length=L.length/\∀(i:Nat)(o:Oper),L[i]?=some o->∃ r,l[i]?=some r/\Fits P ops o r
 |[],s,s',l,h=>by simp only[L4,iw,vT]at h;grind
 |o::rest,s,s',l,h=>by
  simp[L4]at h;split at h
  .rename_i op g h1 h2;split at h
   .rename_i l2 s2 h3;cases h;let⟨q1,q2⟩:=zer h3;refine⟨by grind,fun i o' hi=>?_⟩;cases i with
    |zero =>
     simp[rH,iw]at hi
     subst hi
     exact⟨_,rfl,rfl,⟨s,h1⟩,h2⟩
    |succ i =>
     grind
   grind
  grind
theorem Hx(hC:l6 P B W0 C):∀(L:List Oper)(l:List cg)(k:Nat)(st st':St)(es:List dI)(a:Act)(W:World)(I:Pl),(∀ j,L[j]?=ops[k+j]?)->l.length=L.length->(∀(i:Nat)(o:Oper),L[i]?=some o->∃ r,l[i]?=some r/\Fits P ops o r) ->
  kQ C d ah false n0 l st=some (es,st')->nX B W0 I W->TR I W st.t a.tmps->RS I (look d ah st.aa) W ->
  (∀(β':Pl)(W':World)(a':Act),TR β' W' st'.t a'.tmps->RS β' (look d ah st'.aa) W'->Fr d I W β' W'->a'.defers=a.defers->Q .normal a' W')->wpOps P ops Q (List.range' k L.length) a W
 |[],l,k,st,st',es,a,W,I,hL,hl,hf,hs,hb,ht,hR,hQ=>by
  have:l=[]:=by grind
  subst this;obtain⟨_,rfl⟩:=hs;exact hQ I W a ht hR (Fr.refl _ _ _) rfl
 |o::L,l,k,st,st',es,a,W,I,hL,hl,hf,hs,hb,ht,hR,hQ=>by
  cases l with
  |nil=>grind
  |cons r l =>
   let⟨r',hr,hfit⟩:=hf 0 o rfl
   simp[rH,iw]at hr
   subst hr
   let⟨h1,⟨slot,h2⟩,h3⟩:=hfit
   simp[kQ]at hs
   split at hs
   .rename_i e st1 he
    split at hs
    .rename_i P7 st2 hr2
     cases hs
     refine VS hC hb (by simpa using(hL 0).symm) h1 h2 h3 ht hR he fun β1 W1 a1 g1 g2 g3 g4=>?_
     refine Hx hC L l (k+1) st1 st' P7 a1 W1 β1 (fun j=>?_) (by grind) (fun i o' hi=>?_) hr2 (hb.fr g3) g1 g2 (fun β2 W2 a2 k1 k2 k3 k4=>hQ β2 W2 a2 k1 k2 (g3.trans k3) (k4.trans g4))
     .have:=hL (j+1)
      grind
     .let⟨r2,q1,q2⟩:=hf (i+1) o' (by grind)
      grind
    grind
   grind
theorem DW{o:Oper}(h:(mm b o).testBit j=true):∃ e∈o.after,Region.binds .any e=true/\(e.on=j∨(b.getD e.on 0).testBit j=true):=by
 have key:∀(l:List Edge)(s:Nat),(l.foldl (fun s e=>if Region.binds .any e then s ||| 2 ^ e.on ||| b.getD e.on 0 else s) s).testBit j=true->s.testBit j=true∨∃ e∈l,Region.binds .any e=true/\(e.on=j∨(b.getD e.on 0).testBit j=true):=by
  intro l;induction l with
  |nil=>grind
  |cons e l ih =>
   grind
 unfold mm at h;rw[←Array.foldl_toList]at h;grind
structure WV(P:Program)(ops:Array Oper)(b:Array Nat)(l:List cg)(es:List dI):Prop where
 len:l.length=ops.size
 fit:∀(i:Nat)(o:Oper),ops[i]?=some o->∃ r,l[i]?=some r/\Fits P ops o r
 loose:∀(j i:Nat)(oj oi:cg)(ej ei:dI),j<i->(b.getD i 0).testBit j=false->l[j]?=some oj->l[i]?=some oi->es[j]?=some ej->es[i]?=some ei->vR oj oi/\comm ej ei=true
 back:∀(i:Nat)(o:Oper),ops[i]?=some o->∀ e∈o.after,Region.binds .any e=true->e.on<i
 bit:∀(i:Nat)(o:Oper),ops[i]?=some o->b.getD i 0=mm b o
def rest(n:Nat)(listed:Array Bool):List Nat:=(List.range n).filter fun i=>!listed.getD i true
theorem yY:i∈rest n listed↔i<n/\listed.getD i true=false:=by unfold rest;simp
theorem Di{z:Bool}(hi:i<listed.size):(listed.setIfInBounds i true).getD k z=if k=i then true else listed.getD k z:=by
 by_cases hk:k=i
 .simp_all
 .rw[b9 hk];simp[Array.getD_eq_getD_getElem?];grind
theorem NV(hi:i<listed.size):rest n (listed.setIfInBounds i true)=(rest n listed).filter fun k=>k != i:=by unfold rest;rw[List.filter_filter];congr 1;funext k;rw[Di hi];grind
theorem Fm(h:i∈rest n listed):∃ pre post,rest n listed=pre++i::post/\(∀ j∈pre,j<i)/\((rest n listed).filter fun k=>k != i)=pre++post:=by
 let⟨pre,post,hp⟩:=List.append_of_mem h;have hs:(rest n listed).Pairwise (·<·):=List.Pairwise.filter _ List.pairwise_lt_range;rw[hp]at hs;rw[zks]at hs;let⟨h1,h2,h3⟩:=hs;rw[vV]at h2;have g1:pre.filter (fun k=>k != i)=pre:=zm6.2 fun j hj=>by grind
 have g2:post.filter (fun k=>k != i)=post:=zm6.2 fun j hj=>by grind
 grind
theorem Ro(hC:l6 P B W0 C)(hE:qX C){b:Array Nat}{l:List cg}{es:List dI}(ok:WV P ops b l es):∀(fuel:Nat)(listed:Array Bool)(st st':St)(a:Act)(W:World)(I:Pl),listed.size=ops.size->(rest ops.size listed).length=fuel ->
  (∀(i j:Nat),listed.getD i false=true->(b.getD i 0).testBit j=true->listed.getD j false=true)->tW C d ah n0 l es (rest ops.size listed) st st'->nX B W0 I W->TR I W st.t a.tmps->RS I (look d ah st.aa) W ->
  (∀(β':Pl)(W':World)(a':Act),TR β' W' st'.t a'.tmps->RS β' (look d ah st'.aa) W'->Fr d I W β' W'->a'.defers=a.defers->Q .normal a' W')->wpAny P .any ops Q fuel listed a W
 |0,listed,st,st',a,W,I,hsz,hfu,jM,hr,hb,ht,hR,hQ=>by
  rw[(uc.1 hfu)]at hr;cases hr;refine⟨?_,hQ I W a ht hR (Fr.refl _ _ _) rfl⟩;unfold Region.ready;rw[zmj];intro i hi;have h1:i ∉ rest ops.size listed:=by grind
  rw[yY]at h1;grind
 |fuel+1,listed,st,st',a,W,I,hsz,hfu,jM,hr,hb,ht,hR,hQ=>by
  constructor
  .intro hnil;cases hre:rest ops.size listed with
   |nil=>grind
   |cons i is =>
    have hi:i∈rest ops.size listed:=by grind
    have au:∀ j,j<i->listed.getD j false=true:=by
     intro j hj;have h1:i<ops.size:=(yY.1 hi).1;have hs:(rest ops.size listed).Pairwise (·<·):=List.Pairwise.filter _ List.pairwise_lt_range;rw[hre,vV]at hs;have h2:j ∉ rest ops.size listed:=by grind
     rw[yY]at h2;grind
    have h1:i∈Region.ready .any ops listed:=by
     unfold Region.ready;rw[EP];refine⟨vU.2 (yY.1 hi).1,?_⟩;rw[(yY.1 hi).2,zkb (yY.1 hi).1];simp only[iJ,MF,Hg,rF,zk9,vX,ET];intro e he;cases hb:Region.binds .any e
     .simp
     .exact .inr (au _ (ok.back i _ (zkb (yY.1 hi).1) e he hb))
    grind
  .intro i hi;unfold Region.ready at hi;rw[EP]at hi;let⟨hi1,hi2⟩:=hi;rw[vU]at hi1;rw[kE]at hi2;let⟨hi2,hi3⟩:=hi2;have Wm:ops[i]?=some ops[i]:=zkb hi1;rw[Wm]at hi3;simp only[iJ,MF,zk9,vX,ET]at hi3;have adb:∀ j,(b.getD i 0).testBit j=true->listed.getD j false=true:=by intro j hj;rw[ok.bit i _ Wm]at hj;let⟨e,he,hbd,hh⟩:=DW hj;grind
   let⟨pre,post,hsp,au,ag5⟩:=Fm (yY.2 ⟨hi1,by grind⟩:i∈rest ops.size listed);rw[hsp]at hr;have af:=tW.front hE (fun j hj oj oi ej ei h1 h2 h3 h4=>ok.loose j i oj oi ej ei (au j hj) (by
    cases hb:(b.getD i 0).testBit j
    .rfl
    .have h5:=adb j hb;have h6:j∈rest ops.size listed:=by grind
     rw[yY]at h6;grind) h1 h2 h3 h4) hr
   cases af with
   |cons ho he hs hr2 =>
    rename_i r e st1
    let⟨r',hr',g1,⟨slot,g2⟩,g3⟩:=ok.fit i _ Wm
    rw[ho]at hr'
    cases hr'
    have hil:i<listed.size:=Z
    refine VS hC hb Wm g1 g2 g3 ht hR hs fun β1 W1 a1 k1 k2 k3 k4=>?_
    have We:rest ops.size (listed.setIfInBounds i true)=pre++post:=by rw[NV hil,ag5]
    refine Ro hC hE ok fuel _ st1 st' a1 W1 β1 (by grind) ?_ ?_ (by grind) (hb.fr k3) k1 k2 (fun β2 W2 a2 q1 q2 q3 q4=>hQ β2 W2 a2 q1 q2 (k3.trans q3) (q4.trans k4))
    .grind
    .intro i' j' h1 h2
     rw[Di hil]at h1 ⊢
     grind
theorem zc5{l:List cg}{es:List dI}:∀{l':List cg}{es':List dI}{k:Nat}{st st':St},(∀ j,l'[j]?=l[k+j]?)->(∀ j,es'[j]?=es[k+j]?)->kQ C d ah true n0 l' st=some (es',st')->tW C d ah n0 l es (List.range' k l'.length) st st'
 |[],es',k,st,st',hl,he,h=>by obtain⟨rfl,rfl⟩:=h;exact .nil _
 |r::l',es',k,st,st',hl,he,h=>by
  simp[kQ]at h;split at h
  .rename_i e st1 h1;split at h
   .rename_i P7 st2 h2;cases h;refine .cons (by simpa using(hl 0).symm) (by simpa using(he 0).symm) h1 (zc5 (fun j=>?_) (fun j=>?_) h2)
    .have:=hl (j+1);grind
    .have:=he (j+1);grind
   grind
  grind
end
variable {I β1:Pl}{W:World}{a:Act}{l:List cg}{r:cg}{s:Nat}{st':St}
section
variable {W0:World} 
theorem zes{x y:cg}(h1:AX x y=true)(h2:qt x y=true):vR x y:=by
 unfold qt at h2;rw[kE]at h2;refine⟨h1,fun s hs=>?_,fun s hs=>?_,fun s hs=>?_⟩
 .grind
 .grind
 grind
theorem K5(h:j<i)(hi:i<n):(j,i)∈pairs n:=by unfold pairs;rw[oQ];exact⟨i,vU.2 hi,kO.2 ⟨j,vU.2 h,rfl⟩⟩
theorem Bp(h:l[i]?=some r):∃ v,(iV b l)[i]?=some { r with vis:=v }:=by unfold iV;simp_all
theorem zet{drawn:Bool}:∀{l:List cg}{es:List dI}{st st':St},kQ C d ah drawn n0 l st=some (es,st')->∀(i:Nat)(r:cg)(e:dI),l[i]?=some r->es[i]?=some e->∃ s1 s2,gW C d ah drawn n0 r s1=some (e,s2)
 |[],es,st,st',h,i,r,e,h1,h2=>by grind
 |q::l,es,st,st',h,i,r,e,h1,h2=>by
  simp[kQ]at h;split at h
  .rename_i e1 st1 g1;split at h
   .rename_i P7 st2 g2;cases h;cases i with
    |zero =>
     grind
    |succ i =>
     exact zet g2 i r e h1 h2
   grind
  grind
theorem H7{drawn:Bool}{e:dI}{s1 s2:St}(hq:r.op.quiet=true)(h:gW C d ah drawn n0 r s1=some (e,s2)):e=.p:=by rw[za8]at h;let⟨⟨e1,v1,o1⟩,g1,k1⟩:=map_some h;cases k1;exact PS hq g1
theorem UC{e:dI}:comm e .p=true:=by cases e<;>rfl
theorem ab8{l0:List cg}{es:List dI}{st:St}{drawn:Bool}(hc:L4 P ops ops.toList 0=some (l0,s))(hok:rR ops b (iV b l0)=true)(hr:kQ C d ah drawn n0 (iV b l0) st=some (es,st'))
  (o8:((rZ b (iV b l0).length).filter (aci (iV b l0))).all (fun(j,i)=>comm (es.getD j .x) (es.getD i .x))=true):WV P ops b (iV b l0) es:=by
 let⟨hl,hf⟩:=zer hc
 have hwl:(iV b l0).length=l0.length:=by simp[iV]
 unfold rR at hok
 rw[kE,nu,nu]at hok
 let⟨k1,k2⟩:=hok
 have k2':∀(i:Nat)(o:Oper),ops[i]?=some o->(o.after.all (fun e=>!Region.binds .any e||decide (e.on<i))&&b.getD i 0==mm b o)=true:=fun i o ho=>by have:=k2 (o,i) (zlp.2 (by grind));grind
 refine⟨by grind,fun i o ho=>?_,fun j i oj oi ej ei au hb hj hi Wq hei=>?_,fun i o ho e he hbd=>?_,fun i o ho=>?_⟩
 .let⟨r,h1,h2⟩:=hf i o (by grind)
  obtain⟨v,hv⟩:=Bp h1
  exact⟨_,hv,h2⟩
 .have hm:(j,i)∈rZ b (iV b l0).length:=by unfold rZ;rw[EP];exact⟨K5 au (ew.1 hi).1,by grind⟩
  have h1:=k1 _ hm
  simp[hj,hi,kE]at h1
  refine⟨zes h1.1 h1.2,?_⟩
  by_cases hq1:oj.op.quiet=true
  .let⟨s1,s2,hs⟩:=zet hr j oj ej hj Wq
   rw[H7 hq1 hs]
   rfl
  by_cases lQ:oi.op.quiet=true
  .let⟨s1,s2,hs⟩:=zet hr i oi ei hi hei
   rw[H7 lQ hs]
   exact UC
  rw[nu]at o8
  have h2:=o8 (j,i) (EP.2 ⟨hm,by simp only[aci,hj,hi];grind⟩)
  grind
 .have:=k2' i o ho
  rw[kE]at this
  have h3:=zk9.1 this.1 e he
  grind
 grind
def Gb:Out->Exit
 |.normal=>.normal
 |.exit id=>.exit id
 |.ret=>.ret
def Ends(d:Nat)(ah:bq)(I:Pl)(W:World)(a:Act)(Q:Exit->Act->World->Prop)(o:Out)(st':St):Prop:=∀(β':Pl)(W':World)(a':Act),TR β' W' st'.t a'.tmps->RS β' (look d ah st'.aa) W'->Fr d I W β' W'->a'.defers=a.defers->Q (Gb o) a' W'
def Ends.step{W1:World}{a1:Act}{o:Out}(h:Ends d ah I W a Q o st')(h1:Fr d I W β1 W1)(h2:a1.defers=a.defers):Ends d ah β1 W1 a1 Q o st' :=
 fun β' W' a' g1 g2 g3 g4=>h β' W' a' g1 g2 (h1.trans g3) (g4.trans h2)
theorem Fq(hC:l6 P B W0 C)(hE:qX C)(hm:P.follows .mixedOrders=true){id:Nat}{drawn dr:Bool}{fr:List (Nat×Nat)}{st:St}{o:Out}
  (hc:p8 P ops drawn=some (.region dr s l fr)) (hx:mH C d ah dr s l fr st=some (o,st')) (hb:nX B W0 I W) (ht:TR I W st.t a.tmps) (hR:RS I (look d ah st.aa) W) (hQ:Ends d ah I W a Q o st'):(Code.region id ops drawn).wp P Q a W:=by
 unfold p8 at hc
 split at hc
 .grind
 rename_i l0 s0 hco
 unfold mH at hx
 split at hx
 .rename_i es st1 hrun
  rw[zi]at hrun
  cases drawn
  .simp only[nv,if_false,iw,IC.region.injEq]at hc
   let⟨rfl,rfl,rfl,rfl⟩:=hc
   cases hx
   let⟨hl,hf⟩:=zer hco
   refine wp_region ?_
   have:=Hx (Q:=Q) hC ops.toList l0 0 _ st' es a W I (fun j=>by simp) hl hf hrun hb ht (hR.more s0) hQ
   rw[zmx]
   omega
  .simp[if_true]at hc
   unfold Gj at hc
   split at hc
   .rename_i hok
    simp only[iw,IC.region.injEq]at hc
    let⟨rfl,rfl,rfl,rfl⟩:=hc
    split at hx
    .rename_i o8
     cases hx
     have ok:=ab8 hco hok hrun o8
     refine wp_region_any hm ?_
     have af:Fr d I W I { W with drawn:=W.drawn+1 }:=xct
     have We:rest ops.size (Array.replicate ops.size false)=List.range ops.size:=by unfold rest;simp_all
     refine Ro (n0:=st.aa.length) (st:=⟨st.t,st.aa++List.replicate s0 .free⟩) (st':=st') (I:=I) hC hE ok ops.size _ a _ M (by grind) ?_ ?_ (hb.fr af) (ht.ext af.ext) ((hR.more s0).same (W':={ W with drawn:=W.drawn+1 }) rfl) (hQ.step af rfl)
     .intro i j h1
      simp only[Array.getD]at h1
      simp_all
     .rw[We,←ok.len,zmx]
      exact zc5 (fun j=>by simp) (fun j=>by simp) hrun
    grind
   grind
 grind
theorem AE{drawn:Bool}{ic:IC}(h:p8 P ops drawn=some ic):∃ dr s l fr,ic=.region dr s l fr:=by
 unfold p8 at h;split at h
 .grind
 .split at h
  .unfold Gj at h;grind
  grind
theorem zeu(hC:l6 P B W0 C)(hE:qX C)(hm:P.follows .mixedOrders=true):∀(c:Code){ic:IC}{st st':St}{o:Out}{I:Pl}{W:World}{a:Act}{Q:Exit->Act->World->Prop},
  kC P c=some ic->exec C d ah n ic st=some (o,st')->nX B W0 I W->TR I W st.t a.tmps->RS I (look d ah st.aa) W->Ends d ah I W a Q o st'->c.wp P Q a W:=by
 intro c
 induction c with
 |skip =>
  intro ic st st' o I W a Q hc hx hb ht hR hQ
  simp[kC,iw]at hc
  subst hc
  obtain⟨rfl,rfl⟩:=hx
  exact wp_skip (hQ I W a ht hR (Fr.refl _ _ _) rfl)
 |ret =>
  intro ic st st' o I W a Q hc hx hb ht hR hQ
  simp[kC,iw]at hc
  subst hc
  obtain⟨rfl,rfl⟩:=hx
  exact wp_ret (hQ I W a ht hR (Fr.refl _ _ _) rfl)
 |exit id =>
  intro ic st st' o I W a Q hc hx hb ht hR hQ
  simp[kC,iw]at hc
  subst hc
  obtain⟨rfl,rfl⟩:=hx
  exact wp_exit (hQ I W a ht hR (Fr.refl _ _ _) rfl)
 |region id ops draw =>
  intro ic st st' o I W a Q hc hx hb ht hR hQ
  obtain⟨dr,s,l,fr,rfl⟩:=AE hc
  exact Fq hC hE hm hc hx hb ht hR hQ
 |seq x y ih1 ih2 =>
  intro ic st st' o I W a Q hc hx hb ht hR hQ
  simp[kC]at hc
  split at hc
  .rename_i i1 i2 h1 h2
   cases hc
   simp[exec]at hx
   unfold Ks at hx
   refine wp_seq ?_
   split at hx
   .rename_i st1 he
    refine ih1 h1 he hb ht hR fun β1 W1 a1 g1 g2 g3 g4=>?_
    exact ih2 h2 hx (hb.fr g3) g1 g2 (hQ.step g3 g4)
   .rename_i hne
    refine ih1 h1 hx hb ht hR fun β1 W1 a1 g1 g2 g3 g4=>?_
    exact xce
  grind
 |cond c x y ih1 ih2 =>
  intro ic st st' o I W a Q hc hx hb ht hR hQ
  simp[kC]at hc
  split at hc
  .rename_i z i1 i2 h0 h1 h2
   cases hc
   simp[exec]at hx
   unfold Qx at hx
   have hv:=ht.eval h0
   split at hx
   .rename_i hz
    rw[hz]at hv
    generalize hev:a.eval c=u at hv
    cases hv
    exact wp_cond_true hev (ih1 h1 hx hb ht hR hQ)
   .rename_i hz
    rw[hz]at hv
    generalize hev:a.eval c=u at hv
    cases hv
    exact wp_cond_false hev (ih2 h2 hx hb ht hR hQ)
   grind
  grind
 |block id x ih =>
  intro ic st st' o I W a Q hc hx hb ht hR hQ
  simp only[kC]at hc
  obtain⟨i1,h1,rfl⟩:=map_some hc
  simp[exec]at hx
  unfold pH at hx
  refine wp_block ?_
  split at hx
  .rename_i j st1 he
   split at hx
   .rename_i hj
    cases hx
    refine ih h1 he hb ht hR fun β1 W1 a1 g1 g2 g3 g4=>?_
    simp[Gb,Exit.inBlock,bU hj]
    exact hQ β1 W1 a1 g1 g2 g3 g4
   .rename_i hj
    cases hx
    refine ih h1 he hb ht hR fun β1 W1 a1 g1 g2 g3 g4=>?_
    simp[Gb,Exit.inBlock,b9 hj]
    exact hQ β1 W1 a1 g1 g2 g3 g4
  .rename_i hne
   refine ih h1 hx hb ht hR fun β1 W1 a1 g1 g2 g3 g4=>?_
   have:=hQ β1 W1 a1 g1 g2 g3 g4
   cases o with
   |normal=>exact this
   |exit id=>grind
   |ret=>exact this
 |loop x ih =>
  intro ic st st' o I W a Q hc hx hb ht hR hQ
  simp only[kC]at hc
  obtain⟨i1,h1,rfl⟩:=map_some hc
  simp[exec]at hx
  refine wp_loop_rounds n ?_
  have key:∀(m:Nat)(st st':St)(o:Out)(I:Pl)(W:World)(a:Act),iter (exec C d ah n i1) m st=some (o,st')->nX B W0 I W->TR I W st.t a.tmps->RS I (look d ah st.aa) W->Ends d ah I W a Q o st'->Code.rounds P x Q m a W:=by
   intro m;induction m with
   |zero=>intro st st' o I W a hx;simp[iter]at hx
   |succ m ihm =>
    intro st st' o I W a hx hb ht hR hQ
    rw[rounds_succ]
    simp[iter]at hx
    split at hx
    .rename_i st1 he
     exact ih h1 he hb ht hR fun β1 W1 a1 g1 g2 g3 g4=>ihm _ _ _ _ _ _ hx (hb.fr g3) g1 g2 (hQ.step g3 g4)
    .rename_i hne
     refine ih h1 hx hb ht hR fun β1 W1 a1 g1 g2 g3 g4=>?_
     exact xce
  grind
 |_=>intro ic st st' o I W a Q hc;simp[kC]at hc
end
theorem zL{H I:Type}{f:H->Option I}:∀{l:List H}{l':List I},l.mapM f=some l'->l'.length=l.length/\(∀(j:Nat)(y:I),l'[j]?=some y->∃ x,l[j]?=some x/\f x=some y)
 |[],l',h=>by grind
 |x::l,l',h=>by
  rw[mq]at h;cases hx:f x with
  |none=>grind
  |some y =>
   rw[hx]at h
   cases hl:l.mapM f with
   |none=>grind
   |some l2 =>
    let⟨h1,h2⟩:=zL hl
    grind
variable {aU:aS}{lv:Nat}
section
variable {β':Pl} 
theorem xl{c:List IV}(h:OR I W k s (.cells c))(j:Nat)(z:IV)(hz:c[j]?=some z):∃ y,W.cell? ⟨k,s+j,none⟩=some y/\VR I W z y:=by let⟨c',t,hh,hc⟩:=h;simp[World.cell?,hh,JX,nv,if_false];grind
theorem yn(H1:∀ l i p,l≠lv->β1 l i=some p->β' l i=some p)(H2:∀ k,jZ β1 W k->jZ β' W k)(H3:∀ i k s o,β1 lv i=some (k,s)->aU[i]?=some o->o.live=true->jZ β' W k/\OR β1 W k s o) :
  ∀(n:Nat)(v v':IV)(x:Value),VR β1 W v x->freeze n lv aU v=some v'->VR β' W v' x
 |0,v,v',x,h,hf=>by simp[freeze]at hf
 |n+1,v,v',x,h,hf=>by
  have vrs:∀{xs xs':List IV}{ys:List Value},dx β1 W xs ys->xs.mapM (freeze n lv aU)=some xs'->dx β' W xs' ys:=fun{xs xs' ys} hv hm=>by let⟨h1,h2⟩:=zL hm;refine⟨h1.trans hv.1,fun j a b ha hb=>?_⟩;let⟨a0,ha0,Ll⟩:=h2 j a ha;exact yn H1 H2 H3 n a0 a b (hv.2 j a0 b ha0 hb) Ll
  have cells:∀{cs cs':List IV}{k s:Nat},(∀(j:Nat)(z:IV),cs[j]?=some z->∃ y,W.cell? ⟨k,s+j,none⟩=some y/\VR β1 W z y)->cs.mapM (freeze n lv aU)=some cs' ->
    (∀(j:Nat)(z:IV),cs'[j]?=some z->∃ y,W.cell? ⟨k,s+j,none⟩=some y/\VR β' W z y):=fun{cs cs' k s} hc hm j z hz=>by
   let⟨h1,h2⟩:=zL hm
   let⟨z0,hz0,hfz⟩:=h2 j z hz
   let⟨y,hy,hv⟩:=hc j z0 hz0
   exact⟨y,hy,yn H1 H2 H3 n z0 z y hv hfz⟩
  cases v with
  |ptrM l i off =>
   obtain⟨k,s,hb,rfl⟩:=uG h
   simp[freeze]at hf
   split at hf
   .rename_i hl
    rw[hl]at hb
    split at hf
    .rename_i c hc
     obtain⟨cs,hcs,rfl⟩:=map_some hf
     let⟨hk,ho⟩:=H3 i k s _ hb hc rfl
     exact zdt hk (cells (xl ho) hcs)
    grind
   .rename_i hl
    cases hf
    exact .ptrM (H1 l i _ hl hb)
  |slM l i off len cap sz tight =>
   obtain⟨k,s,o',cap',hb,ho,mB,iN,Wb,hr,rfl⟩:=Xj h
   simp only[freeze]at hf
   split at hf
   .rename_i hl
    rw[hl]at hb
    split at hf
    .rename_i c hc
     obtain⟨cs,hcs,rfl⟩:=map_some hf
     cases eX:seg c off (len*sz)with
     |none=>grind
     |some sg =>
      rw[eX]at hcs
      let⟨hk,TY⟩:=H3 i k s _ hb hc rfl
      let⟨g1,g2⟩:=ZR eX
      let⟨m1,m2⟩:=zL hcs
      refine Fb (fun _=>hk) (fun j z hz=>?_) (m1.trans g1) (iQ mB iN) (fun ht=>?_)
      .have hne:cap≠0:=by grind
       let⟨z0,hz0,hfz⟩:=m2 j z hz
       let⟨y,hy,hv⟩:=xl TY _ _ (g2 j z0 hz0)
       refine⟨y,?_,yn H1 H2 H3 n z0 z y hv hfz⟩
       grind
      grind
    grind
   .rename_i hl
    cases hf
    exact .slM (H1 l i _ hl hb) ho mB iN Wb hr
  |mapM l i =>
   obtain⟨k,s,hb,rfl⟩:=IE h
   simp[freeze]at hf
   split at hf
   .rename_i hl
    rw[hl]at hb
    split at hf
    .rename_i ks vs bs clock hc
     split at hf
     .rename_i a b ha fE
      cases hf
      let⟨hk,es,hh,n1,n2,n3,he⟩:=H3 i k s _ hb hc rfl
      let⟨a1,a2⟩:=zL ha
      let⟨b1,b2⟩:=zL fE
      have hen:∀(j:Nat),j<a.length->∃ e,es[j]?=some e:=fun j hj=>⟨es[j]'Z,zkb Z⟩
      refine .cR (fun j=>(es[j]?).getD ⟨undef,undef,0⟩) hk hh Z Z (fun j hj=>?_) (fun j z hz=>?_) (fun j z hz=>?_)
      .grind
      .let⟨e,he'⟩:=hen j (ew.1 hz).1
       let⟨z0,hz0,hfz⟩:=a2 j z hz
       simp[he',MF]
       exact yn H1 H2 H3 n z0 z _ ((he j e he').1 z0 hz0) hfz
      .obtain⟨e,he'⟩:=hen j (by grind)
       let⟨z0,hz0,hfz⟩:=b2 j z hz
       simp[he',MF]
       exact yn H1 H2 H3 n z0 z _ ((he j e he').2.1 z0 hz0) hfz
     grind
    grind
   .rename_i hl
    cases hf
    exact .mapM (H1 l i _ hl hb)
  |ptrC cs off =>
   obtain⟨k,s,hk,hc,rfl⟩:=Oe h
   simp only[freeze]at hf
   obtain⟨cs',hcs,rfl⟩:=map_some hf
   exact zdt (H2 k hk) (cells hc hcs)
  |slC cs len sz tight =>
   obtain⟨k,s,cap',ad,hk,hc,hn,hl,ht,F7,rfl⟩:=wk h
   simp only[freeze]at hf
   obtain⟨cs',hcs,rfl⟩:=map_some hf
   exact za2 (fun hne=>H2 k (hk hne)) (cells hc hcs) ((zL hcs).1.trans hn) hl ht F7
  |cR ks vs =>
   simp[freeze]at hf
   split at hf
   .rename_i a b ha fE
    cases hf
    cases h with
    |cR e hk hm hn hn' he hkv RY =>
     let⟨a1,a2⟩:=zL ha
     let⟨b1,b2⟩:=zL fE
     refine .cR e (H2 _ hk) hm Z Z (fun j hj=>he j Z) (fun j z hz=>?_) (fun j z hz=>?_)
     .let⟨z0,hz0,hfz⟩:=a2 j z hz
      exact yn H1 H2 H3 n z0 z _ (hkv j z0 hz0) hfz
     .let⟨z0,hz0,hfz⟩:=b2 j z hz
      exact yn H1 H2 H3 n z0 z _ (RY j z0 hz0) hfz
   grind
  |agg cs =>
   obtain⟨ws,hw,rfl⟩:=Eh h
   simp only[freeze]at hf
   exact xfk
  |tuple cs =>
   obtain⟨ws,hw,rfl⟩:=zeh h
   simp only[freeze]at hf
   obtain⟨cs',hcs,rfl⟩:=map_some hf
   have:=vrs hw hcs
   exact .tuple (by simpa using this.1) (fun j x y hx hy=>this.2 j x y hx (by grind))
  |fn f a b =>
   obtain⟨a',b',ha,hb,rfl⟩:=fnI h
   simp[freeze]at hf
   split at hf
   .rename_i a2 b2 h1 h2
    cases hf
    have ga:=vrs ha h1
    have gb:=vrs hb h2
    exact .fn (by simpa using ga.1) (by simpa using gb.1) (fun j x y hx hy=>ga.2 j x y hx (by grind)) (fun j x y hx hy=>gb.2 j x y hx (by grind))
   grind
  |bool b=>simp[freeze,iw]at hf;subst hf;rw[Z2 h];exact .bool b
  |int k m=>simp[freeze,iw]at hf;subst hf;rw[Yz h];exact .int k m
  |str s=>simp[freeze,iw]at hf;subst hf;rw[MN h];exact .str s
  |bw=>simp[freeze,iw]at hf;subst hf;rw[Yl h];exact .bw
  |nilsl=>simp[freeze,iw]at hf;subst hf;rw[yP h];exact .nilsl
  |dY=>simp[freeze,iw]at hf;subst hf;rw[xy h];exact .dY
  |iX =>
   simp[freeze,iw]at hf;subst hf
   cases h
   exact .iX
end
def fo:Pl:=fun _ _=>none
theorem ZS{lv:Nat}{aU:aS}{I:Pl}{W:World}(H3:∀ i k s o,I lv i=some (k,s)->aU[i]?=some o->o.live=true->k<W.heap.size/\OR I W k s o) :
  ∀(n:Nat)(v v':IV)(x:Value),VR I W v x->bl n lv aU v=some v'->VR fo W v' x
 |0,v,v',x,h,hf=>by simp[bl]at hf
 |n+1,v,v',x,h,hf=>by
  have H2:∀ k,k<W.heap.size->jZ fo W k:=fun k hk=>⟨hk,fun l i s h=>by simp[fo]at h⟩;have vrs:∀{xs xs':List IV}{ys:List Value},dx I W xs ys->xs.mapM (bl n lv aU)=some xs'->dx fo W xs' ys:=fun{xs xs' ys} hv hm=>xbo
  have cells:∀{cs cs':List IV}{k s:Nat},(∀(j:Nat)(z:IV),cs[j]?=some z->∃ y,W.cell? ⟨k,s+j,none⟩=some y/\VR I W z y)->cs.mapM (bl n lv aU)=some cs' ->
    (∀(j:Nat)(z:IV),cs'[j]?=some z->∃ y,W.cell? ⟨k,s+j,none⟩=some y/\VR fo W z y):=fun{cs cs' k s} hc hm j z hz=>by
   let⟨h1,h2⟩:=zL hm
   let⟨z0,hz0,hfz⟩:=h2 j z hz
   let⟨y,hy,hv⟩:=hc j z0 hz0
   exact⟨y,hy,ZS H3 n z0 z y hv hfz⟩
  cases v with
  |slM l i off len cap sz tight =>
   obtain⟨k,s,o',cap',hb,ho,mB,iN,Wb,hr,rfl⟩:=Xj h
   simp only[bl]at hf
   split at hf
   .rename_i hl
    rw[hl]at hb
    split at hf
    .rename_i c hc
     obtain⟨cs,hcs,rfl⟩:=map_some hf
     cases eX:seg c off (len*sz)with
     |none=>grind
     |some sg =>
      rw[eX]at hcs
      let⟨hk,TY⟩:=H3 i k s _ hb hc rfl
      let⟨g1,g2⟩:=ZR eX
      let⟨m1,m2⟩:=zL hcs
      refine Fb (fun _=>H2 k hk) (fun j z hz=>?_) (m1.trans g1) (iQ mB iN) (fun ht=>by grind)
      let⟨z0,hz0,hfz⟩:=m2 j z hz
      let⟨y,hy,hv⟩:=xl TY _ _ (g2 j z0 hz0)
      refine⟨y,?_,ZS H3 n z0 z y hv hfz⟩
      grind
    grind
   grind
  |slC cs len sz tight =>
   obtain⟨k,s,cap',ad,hk,hc,hn,hl,ht,F7,rfl⟩:=wk h
   obtain⟨cs',hcs,rfl⟩:=map_some hf
   exact za2 (fun hne=>H2 k (hk hne).1) (cells hc hcs) ((zL hcs).1.trans hn) hl ht F7
  |agg cs =>
   obtain⟨ws,hw,rfl⟩:=Eh h
   simp only[bl]at hf
   exact xfk
  |bool b=>simp[bl,iw]at hf;subst hf;rw[Z2 h];exact .bool b
  |int k m=>simp[bl,iw]at hf;subst hf;rw[Yz h];exact .int k m
  |str s=>simp[bl,iw]at hf;subst hf;rw[MN h];exact .str s
  |nilsl=>simp[bl,iw]at hf;subst hf;rw[yP h];exact .nilsl
  |ptrM _ _ _=>simp[bl]at hf
  |ptrC _ _=>simp[bl]at hf
  |mapM _ _=>simp[bl]at hf
  |cR _ _=>simp[bl]at hf
  |tuple _=>simp[bl]at hf
  |fn _ _ _=>simp[bl]at hf
  |bw=>simp[bl]at hf
  |dY=>simp[bl]at hf
  |iX=>simp[bl]at hf
def xY(H3:∀ i k s o,I lv i=some (k,s)->aU[i]?=some o->o.live=true->k<W.heap.size/\OR I W k s o){xs xs':List IV}{ys:List Value}(hv:dx I W xs ys)(hm:xs.mapM (bl n lv aU)=some xs'):dx fo W xs' ys:=xbo
def KJ(tm:Array Value):ResultVar->Sem Value
 |.tmp t=>pure (tm.getD t undef)
 |.cell a t=>do loadVar t (←asAddr (tm.getD a undef))
theorem zam(fn:Func)(tm:Array Value):results fn tm=(do
  let vs←fn.results.mapM (KJ tm)
  pure (if h:vs.size=1 then vs[0] else .tuple vs)):=by
 rfl
theorem CK{H:Type}{f:H->Sem Value}:∀{l:List H}{vs:List Value},l.length=vs.length->(∀(j:Nat)(x:H)(y:Value),l[j]?=some x->vs[j]?=some y->(f x).run P W=.ok y W)->(l.mapM f).run P W=.ok vs W
 |[],vs,h1,h2=>by
  have:vs=[]:=by grind
  simp_all
 |x::l,vs,h1,h2=>by
  cases vs with
  |nil=>grind
  |cons v vs =>
   have g1:=h2 0 x v rfl rfl
   have g2:=CK (by simpa using h1) (fun j x y hx hy=>h2 (j+1) x y (by grind) (by grind))
   simp_all
theorem zan{fn:Func}{rs:List mY}{st:St}{tm:Array Value}{v:IV}(hc:allM (QI P) fn.results.toList=some rs)(ht:TR I W st.t tm)(hR:RS I (look d ah st.aa) W)(hr:bh d ah st rs=some v) :
  ∃ x,(results fn tm).run P W=.ok x W/\VR I W v x:=by
 have one:∀(r:ResultVar)(r':mY)(z:IV),QI P r=some r'->pR d ah st r'=some z->∃ y,(KJ tm r).run P W=.ok y W/\VR I W z y:=by
  intro r r' z h1 h2;cases r with
  |tmp t =>
   simp[QI,iw]at h1
   subst h1
   simp only[pR,iw]at h2
   subst h2
   exact⟨tm.getD t undef,by rfl,ht.get t⟩
  |cell a t =>
   obtain⟨⟨agg,n⟩,hl,rfl⟩:=map_some h1
   simp only[pR]at h2
   have hv:=ht.get a
   split at h2
   .rename_i l i off hq
    rw[hq]at hv
    split at h2
    .rename_i c hc
     let⟨ad,hx,hA⟩:=JC hR hv hc
     let⟨y,hy,qN⟩:=CN hl hA h2
     refine⟨y,?_,qN⟩
     simp only[KJ,hx]
     simpa[asAddr]using hy
    grind
   grind
 unfold bh at hr
 let⟨zs,hzs⟩:∃ zs,rs.mapM (pR d ah st)=some zs:=by grind
 rw[hzs]at hr
 let⟨m1,m2⟩:=zL hzs
 let⟨a1,a2⟩:=Z1 hc
 have hex:∀(L:List ResultVar)(zs:List IV),L.length=zs.length->(∀(j:Nat)(r:ResultVar)(z:IV),L[j]?=some r->zs[j]?=some z->∃ y,(KJ tm r).run P W=.ok y W/\VR I W z y) ->
   ∃ ys:List Value,dx I W zs ys/\∀(j:Nat)(r:ResultVar)(y:Value),L[j]?=some r->ys[j]?=some y->(KJ tm r).run P W=.ok y W:=by
  intro L
  induction L with
  |nil =>
   intro zs h1 h2
   have:zs=[]:=by grind
   subst this
   exact⟨[],dx.nil,fun j r y hr=>by simp⟩
  |cons r L ih =>
   intro zs h1 h2
   cases zs with
   |nil=>grind
   |cons z zs =>
    let⟨y,hy,hv⟩:=h2 0 r z rfl rfl
    let⟨ys,g1,g2⟩:=ih zs (by grind) (fun j r z hr hz=>h2 (j+1) r z (by grind) (by grind))
    refine⟨y::ys,g1.cons hv,fun j r' y' hr hy'=>?_⟩
    grind
 let ⟨ys,g1,g2⟩:=hex fn.results.toList zs Z (fun j r z hr hz=>by
  grind)
 have hrun:(fn.results.mapM (KJ tm)).run P W=.ok ys.toArray W:=by rw[Array.mapM_eq_mapM_toList];have:=CK (P:=P) (W:=W) (l:=fn.results.toList) (vs:=ys) (by rw[←g1.1];omega) g2;simp_all
 cases zs with
 |nil =>
  have hy0:ys=[]:=by simpa using g1.1.symm
  subst hy0
  simp[iw]at hr
  subst hr
  refine⟨.tuple #[],?_,.tuple rfl (fun j x y hx=>by simp)⟩
  rw[zam]
  simp[*]
 |cons z zs =>
  cases ys with
  |nil=>exact absurd g1.1 M
  |cons y ys =>
   cases zs with
   |nil =>
    have hy0:ys=[]:=by have:=g1.1;grind
    subst hy0
    simp[iw]at hr
    subst hr
    refine⟨y,?_,g1.2 0 _ _ rfl rfl⟩
    rw[zam]
    simp[*]
   |cons z2 zs =>
    simp[iw]at hr
    subst hr
    refine⟨.tuple (y::ys).toArray,?_,.tuple (by simpa using g1.1) (fun j x y hx hy=>g1.2 j x y hx (by grind))⟩
    rw[zam]
    simp only[jB,hrun,jJ]
    have:(y::ys).toArray.size≠1:=by have:=g1.1;grind
    simp_all
end
section
open Go Go.Sort
theorem IN(lt:Nat->Nat->Bool)(b:Nat):∀(k i:Nat)(a:Array Nat),k=b-i->insOuter lt 0 b i a=ack lt k i a
 |0,i,a,h=>by rw[insOuter,b9 Z];rfl
 |k+1,i,a,h=>by rw[insOuter,bU Z,IN lt b k (i+1) _ Z];rfl
theorem xd(lt:Nat->Nat->Bool)(n:Nat):rq lt n=(pdq lt (Array.range n) 0 n (Lib.bitLen n) true true).toList:=by
 unfold rq;split
 .rw[pdq,bU Z,insertionSort,IN lt n (n-1) (0+1) _ Z];grind
 rfl
variable {n:Nat}
theorem zc6{d:Array Nat}(h:d.size=n):(d.extract 0 n).toList=d.toList:=by subst h;simp
theorem zb3{lt:Nat->Nat->Bool}(h:SWO lt)(n:Nat):(rq lt n).Perm (List.range n)/\∀(i j x y:Nat),i<j->(rq lt n)[i]?=some x->(rq lt n)[j]?=some y->lt y x=false:=by
 have hs:(Array.range n).size=n:=by simp
 obtain⟨⟨p1,_,p3⟩,s⟩:=pdq_sorts lt h (Array.range n) 0 n (Lib.bitLen n) true true (RH _) Z (.inl rfl);rw[xd];generalize pdq lt (Array.range n) 0 n (Lib.bitLen n) true true=d at *;refine⟨?_,fun i j x y hij hx hy=>?_⟩
 .rw[zc6 Z,zc6 hs]at p3;grind
 .have hj:j<d.size:=by grind
  have:=s i j (RH _) hij Z;grind
noncomputable def WR(n:Nat)(tb:List (List Int))(i j:Nat):Int:=(tb.getD (i%n) []).getD (j%n) 0
theorem xG(n:Nat)(tb:List (List Int)):nF n tb=ltOf (WR n tb):=by funext i j;unfold nF ltOf WR;generalize(tb.getD (i%n) []).getD (j%n) 0=z;cases z<;>simp[nF.Int.blt']<;>omega
theorem zev(hn:n≠0){tb:List (List Int)}(h:Bu n (nF n tb)=true):SWO (nF n tb):=by
 have hm:∀ i j,nF n tb i j=nF n tb (i%n) (j%n):=fun i j=>by simp[nF]
 have hr:∀ i,i%n∈List.range n:=fun i=>vU.2 (Vo _ Z);unfold Bu at h;rw[nu]at h;have h2:∀ x y z,nF n tb x x=false/\((nF n tb x y=true->nF n tb y z=true->nF n tb x z=true)/\(nF n tb x y=false->nF n tb y z=false->nF n tb x z=false)):=fun x y z=>by have h3:=h _ (hr x);grind
 exact⟨fun x=>(h2 x x x).1,fun x y z=>(h2 x y z).2.1,fun x y z=>(h2 x y z).2.2⟩
theorem zb4(x:Int):∀ l,(FU x l).Perm (x::l)
 |[]=>.refl _
 |y::l=>by
  unfold FU;split
  .rfl
  .exact((zb4 x l).cons y).trans (.swap _ _ _)
theorem y9:∀ l,(jP l).Perm l
 |[]=>.refl _
 |x::l=>(zb4 x _).trans ((y9 l).cons x)
theorem CW(x:Int):∀ l,l.Pairwise (·<=·)->(FU x l).Pairwise (·<=·)
 |[],_=>by simp[FU]
 |y::l,h=>by
  let⟨h1,h2⟩:=vV.1 h;unfold FU;split
  .rename_i hx;exact vV.2 ⟨fun z hz=>by
    grind,h⟩
  .refine vV.2 ⟨fun z hz=>?_,CW x l h2⟩;rcases eG.1 ((zb4 x l).mem_iff.1 hz)with rfl|hz
   .omega
   grind
theorem Y4:∀ l,(jP l).Pairwise (·<=·)
 |[]=>.nil
 |x::l=>CW x _ (Y4 l)
theorem Nu(l:List Int):l.mergeSort (fun x y=>decide (x<=y))=jP l:=by refine zmb (fun a b _ _ h1 h2=>by omega) ?_ (Y4 l) ((List.mergeSort_perm _ _).trans (y9 l).symm);have:=znt (le:=fun x y=>decide (x<=y)) (fun a b c=>by grind) (fun a b=>by grind) l;grind
variable {H:Type}{j sz:Nat}{r:List H}
theorem uA(h:r.length=n*sz)(hj:j<n):(rowAt r sz j).length=sz:=by unfold rowAt;have:(j+1)*sz<=n*sz:=MI _ hj;grind
theorem zb5{t:Nat}(ht:t<sz):(rowAt r sz j)[t]?=r[j*sz+t]?:=by unfold rowAt;grind
end
section
open Go Go.RowKit
variable {I:Pl}{W:World}{d:Nat}
theorem Fr.pS{W':World}(h:Below W.heap.size W W'):Fr d I W I W' where
 keep _ _ _ h:=h
 fresh _ _ _ _ h:=.inl h
 block k hk _:=h.block k hk
 size:=h.size
 rows k c t f hc:=⟨c,by rw[h.block k (RQ.1 hc).1];omega,rfl⟩
 os:=h.os
 tape:=h.tape
 output:=h.output
variable {i off:Nat}
section
variable {P:Program} {ah:bq} {aa aJ:aS}
theorem GF(W:World)(os:Array Obj):Below W.heap.size W (Sort.grow W os) :=
 ⟨rfl,rfl,rfl,M,fun k hk=>by simp[Sort.grow,Array.getElem?_append_left hk]⟩
theorem wP{k s1:Nat}{c:List IV}{H:Type}[Inhabited H]{enc:H->Value}{xs:List IV}{F:Array H}(hR:RS I (look d ah aa) W)(hg:aa[i]?=some (.cells c))(hb:I d i=some (k,s1))(hfit:off+xs.length<=c.length)(hl:xs.length=F.size)
  (hrel:∀(j:Nat)(x:IV),xs[j]?=some x->VR I W x (enc F[j]!)) (hroom:Room W k (off+s1+F.size)) (m:Nat) (os:Array Obj) :
  RS I (look d ah (aa.set i (.cells (dS c off xs)))) (Sort.grow (Sort.putRow enc (Sort.ahead W m) k (off+s1) F) os)/\Fr d I W I (Sort.grow (Sort.putRow enc (Sort.ahead W m) k (off+s1) F) os):=by
 let⟨c',ty',hh,sD⟩:=hR.obj _ _ _ _ _ hb (show look d ah aa d i=some (.cells c) by rw[yi];omega)
 let⟨c1,t1,f1,s9,hrm⟩:=hroom
 rw[hh]at s9
 cases s9
 generalize hW1:Sort.putRow enc (Sort.ahead W m) k (off+s1) F=W1
 have hheap:W1.heap=W.heap.modify k (Sort.onCells (Sort.putCells enc (off+s1) F)):=xff
 have hk1:W1.heap[k]?=some (.cells (Sort.putCells enc (off+s1) F c') ty' (0,0)):=by rw[hheap,zmp,bU rfl,hh];rfl
 have kJ:∀ k2,k2≠k->W1.heap[k2]?=W.heap[k2]?:=fun k2 hk2=>by grind
 have hO:Ext I W I W1->OR I W1 k s1 (.cells (dS c off xs)):=fun ex=>by
  refine⟨_,ty',hk1,fun j z hz=>?_⟩;rw[ZP _ _ _ _ hfit]at hz;unfold Sort.putCells;rw[Array.getElem?_mapIdx];by_cases hj:off<=j/\j<off+xs.length
  .rw[bU hj]at hz;refine⟨enc F[j-off]!,?_,(hrel _ _ hz).ext ex⟩;grind
  .rw[b9 hj]at hz;let⟨r,hr,r6⟩:=sD j z hz;refine⟨r,?_,r6.ext ex⟩;grind
 have hrow:∀(c2:Array Value)(t2:TypeId)(f2:Nat×Nat),W.heap[k]?=some (.cells c2 t2 f2)->∃ c3,W1.heap[k]?=some (.cells c3 t2 f2)/\c3.size=c2.size:=fun c2 t2 f2 nM=>by rw[hh]at nM;cases nM;exact⟨_,hk1,by simp[Sort.putCells]⟩
 let⟨pY,hF1⟩:=zef hR hg rfl hb kJ (by grind) hrow xff xff xff hO rfl
 have jt:=GF W1 os
 exact⟨pY.old jt.block jt.size,hF1.trans (Fr.pS jt)⟩
theorem BQ{sz n:Nat}{c r:List IV}{s:IV}{y:Value}(hR:RS I (look d ah aa) W)(h:nA d aa sz s=some (i,off,c,r,n))(hv:VR I W s y) :
  ∃ k s1 cap',y=.slice (some ⟨k,off+s1,none⟩) n cap'/\aa[i]?=some (.cells c)/\I d i=some (k,s1)/\n≠0/\n<=bound/\r.length=n*sz/\off+n*sz<=c.length/\r.all IV.scalar=true /\
   ∃ ys:Array Value,ys.size=n*sz/\dx I W r ys.toList/\Sort.Holds id W k (off+s1) ys/\k<W.heap.size/\Room W k (off+s1+n*sz):=by
 unfold nA at h
 split at h
 rotate_left
 .grind
 rename_i l i' off' len cap sz' tight
 split at h
 rotate_left
 .grind
 rename_i hc
 let⟨rfl,hsz',h0,hbd⟩:=hc
 subst sz'
 split at h
 rotate_left
 .grind
 rename_i c' hg
 cases eX:seg c' off' (len*sz)with
 |none=>grind
 |some r' =>
  rw[eX,iD]at h
  split at h
  rotate_left
  .grind
  rename_i hsc
  cases h
  cases hv with
  |@slM _ _ _ _ _ _ _ k s1 o' cap' hb ho hl hcp ht hr =>
   obtain rfl:=ho.resolve_left Z
   let⟨cs,ty',hh,sD⟩:=hR.obj _ _ _ _ _ hb (show look l ah aa l i=some (.cells c) by rw[yi];omega)
   let⟨c1,t1,f1,s9,hrm⟩:=hr
   rw[hh]at s9
   cases s9
   let⟨mB,gU⟩:=ZR eX
   have hle:n*sz<=cap'*sz:=MI _ (iQ hl hcp)
   refine⟨k,s1,cap',rfl,hg,hb,h0,hbd,mB,(aeg eX).1,hsc,cs.extract (off+s1) (off+s1+n*sz),by grind,⟨by grind,fun j x z hx hz=>?_⟩,fun j hj=>⟨?_,?_⟩,hR.here _ _ _ _ hb,_,_,_,hh,Z⟩
   .grind
   .simp only[World.cell?,hh,id]
    grind
   .simp[World.frozen?,hh]
end
end
section
open Go Go.RowKit Go.Shelf
def sX (P : Program) (f : FuncId) (i : gP) : Prop := (∃ fn, P.funcs[f]? = some fn ∧ fn.name ≠ "runtime.NumGoroutine" ∧ fn.body.isSome = true) ∧ 4 ≤ i.mode % 7 ∧ ∃ ρ : Ren,
 (i.mode=4/\i.ntmps=1/\ρ.f 6=f/\SlLaysF.n6 P ρ)∨(i.mode=5/\i.ntmps≠0/\ρ.f 6=f/\SlLaysF0.n6 P ρ/\(∀ w,(isAgg (ρ.t 24)).run P w=.ok true w)/\∀ w,(Go.sizeOf (ρ.t 24)).run P w=.ok i.ntmps w)∨(i.mode=6/\i.ntmps=1/\ρ.f 189=f/\Lays.n189 P ρ)
variable {args r:List IV}{bJ:aS}{j kind n sz:Nat}{oz:Array Value}{s v:IV}{tb:List (List Int)}
section
variable {P:Program} {B:Nat} {W0 W:World} {C:Call} {d:Nat} {ah:bq} {I:Pl} {aa aJ:aS}
theorem Kv(h:Seen aJ aa)(i:Nat):Seen (aJ.set i .gone) (aa.set i .gone):=by
 refine⟨by simp[h.1],fun j o ho=>?_⟩;rw[zk8]at ho ⊢;split at ho
 .grind
 .rename_i e;rw[b9 e];exact h.2 j o ho
theorem DG {f : FuncId} (h : ∃ fn, P.funcs[f]? = some fn ∧ fn.name ≠ "runtime.NumGoroutine" ∧ fn.body.isSome = true) (args : Array Value) (w : World) : (callFunc f args).run P w = .ok (.enter f args) w := by
 let⟨fn,hfn,hnm,hbd⟩:=h;simp[callFunc,jB,lq,jJ,hfn,hnm,(show fn.body≠none by grind)]
theorem vG(hC:l6 P B W0 C)(hs:Seen aJ aa){i id:Nat}{g:FuncId}{cap:List IV}{x y:IV}{x' y':Value}{z:Int}(h:AB C d ah (aJ.set i .gone) (aa.set i .gone) id g cap x y=some z){wm:World}
  (hb:nX B W0 I wm) (hR:RS I (look d ah (aa.set i .gone)) wm) (hx:VR I wm x x') (hy:VR I wm y y') (hcap:dx I wm cap oz.toList) :
  (∃ fn, P.funcs[g]? = some fn ∧ fn.name ≠ "runtime.NumGoroutine" ∧ fn.body.isSome = true) ∧ Calls P g (#[x', y'] ++ oz) wm fun e w' => e = .returned (.int .i64 z) ∧ ∃ q os', w' = Sort.grow (wm.drewN q) os' := by
 unfold AB at h
 split at h
 .rename_i r o hc
  cases h
  let⟨h1,h2⟩:=hC d ah _ _ id g _ _ _ _ (x'::y'::oz.toList) I wm hc hb (Kv hs i) hR (.cons hx (.cons hy hcap))
  refine⟨h1,Gz ?_⟩
  have e:(x'::y'::oz.toList).toArray=#[x',y']++oz:=by grind
  rw[e]at h2
  refine h2.mono fun e w' hx=>?_
  obtain⟨v,β',rfl,hv,_,_,jt⟩:=hx
  exact⟨by rw[Yz hv],jt rfl⟩
 grind
theorem Hz{E:Nat->IV}{cmp:IV->IV->Option Int}(h:(((List.range n).map E).mapM fun x=>((List.range n).map E).mapM fun y=>cmp x y)=some tb)(hn:n≠0)(a b:Nat):cmp (E (a%n)) (E (b%n))=some (WR n tb a b):=by have ha:=Vo a (zll hn);have hb:=Vo b (zll hn);let⟨h1,h2⟩:=zL h;rw[qE,znm]at h1;let⟨x,hx,Wo⟩:=h2 _ _ (dw Z:tb[a%n]?=some tb[a%n]);let⟨h3,h4⟩:=zL Wo;rw[qE,znm]at h3;let⟨y,hy,hfy⟩:=h4 _ _ (dw Z:tb[a%n][b%n]?=some tb[a%n][b%n]);simp[qn,zm7 ha,zm7 hb,iJ,iw]at hx hy;rw[hx,hy,hfy];unfold WR;grind
def Sr{ys:List Value}(h:dx I W r ys)(sz j:Nat):dx I W (rowAt r sz j) (rowAt ys sz j):=(h.drop _).take _
theorem Ab{H:Type}{r:List H}{sz n:Nat}(hr:r.length=n*sz)(hz:0<sz):∀(l:List Nat),(∀ j∈l,j<n)->(l.flatMap fun j=>rowAt r sz j).length=l.length*sz/\∀ t,(l.flatMap fun j=>rowAt r sz j)[t]?=(l[t/sz]?).bind fun j=>r[j*sz+t%sz]?
 |[],_=>⟨M,fun t=>by simp⟩
 |j::l,h=>by
  let⟨h1,h2⟩:=Ab hr hz l (fun q hq=>h q (tj _ hq));have hj:=uA hr (h j (qj ..));refine⟨by grind,fun t=>?_⟩;rw[eT];by_cases ht:t<sz
  .rw[pN Z,zb5 ht,Nat.div_eq_of_lt ht,M0 ht];rfl
  .rw[q8 Z,hj,h2,(show t=(t-sz)+sz by omega),Nat.add_div_right _ hz,znj,zme];rfl
theorem Ca(h:j<n):(Array.range n)[j]! = j:=by grind
theorem mods{l:List Nat}(h:∀ j∈l,j<n):l.map (·%n)=l:=by
 induction l with
 |nil=>rfl
 |cons a l ih =>
  rw[mQ,ih (fun j hj=>h j (tj _ hj)),M0 (h a (qj ..))]
theorem Mb{H:Type}[Inhabited H]{ys:Array H}{y:H}(h:ys.toList[j]?=some y):ys[j]! = y:=by grind
section
variable {bi off sl k s1 cap':Nat} {c:List IV} {g:FuncId} {cap:List IV} {ys:Array Value} 
theorem af3(hC:l6 P B W0 C)(hs:Seen aJ aa)(hb:nX B W0 I W)(hR:RS I (look d ah aa) W)(hz:sz≠0){ρ:Ren}(L:SlLaysF0.n6 P ρ)(aE:∀ w,(isAgg (ρ.t 24)).run P w=.ok true w)(zE:∀ w,(Go.sizeOf (ρ.t 24)).run P w=.ok sz w)
  (htb:(((List.range n).map fun j=>ko 5 (rowAt r sz j)).mapM fun x=>((List.range n).map fun j=>ko 5 (rowAt r sz j)).mapM fun y=>AB C d ah (aJ.set bi .gone) (aa.set bi .gone) sl g cap x y)=some tb) (C0:Bu n (nF n tb)=true)
  (hg:aa[bi]?=some (.cells c)) (hbk:I d bi=some (k,s1)) (h0:n≠0) (hbd:n<=bound) (hrl:r.length=n*sz) (hfit:off+n*sz<=c.length) (hsc:r.all IV.scalar=true) (FV:ys.size=n*sz) (hvs:dx I W r ys.toList) (hH:Sort.Holds id W k (off+s1) ys) (lz:k<W.heap.size)
  (hroom:Room W k (off+s1+n*sz)) (hcap:dx I W cap oz.toList) :
  Calls P (ρ.f 6) #[.slice (some ⟨k,off+s1,none⟩) n cap',.func (.func g) #[] oz] W fun x W'=>x=.returned (.tuple #[])/\RS I (look d ah (aa.set bi (.cells (dS c off ((rq (nF n tb) n).flatMap fun j=>rowAt r sz j))))) W'/\Fr d I W I W':=by
 have hz':=zll hz
 have hml:∀ x,x%n<n:=fun x=>Vo _ (zll h0)
 have hO:Sort.SWO (ltOf (WR n tb)):=by rw[←xG];exact zev h0 C0
 have hfl:∀(dk:Array Nat)(t:Nat),t<dk.size*sz->(Sort.flatK (fun x=>rowAt ys.toList sz (x%n)) sz dk)[t]! = ys[dk[t/sz]!%n*sz+t%sz]! := fun dk t ht=>by rw[Sort.get_flatK _ _ _ _ ht];generalize dk[t/sz]! = q;rw[zmu,zb5 (Vo _ hz'),EA,getElem!_def];rfl
 have hdiv:∀(dk:Array Nat)(t:Nat),t<dk.size*sz->t/sz<dk.size:=fun dk t ht=>by rw[Nat.div_lt_iff_lt_mul hz'];omega
 have hH2:Sort.HoldsK (fun x=>rowAt ys.toList sz (x%n)) sz W k (off+s1) (Array.range n):=fun t ht=>by
  have ht':t<n*sz:=by simp_all
  have hq:t/sz<n:=by rw[Nat.div_lt_iff_lt_mul hz'];omega
  let⟨g1,g2⟩:=hH t Z;refine⟨?_,g2⟩;rw[hfl _ _ (by grind),Ca hq,M0 hq,Nat.mul_comm,Nat.div_add_mod];omega
 have hwm:∀(m:Nat)(os:Array Obj)(dk:Array Nat),dk.size=n->RS I (look d ah (aa.set bi (.cells (dS c off ((dk.toList.map (·%n)).flatMap fun j=>rowAt r sz j))))) (sortWorldK (fun x=>rowAt ys.toList sz (x%n)) sz W k (off+s1) m dk os)/\Fr d I W I (sortWorldK (fun x=>rowAt ys.toList sz (x%n)) sz W k (off+s1) m dk os):=fun m os dk hdk=>by
  obtain ⟨f1,f2⟩:=Ab hrl hz' (dk.toList.map (· % n)) (fun j hj=>by
   obtain⟨q,_,rfl⟩:=kO.1 hj;simp [*])
  refine wP (enc:=id) hR hg hbk (by grind) (by simp_all) (fun t x hx=>?_) (by simp_all) m os;have htl:=(ew.1 hx).1;rw[(show((dk.toList.map (·%n)).flatMap fun j=>rowAt r sz j).length=n*sz by grind),←hdk]at htl;rw[f2,qn,EA,zkb (hdiv dk t htl),iJ,iD]at hx;let⟨y,hy,qN⟩:=hvs.get hx;grind
 have hcmp:∀(m:Nat)(os:Array Obj)(dk:Array Nat),dk.size=n->∀ x y:Nat,_:=fun m os dk hdk x y=>by
  obtain⟨g1,g2⟩:=hwm m os dk hdk;have g3:=wO g1 (o0:=.cells (dS c off ((dk.toList.map (·%n)).flatMap fun j=>rowAt r sz j))) (by rw[vW (ew.1 hg).1]);rw[List.set_set]at g3;have hel:∀ x,VR I (sortWorldK (fun x=>rowAt ys.toList sz (x%n)) sz W k (off+s1) m dk os) (ko 5 (rowAt r sz (x%n))) (.agg (rowAt ys.toList sz (x%n)).toArray):=fun x=>by obtain⟨e1,e2⟩:=(Sr hvs sz (x%n)).ext g2.ext;exact .agg (by simpa using e1) (fun j a b ha hb=>e2 j a b ha (by simpa using hb))
  exact xd1
 have O4:(Array.range n).size=n:=by simp
 have nJ:=AnyQ.slices_SortFunc_eq L sz aE zE (fun x=>rowAt ys.toList sz (x%n)) (fun x=>uA (by grind) (hml x)) (fun x v hv=>y6 hvs hsc v (List.mem_of_mem_drop (zlb hv))) (WR n tb) hO g oz k (off+s1) cap' (Array.range n) W (DG (hcmp 0 #[] (Array.range n) O4 0 0).1) (fun m os dk hdk x y=>(hcmp m os dk (hdk.trans O4) x y).2) hH2 lz xgm
 exact xam
theorem af4(hC:l6 P B W0 C)(hs:Seen aJ aa)(hb:nX B W0 I W)(hR:RS I (look d ah aa) W){ρ:Ren}(L:SlLaysF.n6 P ρ)
  (htb:(((List.range n).map fun j=>ko 4 (rowAt r 1 j)).mapM fun x=>((List.range n).map fun j=>ko 4 (rowAt r 1 j)).mapM fun y=>AB C d ah (aJ.set bi .gone) (aa.set bi .gone) sl g cap x y)=some tb) (C0:Bu n (nF n tb)=true)
  (hg:aa[bi]?=some (.cells c)) (hbk:I d bi=some (k,s1)) (h0:n≠0) (hbd:n<=bound) (hrl:r.length=n) (hfit:off+n<=c.length) (hsc:r.all IV.scalar=true) (FV:ys.size=n) (hvs:dx I W r ys.toList) (hH:Sort.Holds id W k (off+s1) ys) (lz:k<W.heap.size)
  (hroom:Room W k (off+s1+n)) (hcap:dx I W cap oz.toList) :
  Calls P (ρ.f 6) #[.slice (some ⟨k,off+s1,none⟩) n cap',.func (.func g) #[] oz] W fun x W'=>x=.returned (.tuple #[])/\RS I (look d ah (aa.set bi (.cells (dS c off ((rq (nF n tb) n).flatMap fun j=>rowAt r 1 j))))) W'/\Fr d I W I W':=by
 have hml:∀ x,x%n<n:=fun x=>Vo _ (zll h0)
 have hone:OneCell fun x=>ys[x % n]! := fun x=>y6 hvs hsc _ (by
  grind)
 have hO:Sort.SWO (ltOf (WR n tb)):=by rw[←xG];exact zev h0 C0
 have hH2:Sort.Holds (fun x=>ys[x%n]!) W k (off+s1) (Array.range n):=fun t ht=>by
  have ht':t<n:=by grind
  let⟨g1,g2⟩:=hH t Z;refine⟨?_,g2⟩;rw[Ca ht'];show _=some ys[t%n]!;rw[M0 ht'];grind
 have hwm:∀(m:Nat)(os:Array Obj)(dk:Array Nat),dk.size=n->RS I (look d ah (aa.set bi (.cells (dS c off ((dk.toList.map (·%n)).flatMap fun j=>rowAt r 1 j))))) (sortWorld (fun x=>ys[x%n]!) W k (off+s1) m dk os)/\Fr d I W I (sortWorld (fun x=>ys[x%n]!) W k (off+s1) m dk os):=fun m os dk hdk=>by
  obtain ⟨f1,f2⟩:=Ab (n:=n) (sz:=1) (by rw [zmz]; exact hrl) Nat.one_pos (dk.toList.map (· % n)) (fun j hj=>by
   obtain⟨q,_,rfl⟩:=kO.1 hj;simp [*])
  have fl:((dk.toList.map (·%n)).flatMap fun j=>rowAt r 1 j).length=n:=by grind
  refine wP (enc:=fun x=>ys[x%n]!) hR hg hbk (by grind) Z (fun t x hx=>?_) (by grind) m os;have htl:=(ew.1 hx).1;rw[fl,←hdk]at htl;rw[f2,Nat.div_one,Nat.mod_one,qn,EA,zkb htl,iJ,iD,zmz,tY]at hx;let⟨y,hy,qN⟩:=hvs.get hx;grind
 have hcmp:∀(m:Nat)(os:Array Obj)(dk:Array Nat),dk.size=n->∀ x y:Nat,_:=fun m os dk hdk x y=>by
  obtain⟨g1,g2⟩:=hwm m os dk hdk;have g3:=wO g1 (o0:=.cells (dS c off ((dk.toList.map (·%n)).flatMap fun j=>rowAt r 1 j))) (by rw[vW (ew.1 hg).1]);rw[List.set_set]at g3;have hel:∀ x,VR I (sortWorld (fun x=>ys[x%n]!) W k (off+s1) m dk os) (ko 4 (rowAt r 1 (x%n))) ys[x%n]! := fun x=>by
   obtain⟨z,hx⟩:∃ z,r[x%n]?=some z:=⟨_,dw (by simp_all)⟩;obtain⟨y,hy,qN⟩:=hvs.get hx;have e:ko 4 (rowAt r 1 (x%n))=z:=by
    have h1:=zb5 (r:=r) (sz:=1) (j:=x%n) (t:=0) Nat.one_pos;rw[zmz,tY,hx]at h1;unfold ko;rw[b9 Δ];cases hr:rowAt r 1 (x%n)with
    |nil=>rw[hr]at h1;cases h1
    |cons a l=>rw[hr]at h1;cases h1;rfl
   rw[e,Mb hy];exact qN.ext g2.ext
  exact xd1
 have O4:(Array.range n).size=n:=by simp
 have nJ:=Any.slices_SortFunc_eq L (fun x=>ys[x%n]!) hone (WR n tb) hO g oz k (off+s1) cap' (Array.range n) W (DG (hcmp 0 #[] (Array.range n) O4 0 0).1) (fun m os dk hdk x y=>(hcmp m os dk (hdk.trans O4) x y).2) hH2 lz xgm
 exact xam
end
theorem Km{id:Nat}(h:s≠.nilsl):pP C d ah aJ aa id kind sz [s]=if kind=6 then(nA d aa sz s).bind fun(i,off,c,r,_)=>(r.mapM TL).map fun zs=>qM aa i off c ((jP zs).map (.int .i64))else none:=by cases s<;>first|rfl|grind
theorem Kl{id:Nat}{g:FuncId}{cap:List IV}(h:s≠.nilsl):pP C d ah aJ aa id kind sz [s,.fn g [] cap]=if kind=6 then none else(nA d aa sz s).bind fun(i,off,c,r,n) =>
   (((List.range n).map fun j=>ko kind (rowAt r sz j)).mapM fun x=>((List.range n).map fun j=>ko kind (rowAt r sz j)).mapM fun y=>AB C d ah (aJ.set i .gone) (aa.set i .gone) id g cap x y).bind fun tb =>
    if Bu n (nF n tb)=true then some (qM aa i off c ((rq (nF n tb) n).flatMap fun j=>rowAt r sz j))else none:=by
 cases s<;>first|rfl|grind
theorem SI{id:Nat}{e:dI}(h:pP C d ah aJ aa id kind sz args=some (e,v,bJ)):e=.x:=by
 unfold pP at h;split at h
 .grind
 .grind
 .split at h
  .obtain⟨q,_,h⟩:=zlg.1 h;obtain⟨z,_,h⟩:=map_some h;exact xel
  grind
 .split at h
  .grind
  .obtain⟨q,_,h⟩:=zlg.1 h;obtain⟨tb,_,h⟩:=zlg.1 h;split at h<;>cases h;rfl
 grind
theorem Nt(hC:l6 P B W0 C){f:FuncId}{i:gP}{id:Nat}{args':List Value}{e:dI}(hs0:sX P f i)(h:pP C d ah aJ aa id i.mode i.ntmps args=some (e,v,bJ))(hb:nX B W0 I W)(hs:Seen aJ aa)
  (hR:RS I (look d ah aa) W) (ha:dx I W args args'):Calls P f args'.toArray W fun x W'=>∃ y β',x=.returned y/\VR β' W' v y/\RS β' (look d ah bJ) W'/\Fr d I W β' W'/\(e=.r->Below W.heap.size W W'):=by
 obtain⟨_,_,ρ,hk⟩:=hs0
 have hsame:∀{x:Ending}{W':World},x=.returned (.tuple #[])/\W'=W->∃ y β',x=.returned y/\VR β' W' (.tuple []) y/\RS β' (look d ah aa) W'/\Fr d I W β' W'/\(dI.x=.r->Below W.heap.size W W'):=fun{x W'} hx=>by obtain⟨rfl,rfl⟩:=hx;exact⟨_,I,rfl,.tuple rfl (fun j a b ha=>by simp),hR,Fr.refl _ _ _,fun h=>by grind⟩
 unfold pP at h
 split at h
 .split at h
  rotate_left
  .grind
  cases h
  obtain⟨y,rfl,hy⟩:∃ y,args'=[y]/\VR I W .nilsl y:=by
   exact xd5
  cases hy
  rcases hk with⟨h4,_⟩|⟨h5,_⟩|⟨_,_,rfl,L⟩
  .omega
  .omega
  .exact(Any.slices_Sort_int_none L none 0 W).mono fun x W' hx=>hsame hx
 .split at h
  .grind
  cases h
  obtain⟨y,y2,rfl,hy⟩:∃ y y2,args'=[y,y2]/\VR I W .nilsl y:=by
   let⟨h1,h2⟩:=ha;match args',h1 with
   |[y,y2],_=>exact⟨y,y2,rfl,h2 0 _ _ rfl rfl⟩
  cases hy
  rcases hk with⟨_,_,rfl,L⟩|⟨_,_,rfl,L,_⟩|⟨h6,_⟩
  .exact(AnyF.slices_SortFunc_none { L with } none 0 y2 W).mono fun x W' hx=>hsame hx
  .exact(AnyF.slices_SortFunc_none L none 0 y2 W).mono fun x W' hx=>hsame hx
  omega
 .rename_i s _
  split at h
  rotate_left
  .grind
  rename_i hm
  obtain⟨y,rfl,hy⟩:∃ y,args'=[y]/\VR I W s y:=by
   exact xd5
  cases hrow:nA d aa i.ntmps s with
  |none=>grind
  |some q =>
   let⟨bi,off,c,r,n⟩:=q
   rw[hrow,iD]at h
   let⟨zs,hzs,hq⟩:=map_some h
   simp[qM,zi,vT]at hq
   obtain⟨rfl,rfl,rfl⟩:=hq
   obtain⟨k,s1,cap',rfl,hg,hbk,h0,hbd,hrl,hfit,hsc,ys,FV,hvs,hH,lz,hroom⟩:=BQ hR hrow hy
   rcases hk with⟨h4,_⟩|⟨h5,_⟩|⟨_,hn1,rfl,L⟩
   .omega
   .omega
   rw[hn1,zmz]at hrl hfit FV hroom
   let⟨z1,z2⟩:=zL hzs
   have hel:∀ j,j<zs.length->ys[j]! = .int .i64 zs[j]! := fun j hj=>by
    let⟨x,hx,Wo⟩:=z2 j _ (dw hj);let⟨y,hy,qN⟩:=hvs.get hx;unfold TL at Wo;split at Wo
    .cases Wo;rw[EA]at hy;rw[getElem!_def,hy,Yz qN,zmu,dw hj];rfl
    grind
   have hzn:zs.length=n:=Z
   have hH2:Sort.Holds (Value.int .i64) W k (off+s1) zs.toArray:=fun j hj=>by have hj2:j<zs.length:=Z;let⟨g1,g2⟩:=hH j Z;grind
   have nJ:=Any.slices_Sort_int L k (off+s1) cap' zs W hH2 lz (by rw[hzn];unfold bound at hbd;omega)
   rw[hzn,Nu]at nJ
   refine nJ.mono fun x W' hx=>?_
   obtain⟨rfl,m,os,rfl⟩:=hx
   have hpl:(jP zs).length=n:=(y9 zs).length_eq.trans hzn
   obtain ⟨g1,g2⟩:=wP (enc:=Value.int .i64) (xs:=(jP zs).map (.int .i64)) (F:=(jP zs).toArray) hR hg hbk (by rw [qE,hpl]; omega) M (fun j x hx=>by
    rw[qn]at hx;obtain⟨z,hz,rfl⟩:=zky.1 hx;rw[getElem!_def,zko,hz];exact .int _ _) (by grind) m os
   exact⟨_,I,rfl,.tuple rfl (fun j a b ha=>by simp),g1,g2,fun h=>by grind⟩
 .rename_i s g cap _
  split at h
  .grind
  rename_i hm
  obtain⟨y,y2,rfl,hy,hy2⟩:∃ y y2,args'=[y,y2]/\VR I W s y/\VR I W (.fn g [] cap) y2:=by
   let⟨h1,h2⟩:=ha;match args',h1 with
   |[y,y2],_=>exact⟨y,y2,rfl,h2 0 _ _ rfl rfl,h2 1 _ _ rfl rfl⟩
  cases hrow:nA d aa i.ntmps s with
  |none=>grind
  |some q =>
   let⟨bi,off,c,r,n⟩:=q
   rw[hrow,iD]at h
   let⟨tb,htb,hq⟩:=zlg.1 h
   split at hq
   rotate_left
   .grind
   rename_i C0
   simp[qM,zi,iw,vT]at hq
   let⟨rfl,rfl,rfl⟩:=hq
   obtain⟨k,s1,cap',rfl,hg,hbk,h0,hbd,hrl,hfit,hsc,ys,FV,hvs,hH,lz,hroom⟩:=BQ hR hrow hy
   obtain⟨oz,rfl,hcap⟩:∃ oz:Array Value,y2=.func (.func g) #[] oz/\dx I W cap oz.toList:=by
    cases hy2 with
    |@fn _ _ _ first' QG n1 n2 _ q2 =>
     have:first'=#[]:=Array.size_eq_zero_iff.1 (by grind)
     subst this
     exact⟨QG,rfl,Z,fun j a b ha hb=>q2 j a b ha (by grind)⟩
   rcases hk with⟨h4,hn1,rfl,L⟩|⟨h5,hz,rfl,L,aE,zE⟩|⟨h6,_⟩
   .rw[h4,hn1]at htb
    rw[hn1,zmz]at hrl hfit FV hroom
    refine(af4 hC hs hb hR L htb C0 hg hbk h0 hbd hrl hfit hsc FV hvs hH lz hroom hcap).mono fun x W' hx=>?_
    rw[hn1]
    exact xcu
   .rw[h5]at htb
    refine(af3 hC hs hb hR hz L aE zE htb C0 hg hbk h0 hbd hrl hfit hsc FV hvs hH lz hroom hcap).mono fun x W' hx=>?_
    exact xcu
   omega
 grind
end
end
section
open Go Go.RowKit
def sU(P:Program)(B:Nat)(W0:World)(S:bX):Prop:=∀(f:FuncId)(args:List IV)(v:IV),S f args=some v ->
 (∃ fn, P.funcs[f]? = some fn ∧ fn.name ≠ "runtime.NumGoroutine" ∧ fn.body.isSome = true) ∧
 ∀(I:Pl)(W:World)(args':List Value),nX B W0 I W->dx I W args args'->Calls P f args'.toArray W fun x W'=>∃ y,x=.returned y/\Below W.heap.size W W'/\VR I W' v y
def JN(P:Program)(F:FuncId->Option gP):Prop:=∀(f:FuncId)(i:gP),F f=some i->(i.mode%7<4/\∃ fn,P.funcs[f]?=some fn/\cFn P fn i.mode=some i)∨sX P f i
variable {F:FuncId->Option gP}{I β1:Pl}{S:bX}{W W1:World}{aJ iW mh:aS}{ah:bq}{args:List IV}{args':List Value}{d mode n:Nat}{f:FuncId}{v v':IV}{x:Value}
section
variable {P:Program} {B:Nat} {W0:World} 
theorem ab2{aa:aS}(hR:RS I (look d ah aa) W)(hs:Seen aJ aa):RS I (look (d+1) (fun l=>if l=d then aJ else ah l) []) W:=by
 have lk:∀{l i o},look (d+1) (fun l=>if l=d then aJ else ah l) [] l i=some o->look d ah aa l i=some o∨(o=.gone/\l=d):=fun{l i o} h=>by
  unfold look at h ⊢;split at h
  .grind
  .split at h
   .dsimp only at h;by_cases hl:l=d
    .rw[bU hl]at h;rw[bU hl];exact(hs.2 i o h).imp id fun h=>⟨h,hl⟩
    grind
   grind
 have nl:∀{l:Nat}{o:aP},(o=.gone/\l=d)->o.live=true->False:=fun{l o} h hl=>by rw[h.1]at hl;simp[aP.live]at hl
 constructor
 .intro l i k s o hb hg;rcases lk hg with h|h
  .exact hR.obj _ _ _ _ _ hb h
  .rw[h.1];trivial
 .intro l i l' i' k s s' o o' hb hb' hg hg' hl hl';rcases lk hg with h|h
  .rcases lk hg' with h'|h'
   .exact hR.one _ _ _ _ _ _ _ _ _ hb hb' h h' hl hl'
   simp_all
  simp_all
 .exact hR.here
 .intro l i o hg hl;rcases lk hg with h|h
  .exact hR.has _ _ _ h hl
  simp_all
 .intro l i p hb;let⟨o,ho⟩:=hR.dom _ _ _ hb;unfold look at ho ⊢;dsimp only;by_cases hl:l=d
  .subst hl;rw[bU rfl]at ho;rw[b9 Z,bU Z,bU rfl];have:i<aJ.length:=by rw[hs.1];grind
   grind
  grind
theorem Bx(h:dx I W args args')(n:Nat):TR I W (args++List.replicate (n-args.length) (.tuple [])) (args'.toArray++Array.replicate (n-args'.toArray.size) undef):=by
 unfold TR;rw[Array.toList_append,Array.toList_replicate];refine h.append ⟨by simp[h.1],fun j x y hx hy=>?_⟩;rw[List.getElem?_replicate]at hx hy;split at hx
 .split at hy
  .cases hx;cases hy;exact za0
  grind
 grind
theorem zb8{aa:aS}{id:Nat}{e:dI}(hR:RS I (look d ah iW) W)(pY:RS β1 (look (d+1) (fun l=>if l=d then aJ else ah l) aa) W1)
  (hF:Fr (d+1) I W β1 W1) (hv:VR β1 W1 v x) (hl:leave n d aa iW id mode v=some (e,v',mh)):∃ β',VR β' W1 v' x/\RS β' (look d ah mh) W1/\Fr d I W β' W1:=by
 have hno:∀ i p,I (d+1) i≠some p:=fun i p hb=>by let⟨o,ho⟩:=hR.dom _ _ _ hb;unfold look at ho;grind
 have jt:Below W.heap.size W W1:=hF.below hno
 have hnew:∀ i k s,β1 (d+1) i=some (k,s)->W.heap.size<=k:=fun i k s hb=>by
  rcases hF.fresh _ _ _ _ hb with h|⟨_,⟨i',s',h⟩|h⟩
  .grind
  .grind
  omega
 have hold:∀ l i p,l≠d+1->β1 l i=some p->I l i=some p:=fun l i p hl hb=>by
  rcases hF.fresh l i p.1 p.2 hb with h|⟨h,_⟩
  .omega
  omega
 have hlk:∀ i,look (d+1) (fun l=>if l=d then aJ else ah l) aa (d+1) i=aa[i]?:=fun i=>yi i
 unfold leave at hl
 split at hl
 .rename_i i off len cap sz tight r hm
  unfold handed at hl
  split at hl
  .rename_i c hc
   split at hl
   .rename_i s hs
    split at hl
    .rename_i c' EM
     have Db:∃(xs:Value),(VR β1 W1 (.slM (d+1) i off len cap sz tight) xs)/\((r=none/\xs=x/\dD iW id (.cells c') (.slM d id 0 len cap sz tight)=some (e,v',mh))∨∃(rl r':List IV)(ws:List Value),r=some rl/\rl.mapM (freeze n (d+1) (aa.set i .gone))=some r'/\dx β1 W1 rl ws/\x=.tuple (xs::ws).toArray/\dD iW id (.cells c') (.tuple (.slM d id 0 len cap sz tight::r'))=some (e,v',mh)):=by
      split at hm
      .split at hm
       .grind
       .rename_i l0 i0 ahh ahi ahv sz0 aed r0;split at hm
        .rename_i mB;cases hm;subst mB;obtain⟨ws,hw,rfl⟩:=zeh hv;have h1:=hw.1;cases V9:ws.toList with
         |nil=>grind
         |cons y ys =>
          rw[V9]at hw
          simp at hl
          split at hl
          .rename_i r' hr'
           refine⟨y,hw.2 0 _ _ rfl rfl,.inr ⟨_,r',ys,rfl,hr',⟨by grind,fun j a b ha hb=>hw.2 (j+1) a b (by grind) (by grind)⟩,?_,hl⟩⟩
           rw[←V9]
          grind
        grind
       grind
      grind
     let⟨xs,hvs,hcs⟩:=Db
     obtain⟨k,s0,o',cap',hb,ho,mB,iN,Wb,hrm,rfl⟩:=Xj hvs
     have hown:look (d+1) (fun l=>if l=d then aJ else ah l) aa (d+1) i=some (.cells c):=by grind
     let⟨g1,g2⟩:=ZR hs
     let⟨m1,m2⟩:=zL EM
     have hfree:iW[id]?=some .free:=by
      rcases hcs with⟨_,_,h⟩|⟨_,_,_,_,_,_,_,h⟩
      .exact(yt h).1
      .exact(yt h).1
     have hnone:I d id=none:=hR.free xfu
     have frz:∀(z z':IV)(y:Value),VR β1 W1 z y->freeze n (d+1) (aa.set i .gone) z=some z'->VR (upd I d id (k,o')) W1 z' y:=by
      intro z z' y;refine yn (fun l j p hne rB=>?_) (fun k2 hk2=>⟨hk2.1,fun l j s2 rB=>?_⟩) (fun j k2 s2 o2 rB hg hlv=>?_) n z z' y
      .have:=hold l j p hne rB;rw[y8]
       .omega
       grind
      .by_cases hq:l=d/\j=id
       .rw[hq.1,hq.2,zX]at rB;cases rB;exact hk2.2 _ _ _ hb
       .rw[y8 hq]at rB;exact hk2.2 _ _ _ (hF.keep _ _ _ rB)
      .have hji:j≠i:=by rintro rfl;rw[vW (ew.1 hc).1]at hg;cases hg;simp[aP.live]at hlv
       rw[EV (Se hji)]at hg;have hg':look (d+1) (fun l=>if l=d then aJ else ah l) aa (d+1) j=some o2:=by grind
       refine⟨⟨pY.here _ _ _ _ rB,fun l j' s3 hbq=>?_⟩,pY.obj _ _ _ _ _ rB hg'⟩;by_cases hq:l=d/\j'=id
       .rw[hq.1,hq.2,zX]at hbq;cases hbq;exact hji (pY.one _ _ _ _ _ _ _ _ _ rB hb hg' hown hlv rfl).2
       .rw[y8 hq]at hbq;have h5:=hR.here _ _ _ _ hbq;grind
     have hcells:OR (upd I d id (k,o')) W1 k o' (.cells c'):=by let⟨cc,ty,hh,sD⟩:=(pY.obj _ _ _ _ _ hb hown);refine⟨cc,ty,hh,fun j z hz=>?_⟩;grind
     obtain⟨hRn,hFn⟩:=zee (W':=W1) (k:=k) (s:=o') (o:=.cells c') hR hfree (fun l j s' o2 rB _ _=>by have h5:=hR.here _ _ _ _ rB;grind) (.inl (hnew _ _ _ hb)) (fun k2 _ hk2=>jt.block k2 hk2) jt.size (pY.here _ _ _ _ hb)
      (fun c2 t2 f2 nM=>absurd (RQ.1 nM).1 (by grind)) jt.os jt.tape jt.output (fun _=>hcells)
     have hsl:VR (upd I d id (k,o')) W1 (.slM d id 0 len cap sz tight) (.slice (some ⟨k,o',none⟩) len cap'):=.slM (zX _ _ _ _) (.inr Z) mB iN Wb hrm
     rcases hcs with⟨rfl,RW,hmk⟩|⟨rl,r',ws,rfl,hr',hw,rfl,hmk⟩
     .obtain⟨_,_,rfl,rfl⟩:=yt hmk
      grind
     .obtain⟨_,_,rfl,rfl⟩:=yt hmk
      refine⟨_,?_,hRn,hFn⟩
      let⟨r1,r2⟩:=zL hr'
      have hw':dx (upd I d id (k,o')) W1 r' ws:=⟨r1.trans hw.1,fun j a b ha hb'=>by
       let⟨a0,ha0,Ll⟩:=r2 j a ha;exact frz _ _ _ (hw.2 j a0 b ha0 hb') Ll⟩
      have hall:=hsl |> fun h=>dx.cons h hw'
      exact .tuple (by simpa using hall.1) (fun j a b ha hb'=>hall.2 j a b ha (by grind))
    grind
   grind
  grind
 .let⟨v2,hv2,hq⟩:=map_some hl
  cases hq
  refine⟨I,?_,hR.old jt.block jt.size,Fr.pS jt⟩
  refine yn (fun l j p hne rB=>hold l j p hne rB) (fun k2 hk2=>⟨hk2.1,fun l j s2 rB=>hk2.2 _ _ _ (hF.keep _ _ _ rB)⟩) (fun j k2 s2 o2 rB hg hlv=>?_) n v v' x hv hv2
  refine⟨⟨pY.here _ _ _ _ rB,fun l j' s3 hbq=>?_⟩,pY.obj _ _ _ _ _ rB (by grind)⟩
  have h5:=hR.here _ _ _ _ hbq
  grind
theorem zb9{ah:bq}{aJ aa:aS}{id:Nat}{e:dI}(hl:leave n d aa iW id mode v=some (e,v',mh)) :
  (e=.r/\mh=iW/\∀ o,leave n d aa o id mode v=some (.r,v',o))∨∃ O,∀ o,leave n d aa o id mode v=dD o id O v':=by
 unfold leave at hl ⊢
 split at hl
 .unfold handed at hl ⊢
  split at hl
  .split at hl
   .split at hl
    .rename_i c' EM
     split at hl
     .obtain⟨_,_,rfl,_⟩:=yt hl
      exact .inr ⟨_,fun o=>rfl⟩
     .split at hl
      .rename_i r' hr'
       obtain⟨_,_,rfl,_⟩:=yt hl
       refine .inr ⟨.cells c',fun o=>?_⟩
       rfl
      grind
    grind
   grind
  grind
 .let⟨v2,hv2,hq⟩:=map_some hl
  grind
theorem zca{H:Type}{x:Option (Out×St)}{k:St->Option H}{r:H}(h:ended x k=some r):∃ o st,x=some (o,st)/\(o=.normal∨o=.ret)/\k st=some r:=by
 unfold ended at h;split at h
 .grind
 .grind
 grind
theorem zez{id:Nat}{aa o:aS}{a b w:IV}{e:dI}(h:leave n d aa iW id 1 (.tuple [b,a])=some (e,w,o)):∃ p q,w=.tuple [p,q]:=by
 have hz:∀{f:IV->Option IV}{x:IV}{r:List IV},[x].mapM f=some r->∃ q,r=[q]:=fun{f x r} h=>by
  rw[mq]at h;cases hx:f x with
  |none=>grind
  |some y=>grind
 unfold leave at h;split at h
 .rename_i i off len cap sz tight r hm;rw[bU rfl]at hm;have hr:r=some [a]:=by grind
  subst hr;unfold handed at h;split at h
  .split at h
   .split at h
    .simp only at h;split at h
     .rename_i r' hr';obtain⟨q,rfl⟩:=hz hr';obtain⟨_,_,h4,_⟩:=yt h;grind
     grind
    grind
   grind
  grind
 .let⟨v2,hv2,hq⟩:=map_some h;cases hq;cases n with
  |zero=>simp[freeze]at hv2
  |succ n =>
   obtain⟨cs,hcs,rfl⟩:=map_some hv2
   rw[mq]at hcs
   cases hx:freeze n (d+1) aa b with
   |none=>grind
   |some y =>
    rw[hx]at hcs
    cases hy:[a].mapM (freeze n (d+1) aa)with
    |none=>grind
    |some r =>
     grind
theorem FO{aa:aS}{id:Nat}{e:dI}(hR:RS I (look d ah iW) W)(pY:RS β1 (look (d+1) (fun l=>if l=d then aJ else ah l) aa) W1)
  (hF:Fr (d+1) I W β1 W1) (hv:VR β1 W1 v x) (hl:kW n d aa iW id mode v=some (e,v',mh)):∃ β',VR β' W1 v' x/\RS β' (look d ah mh) W1/\Fr d I W β' W1:=by
 have sw:∀{I:Pl}{a b:IV}{y z:Value},VR I W1 a y->VR I W1 b z->VR I W1 (.tuple [a,b]) (.tuple #[y,z]):=fun ha hb=>by have h:=(dx.nil.cons hb).cons ha;exact .tuple (by grind) (fun j a b ha hb'=>h.2 j a b ha (by grind))
 unfold kW at hl
 split at hl
 .split at hl
  .let⟨r,hr,hq⟩:=map_some hl
   let⟨e1,w,o⟩:=r
   obtain⟨p,q,rfl⟩:=zez hr
   cases hq
   obtain⟨ws,hw,rfl⟩:=zeh hv
   let⟨ws⟩:=ws
   match ws,hw with
   |[y,z],hw =>
    let⟨β',g1,g2,g3⟩:=zb8 hR pY hF (sw (hw.2 1 _ _ rfl rfl) (hw.2 0 _ _ rfl rfl)) hr
    let⟨us,hu,hus⟩:=zeh g1
    cases hus
    exact⟨β',sw (hu.2 1 _ _ rfl rfl) (hu.2 0 _ _ rfl rfl),g2,g3⟩
   |[],hw=>have:=hw.1;grind
   |[_],hw=>have:=hw.1;grind
   |_::_::_::_,hw=>have:=hw.1;grind
  .exact zb8 hR pY hF hv hl
 .exact zb8 hR pY hF hv hl
theorem FP{ah:bq}{aJ aa:aS}{id:Nat}{e:dI}(hl:kW n d aa iW id mode v=some (e,v',mh)) :
  (e=.r/\mh=iW/\∀ o,kW n d aa o id mode v=some (.r,v',o))∨∃ O,∀ o,kW n d aa o id mode v=dD o id O v':=by
 unfold kW at hl ⊢
 split at hl
 .rename_i hm
  split at hl
  .let⟨r,hr,hq⟩:=map_some hl
   let⟨e1,w,o⟩:=r
   obtain⟨p,q,rfl⟩:=zez hr
   cases hq
   simp only[bU hm]
   rcases zb9 (ah:=ah) (aJ:=aJ) hr with⟨rfl,rfl,h3⟩|⟨O,h3⟩
   .exact .inl ⟨rfl,rfl,fun o=>by rw[h3];rfl⟩
   .refine .inr ⟨O,fun o=>?_⟩
    rw[h3]
    unfold dD
    split<;>rfl
  .simp[bU hm]
   rcases zb9 (ah:=ah) (aJ:=aJ) hl with⟨rfl,rfl,h3⟩|⟨O,h3⟩
   .grind
   .exact .inr ⟨O,h3⟩
 .rename_i hm
  simp[b9 hm]
  exact zb9 (ah:=ah) (aJ:=aJ) hl
theorem L0:∀ n,qX (aL F S n)
 |0=>fun d ah aJ aa id f args e v bJ h=>by simp[aL]at h
 |n+1=>fun d ah aJ aa id f args e v bJ h=>by
  unfold aL at h ⊢;split at h
  .cases h;exact⟨rfl,fun o=>rfl⟩
  .split at h
   .grind
   .rename_i fn hfn;split at h
    .obtain⟨o,st,_,_,hk⟩:=zca h;obtain⟨w,_,hq⟩:=map_some hk;cases hq;trivial
    .rename_i Wf;try simp_all
     split at h
     .rename_i h3;try simp_all
      cases has:args.mapM (bl 12 d aJ)with
      |none=>grind
      |some az =>
       rw[has]at h
       let⟨o,st,hx,ho,hk⟩:=zca h
       cases hr:bh 0 (fun _=>[]) st fn.res with
       |none=>grind
       |some w =>
        rw[hr]at hk
        have hfun:∀ o2,((some az).bind fun az=>ended (exec (aL F S n) 0 (fun _=>[]) n fn.body ⟨lit (az++List.replicate (fn.ntmps-az.length) (.tuple [])),[]⟩) fun st=>(bh 0 (fun _=>[]) st fn.res).bind fun v=>n5 o2 v)=n5 o2 w:=fun o2=>by simp[iD];exact xf1
        cases w with
        |int k x =>
         exact xcp
        |bool b =>
         exact xcp
        |_=>simp[n5]at hk
     rename_i h3;try simp[b9 h3]
     split at h
     .obtain rfl:=SI h;trivial
     rename_i h4;try simp[b9 h4]
     let⟨o,st,hx,ho,hk⟩:=zca h;cases hr:bh (d+1) (fun l=>if l=d then aJ else ah l) st fn.res with
     |none=>grind
     |some w =>
      rw[hr]at hk
      simp[iD]at hk
      have hfun:∀ o2,ended (exec (aL F S n) (d+1) (fun l=>if l=d then aJ else ah l) n fn.body ⟨lit (args++List.replicate (fn.ntmps-args.length) (.tuple [])),[]⟩) (fun st=>(bh (d+1) (fun l=>if l=d then aJ else ah l) st fn.res).bind fun v=>kW n d st.aa o2 id fn.mode v)=kW n d st.aa o2 id fn.mode w:=fun o2=>xf1
      rcases FP (ah:=ah) (aJ:=aJ) hk with⟨rfl,rfl,hall⟩|⟨O,hall⟩
      .exact⟨rfl,fun o2=>(hfun o2).trans (hall o2)⟩
      .exact Ym (fun o2=>(hfun o2).trans (hall o2)) h
theorem S8:RS fo (look 0 (fun _=>[]) []) W:=by
 exact xaj
theorem wM(h:nX B W0 I W):nX B W0 fo W:=by obtain⟨_,h2,h3⟩:=h;exact⟨fun l i k s hb=>by simp[fo]at hb,h2,h3⟩
theorem ze0(hm:P.follows .mixedOrders=true)(hF:JN P F)(hS:sU P B W0 S):∀ n,l6 P B W0 (aL F S n)
 |0=>fun d ah aJ aa id f args e v bJ args' I W h=>by simp[aL]at h
 |n+1=>fun d ah aJ aa id f args e v bJ args' I W h hb hs hR hargs=>by
  have hC:=ze0 hm hF hS n;have hE:=L0 (F:=F) (S:=S) n;unfold aL at h;split at h
  .rename_i w hw;cases h;let⟨h1,h2⟩:=hS f args v hw;refine⟨h1,(h2 I W args' hb hargs).mono fun x W' hx=>?_⟩;obtain⟨y,rfl,jt,hv⟩:=hx;exact⟨y,I,rfl,hv,hR.old jt.block jt.size,Fr.pS jt,fun _=>jt⟩
  .split at h
   .grind
   .rename_i i hi;rcases hF f i hi with⟨au,fn,hfn,Pm⟩|FZ;rotate_left
    .have h4:=FZ.2.1;rw[b9 Z,b9 Z,bU h4]at h;exact⟨FZ.1,Nt hC FZ h hb hs hR hargs⟩
    unfold cFn at Pm;split at Pm
    .grind
    .rename_i hnm;split at Pm
     .grind
     .rename_i c hbody;split at Pm
      .rename_i ib ir hcb hcr;refine⟨⟨fn,hfn,hnm,by grind⟩,?_⟩;refine calls_of_wp hfn hbody ?_;rw[(s6 Pm).symm]at h;simp at h;have hst:=Bx hargs fn.ntmps;split at h
       .let⟨o,st,hx,ho,hk⟩:=zca h;let⟨w,hw,hq⟩:=map_some hk;cases hq;rw[zi]at hx;refine zeu hC hE hm c hcb hx hb hst hR fun β1 W1 a1 g1 g2 g3 g4=>?_;let⟨y,hy,qN⟩:=zan hcr g1 g2 hw;have hgoal:a1.defers=[]/\∃ u,(results fn a1.tmps).run P W1=.ok u W1/\∃ y β',Ending.returned u=.returned y/\VR β' W1 v y/\RS β' (look d ah st.aa) W1/\Fr d I W β' W1/\(dI.x=.r->Below W.heap.size W W1) :=
         ⟨g4,y,hy,y,β1,rfl,qN,g2,g3,fun h=>by grind⟩
        exact xb0
       .split at h
        .cases has:args.mapM (bl 12 d aJ)with
         |none=>grind
         |some az =>
          rw[has]at h
          simp[iD]at h
          let⟨o,st,hx,ho,hk⟩:=zca h
          rw[zi]at hx
          cases hr:bh 0 (fun _=>[]) st ir with
          |none=>grind
          |some w =>
           rw[hr]at hk
           simp[iD]at hk
           have aaj:dx fo W az args':=xY (fun i k s o rB hg hlv=>by
            have hg2:aa[i]?=some o:=by
             rcases hs.2 i o hg with h|h
             .omega
             .rw[h]at hlv;simp[aP.live]at hlv
            exact ⟨hR.here _ _ _ _ rB,hR.obj _ _ _ _ _ rB (by rw [yi]; omega)⟩) hargs has
           refine zeu hC hE hm c hcb hx (wM hb) (Bx aaj fn.ntmps) S8 fun β1 W1 a1 g1 g2 g3 g4=>?_
           let⟨y,hy,qN⟩:=zan hcr g1 g2 hr
           have jt:Below W.heap.size W W1:=g3.below fun i p hb=>by simp[fo]at hb
           have RY:bJ=aa/\VR I W1 v y:=by
            cases w with
            |int k x=>cases hk;refine⟨rfl,?_⟩;rw[Yz qN];exact .int k x
            |bool b=>cases hk;refine⟨rfl,?_⟩;rw[Z2 qN];exact .bool b
            |_=>simp[n5]at hk
           let⟨rfl,RY⟩:=RY
           have hgoal:a1.defers=[]/\∃ u,(results fn a1.tmps).run P W1=.ok u W1/\∃ y β',Ending.returned u=.returned y/\VR β' W1 v y/\RS β' (look d ah bJ) W1/\Fr d I W β' W1/\(e=.r->Below W.heap.size W W1) :=
            ⟨g4,y,hy,y,I,rfl,RY,hR.old jt.block jt.size,Fr.pS jt,fun _=>jt⟩
           exact xb0
        .rw[b9 Z]at h;let⟨o,st,hx,ho,hk⟩:=zca h;rw[zi]at hx;cases hr:bh (d+1) (fun l=>if l=d then aJ else ah l) st ir with
         |none=>grind
         |some w =>
          rw[hr]at hk
          simp[iD]at hk
          refine zeu hC hE hm c hcb hx hb hst (ab2 hR hs) fun β1 W1 a1 g1 g2 g3 g4=>?_
          let⟨y,hy,qN⟩:=zan hcr g1 g2 hr
          let⟨β',q1,q2,q3⟩:=FO hR g2 g3 qN hk
          have hgoal:a1.defers=[]/\∃ u,(results fn a1.tmps).run P W1=.ok u W1/\∃ y β',Ending.returned u=.returned y/\VR β' W1 v y/\RS β' (look d ah bJ) W1/\Fr d I W β' W1/\(e=.r->Below W.heap.size W W1) :=
           ⟨g4,y,hy,y,β',rfl,q1,q2,q3,fun _=>g3.below fun i p rB=>by
            let⟨o3,ho3⟩:=hR.dom _ _ _ rB;unfold look at ho3;grind⟩
          exact xb0
      grind
theorem Kz(hm:P.follows .mixedOrders=true)(hF:JN P F)(hS:sU P W.heap.size W S){e:dI}{bJ:aS}(h:aL F S n 0 (fun _=>[]) [] [] 0 f args=some (e,v,bJ))(ha:dx fo W args args') :
  Calls P f args'.toArray W fun x W'=>∃ y β',x=.returned y/\VR β' W' v y/\Below W.heap.size W W':=by
 have hR:RS fo (look 0 (fun _=>[]) []) W:=by
  exact xaj
 obtain⟨_,h2⟩:=ze0 hm hF hS n 0 (fun _=>[]) [] [] 0 f args e v bJ args' fo W h ⟨fun l i k s hb=>by simp[fo]at hb,cI _,Below.refl _ _⟩ ⟨rfl,fun i o h=>.inl h⟩ hR ha
 refine h2.mono fun x W' hx=>?_
 obtain⟨y,β',h3,h4,_,h6,_⟩:=hx
 exact⟨y,β',h3,h4,h6.below fun i p hb=>by simp[fo]at hb⟩
end
variable {a:IC}{dst:Option Nat}{op:j5}{ops:List cg}{slots:Nat}{vis:List Nat}
section
variable {C:Call} {n0:Nat} {st st':St} {K:eU}
def Ex(C:Call)(d:Nat)(ah:bq)(n:Nat)(ic:IC)(K:eU)(st:St):Prop:=∃ o st',exec C d ah n ic st=some (o,st')/\K o st'
def Ex.mono{ic:IC}{K':eU}(h:Ex C d ah n ic K st)(hk:∀ o st',K o st'->K' o st'):Ex C d ah n ic K' st:=let⟨o,st',h1,h2⟩:=h;⟨o,st',h1,hk o st' h2⟩
def Uk(h:K .normal st):Ex C d ah n .skip K st:=⟨_,_,rfl,h⟩
def aap(h:K .ret st):Ex C d ah n .ret K st:=⟨_,_,rfl,h⟩
def Um{id:Nat}(h:K (.exit id) st):Ex C d ah n (.exit id) K st:=⟨_,_,rfl,h⟩
def andThen(k:St->Prop)(K:eU):eU
 |.normal,st=>k st
 |o,st=>K o st
theorem aao{b:IC}(h:Ex C d ah n a (andThen (Ex C d ah n b K) K) st):Ex C d ah n (.seq a b) K st:=by
 let⟨o,st1,h1,h2⟩:=h;cases o with
 |normal =>
  let⟨o2,st2,h3,h4⟩:=h2
  exact⟨o2,st2,by simp[exec,h1,Ks,h3],h4⟩
 |exit id=>exact⟨_,st1,by simp[exec,h1,Ks],h2⟩
 |ret=>exact⟨_,st1,by simp[exec,h1,Ks],h2⟩
def inBlock(id:Nat)(K:eU):eU
 |.exit j,st=>if j=id then K .normal st else K (.exit j) st
 |o,st=>K o st
theorem PV{id:Nat}(h:Ex C d ah n a (inBlock id K) st):Ex C d ah n (.block id a) K st:=by
 let⟨o,st1,h1,h2⟩:=h;cases o with
 |normal=>exact⟨_,st1,by simp[exec,h1,pH],h2⟩
 |ret=>exact⟨_,st1,by simp[exec,h1,pH],h2⟩
 |exit j =>
  by_cases hj:j=id
  .simp[inBlock,bU hj]at h2
   exact⟨.normal,st1,by simp[exec,h1,pH,bU hj],h2⟩
  .simp[inBlock,b9 hj]at h2
   exact⟨.exit j,st1,by simp[exec,h1,pH,b9 hj],h2⟩
theorem Ul(xgs:Nat->St->Prop)(j:Nat)(hn:j<n)(h0:xgs j st)(h:∀ j st,xgs j st->Ex C d ah n a (andThen (fun st'=>∃ j',j'<j/\xgs j' st') K) st):Ex C d ah n (.loop a) K st:=by
 have key:∀(m j:Nat)(st:St),j<m->xgs j st->∃ o st',iter (exec C d ah n a) m st=some (o,st')/\K o st':=by
  intro m;induction m with
  |zero=>grind
  |succ m ih =>
   intro j st hj hI
   let⟨o,st1,h1,h2⟩:=h j st hI
   cases o with
   |normal =>
    let⟨j',hj',hI'⟩:=h2
    let⟨o2,st2,h3,h4⟩:=ih j' st1 Z hI'
    exact⟨o2,st2,by simp[iter,h1,h3],h4⟩
   |exit id=>exact⟨_,st1,by simp[iter,h1],h2⟩
   |ret=>exact⟨_,st1,by simp[iter,h1],h2⟩
 let⟨o,st',h1,h2⟩:=key n j st hn h0;exact⟨o,st',by simp[exec,h1],h2⟩
def Rn(C:Call)(d:Nat)(ah:bq)(n0:Nat)(ops:List cg)(k:St->Prop)(t:List IV)(aa:aS):Prop:=∃ es st',kQ C d ah false n0 ops ⟨t,aa⟩=some (es,st')/\k st'
theorem Uj{fr:List (Nat×Nat)}(h:Rn C d ah st.aa.length ops (K .normal) st.t (st.aa++List.replicate slots .free)):Ex C d ah n (.region false slots ops fr) K st:=by let⟨es,st',h1,h2⟩:=h;refine⟨.normal,st',?_,h2⟩;simp[exec,mH,zi,h1,Hg,k9,if_true]
variable {t:List IV} {aa aU:aS} {k:St->Prop} {rest:List cg}
def XK(h:k ⟨t,aa⟩):Rn C d ah n0 [] k t aa:=⟨_,_,rfl,h⟩
theorem Ta{e:dI}(he:bY C d ah n0 aa aa t op=some (e,v,aU))(h:Rn C d ah n0 rest k (put t dst v) aU):Rn C d ah n0 (⟨dst,op,none,vis⟩::rest) k t aa:=by let⟨es,st',h1,h2⟩:=h;refine⟨e::es,st',?_,h2⟩;simp[kQ,gW,cK,if_true,nv,if_false,he,h1]
theorem ab3{g:Nat×Bool}(hg:cK t (some g)=false)(h:Rn C d ah n0 rest k (put t dst (.tuple [])) aa):Rn C d ah n0 (⟨dst,op,some g,vis⟩::rest) k t aa:=by let⟨es,st',h1,h2⟩:=h;exact xf2
def Rd(C:Call)(d:Nat)(ah:bq)(n0:Nat)(ops:List cg)(k:List dI->St->Prop)(t:List IV)(aa:aS):Prop:=∃ es st',kQ C d ah true n0 ops ⟨t,aa⟩=some (es,st')/\k es st'
theorem PU{fr:List (Nat×Nat)}(h:Rd C d ah st.aa.length ops (fun es st'=>fr.all (fun ji=>comm (es.getD ji.1 .x) (es.getD ji.2 .x))=true/\K .normal st') st.t (st.aa++List.replicate slots .free)):Ex C d ah n (.region true slots ops fr) K st:=by let⟨es,st',h1,h2,h3⟩:=h;refine⟨.normal,st',?_,h3⟩;simp only[exec,mH,zi,h1,ME,jg];grind
variable {kd:List dI->St->Prop}
def XN(h:kd [] ⟨t,aa⟩):Rd C d ah n0 [] kd t aa:=⟨_,_,rfl,h⟩
theorem Th{e:dI}(he:bY C d ah n0 (bI vis n0 aa) aa t op=some (e,v,aU))(h:Rd C d ah n0 rest (fun es st'=>kd (e::es) st') (put t dst v) aU):Rd C d ah n0 (⟨dst,op,none,vis⟩::rest) kd t aa:=by obtain⟨es,st',h1,h2⟩:=h;refine⟨e::es,st',?_,h2⟩;simp[kQ,gW,cK,if_true,he,h1]
theorem ab9{g:Nat×Bool}(hg:cK t (some g)=false)(h:Rd C d ah n0 rest (fun es st'=>kd (.p::es) st') (put t dst (.tuple [])) aa):Rd C d ah n0 (⟨dst,op,some g,vis⟩::rest) kd t aa:=by obtain⟨es,st',h1,h2⟩:=h;exact xf2
end
def Fz(k:Nat)(v:IV):Prop:=∀ m,k<=m->∀ lv aa,freeze m lv aa v=some v
variable {k:Nat}
def Fz.le{k':Nat}(h:Fz k v)(hk:k<=k'):Fz k' v:=fun m hm=>h m (iQ hk hm)
theorem zD{f:IV->Option IV}:∀{l:List IV},(∀ x∈l,f x=some x)->l.mapM f=some l
 |[],_=>rfl
 |x::l,h=>by rw[mq,h x (qj ..),zD fun y hy=>h y (tj _ hy)];rfl
theorem zk{b:Bool}:Fz 1 (.bool b):=fun m hm lv aa=>by obtain⟨m,rfl⟩:∃ q,m=q+1:=⟨m-1,Z⟩;rfl
theorem zp{k:IntKind}{i:Int}:Fz 1 (.int k i):=fun m hm lv aa=>by obtain⟨m,rfl⟩:∃ q,m=q+1:=⟨m-1,Z⟩;rfl
theorem yZ:Fz 1 .nilsl:=fun m hm lv aa=>by obtain⟨m,rfl⟩:∃ q,m=q+1:=⟨m-1,Z⟩;rfl
variable {cs:List IV}
theorem xW{len sz:Nat}{tight:Bool}(h:∀ x∈cs,Fz k x):Fz (k+1) (.slC cs len sz tight):=fun m hm lv aa=>by obtain⟨m,rfl⟩:∃ q,m=q+1:=⟨m-1,Z⟩;simp[freeze,zD fun x hx=>h x hx m Z lv aa,iJ]
theorem PD(h:∀ x∈cs,Fz k x):Fz (k+1) (.agg cs):=fun m hm lv aa=>by obtain⟨m,rfl⟩:∃ q,m=q+1:=⟨m-1,Z⟩;simp[freeze,zD fun x hx=>h x hx m Z lv aa,iJ]
theorem Dk(h:∀ x∈cs,Fz k x):Fz (k+1) (.tuple cs):=fun m hm lv aa=>by obtain⟨m,rfl⟩:∃ q,m=q+1:=⟨m-1,Z⟩;simp[freeze,zD fun x hx=>h x hx m Z lv aa,iJ]
def j0(F:FuncId->Option gP)(S:bX)(f:FuncId)(args:List IV)(v:IV):Prop :=
 ∃ N,∀ m,N<=m->∀ d ah aJ aa id,aL F S m d ah aJ aa id f args=some (.r,v,aa)
theorem PB{i:gP}{w:IV}(hS:S f args=none)(hi:F f=some i)(hm:i.mode=0)(N:Nat)
  (h:∀ m,N<=m->∀ d ah,Ex (aL F S m) d ah m i.body (fun o st=>(o=.normal∨o=.ret)/\bh d ah st i.res=some v/\freeze m d st.aa v=some w) ⟨args++List.replicate (i.ntmps-args.length) (.tuple []),[]⟩):j0 F S f args w:=by
 refine⟨N+1,fun m hN d ah aJ aa id=>?_⟩
 obtain⟨m,rfl⟩:∃ q,m=q+1:=⟨m-1,Z⟩
 let⟨o,st,h1,h2,h3,h4⟩:=h m Z (d+1) (fun l=>if l=d then aJ else ah l)
 exact xaz
variable {i:Nat}
theorem J6(h:i+1<9223372036854775808):aT .i64 ((i:Int)+1)=((i+1:Nat):Int):=by rw[z6,IntWalk.i64_in _ Z];rfl
theorem zY{k:IntKind}:lg (.int k (i:Int))=some i:=by rfl
theorem zd{H:Type}{g:H->List IV}{sz:Nat}(hg:∀ x,(g x).length=sz):∀{l:List H}{i:Nat}{x:H}(k n:Nat),l[i]?=some x->k+n<=sz->bB (l.flatMap g) (i*sz+k) n=bB (g x) k n
 |[],i,x,k,n,h,_=>by grind
 |y::l,0,x,k,n,h,hk=>by
  simp[rH,iw]at h;subst h;rw[eT,qZ,eB];have key:∀(n k:Nat),k+n<=sz->bB (g y++l.flatMap g) k n=bB (g y) k n:=by
   intro n;induction n with
   |zero=>intro k _;rfl
   |succ n ih =>
    intro k hk
    simp[bB]
    grind
  grind
 |y::l,i+1,x,k,n,h,hk=>by
  simp[rG]at h;rw[←zd hg k n h hk,eT];have key:∀(n k:Nat),bB (g y++l.flatMap g) (sz+k) n=bB (l.flatMap g) k n:=by
   intro n;induction n with
   |zero=>intro k;rfl
   |succ n ih =>
    intro k
    simp[bB]
    grind
  grind
inductive Sl(sz:Nat):List IV->Nat->IV->Prop where
 |nil:Sl sz [] 0 .nilsl
 |row (cs:List IV) (len:Nat) (tight:Bool) (h:cs.length=len*sz):Sl sz cs len (.slC cs len sz tight)
end
section
open Go Go.RowKit Go.ChangeShapes Go.WideShapes
structure aR(sz:Nat){H:Type}(g:H->List IV) where
 l:List H
 v:IV
 ok:Sl sz (l.flatMap g) l.length v
 eZ:l.length<9223372036854775808
variable {H:Type}
def Reads(P:Program)(W:World)(t:TypeId)(g:H->List IV):Prop :=
 ∀(xgt:Type)(enc:TypeId×Value->xgt)(fuel:Nat)(cs:List Value)(x:DataW xgt×List MemPlace),DataW.trod enc P W 0 (fun _=>true) true fuel t cs=some x->∃ a:H,dx fo W (g a) cs
section
variable {P:Program} {W:World} {t:TypeId}
theorem KM{k:IntKind}(ht:P.underlying t=some (.int k)):Reads P W t (fun n:Int=>[IV.int k n]):=fun xgt enc fuel cs x h=>by obtain⟨n,rfl,_,_⟩:=zna ht h;exact⟨n,(dx.nil).cons (.int k n)⟩
theorem KL(ht:P.underlying t=some .string):Reads P W t (fun s:{ s:ByteArray // s.size<=maxLen }=>[IV.str s.1]):=fun xgt enc fuel cs x h=>by obtain⟨s,rfl,_,hs⟩:=DataW.trod_string ht h;exact⟨⟨s,hs⟩,(dx.nil).cons (.str s)⟩
theorem IL{H:Type}(Q:Nat->H->Prop):∀ n,(∀ i,i<n->∃ a,Q i a)->∃ l:List H,l.length=n/\∀ i a,l[i]?=some a->Q i a
 |0,_=>⟨[],rfl,fun i a h=>by grind⟩
 |n+1,hp=>by let⟨l,hl,hh⟩:=IL Q n (fun i hi=>hp i Z);let⟨a,ha⟩:=hp n Z;refine⟨l++[a],by grind,fun i b h=>?_⟩;grind
theorem Dv{H:Type}{g:H->List IV}{sz:Nat}(hg:∀ x,(g x).length=sz):∀{l:List H}{j:Nat}{z:IV},(l.flatMap g)[j]?=some z->∃ i r x,l[i]?=some x/\r<sz/\(g x)[r]?=some z/\j=i*sz+r
 |[],j,z,h=>by grind
 |y::l,j,z,h=>by
  rw[eT]at h;by_cases hj:j<(g y).length
  .rw[pN hj]at h;exact⟨0,j,y,rfl,by grind,h,Z⟩
  .rw[q8 Z]at h;let⟨i,r,x,h1,h2,h3,h4⟩:=Dv hg h;refine⟨i+1,r,x,by grind,h2,h3,?_⟩;grind
theorem zj{H:Type}{g:H->List IV}{sz:Nat}(hg:∀ x,(g x).length=sz):∀{l:List H},(l.flatMap g).length=l.length*sz
 |[]=>by simp
 |y::l=>by rw[eT,mV,hg,zj hg,fB,znx];omega
theorem Zg{g:H->List IV}{e:TypeId}{sz:Nat}(ht:P.underlying t=some (.slice e))(hc:P.cellsOf e=sz)(hsz:0<sz)(hg:∀ a,(g a).length=sz)(he:Reads P W e g):Reads P W t (fun q:aR sz g=>[q.v]):=fun xgt enc fuel cs x h=>by
 rcases Go.Deep.open_slice ht h with⟨rfl,_⟩|⟨a,len,cap,m,n,D,Pl,rfl,hb,hl,hm,Wg,hx,hel⟩
 .exact⟨⟨[],.nilsl,.nil,M⟩,(dx.nil).cons .nilsl⟩
 .subst Wg;rw[hc]at hel hx;obtain ⟨l,IZ,hls⟩:=IL (fun i (q:H)=>∃ cs',W.cells? 0 (a.add (i*sz)) sz=some cs'/\dx fo W (g q) cs') len (fun i hi=>by
   let⟨cs',h1,h2⟩:=hel i Z;let⟨q,hq⟩:=he _ _ _ _ _ h2;grind)
  have hcell:∀(j:Nat)(z:IV),(l.flatMap g)[j]?=some z->∃ y,W.cell? (a.add j)=some y/\VR fo W z y:=fun j z hz=>by obtain⟨i,r,q,h1,h2,h3,rfl⟩:=Dv hg hz;let⟨cs',hcs,hv⟩:=hls i q h1;obtain⟨_,_,R6⟩:=World.cells?_some hcs;let⟨y,hy,qN⟩:=hv.get h3;refine⟨y,?_,qN⟩;have:=R6 r h2;rw[Go.Deep.add_add]at this;grind
  have hfl:=zj (l:=l) hg;have aco:len≠0->a.spot=none:=fun h0=>by
   obtain⟨y,hy,_⟩:=hcell 0 _ (dw (by rw[hfl,IZ];exact Nat.mul_pos Z hsz));cases hs:a.spot with
   |none=>rfl
   |some s =>
    simp only[World.cell?,Addr.add]at hy
    grind
  have hblk:len≠0->a.block<W.heap.size:=fun h0=>by
   have hrow:MemPlace.cell a.block (a.off+0)∈x.2:=by rw[hx];refine qY.2 (Or.inl (MemPlace.mem_row.2 ⟨0,Nat.mul_pos Z hsz,rfl⟩))
   exact(fun p hp=>DataW.trod_lt _ _ _ _ h p hp) _ hrow
  subst IZ;refine⟨⟨l,.slC (l.flatMap g) l.length sz false,.row _ _ _ hfl,zmf (iQ hl hm) Δ⟩,(dx.nil).cons ?_⟩;refine za2 (k:=a.block) (s:=a.off) (fun h0=>⟨hblk h0,fun l i s hb=>by simp[fo]at hb⟩) (fun j z hz=>?_) hfl hl (fun h=>by grind) (fun h0=>?_)
  .let⟨y,hy,qN⟩:=hcell j z hz;refine⟨y,?_,qN⟩;have h0:l.length≠0:=by grind
   rw[←hy,ZE (aco h0)]
  .cases a;grind
end
end
section
open Go Go.RowKit
def iv(n:Int):IV:=.int .i64 n
def zf(n:Int):iv n=.int .i64 n:=aI
def aK(n:Int):List IV:=[iv n]
structure Pt where
 x:Int
 y:Int
def Pt.c(p:Pt):List IV:=[iv p.x,iv p.y]
structure Nd where
 id:Int
 at':Pt
def Nd.c(n:Nd):List IV:=[iv n.id,iv n.at'.x,iv n.at'.y]
structure Ac where
 id:Int
 fr:Int
 to:Int
 via:aR 2 Pt.c
 l:Int
 r:Int
def Ac.c(a:Ac):List IV:=[iv a.id,iv a.fr,iv a.to,a.via.v,iv a.l,iv a.r]
structure Ft where
 id:Int
 kind:Int
 cls:Int
 name:{ s:ByteArray // s.size<=maxLen }
 parts:aR 1 aK
def Ft.c(f:Ft):List IV:=[iv f.id,iv f.kind,iv f.cls,.str f.name.1,f.parts.v]
structure Pn where
 ns:aR 3 Nd.c
 az:aR 6 Ac.c
 fs:aR 1 aK
def Pn.c(p:Pn):List IV:=[p.ns.v,p.az.v,p.fs.v]
abbrev Pn.o(p:Pn):aP:=.cells [p.ns.v,p.az.v,p.fs.v]
structure Sv where
 pl:Pn
 ft:aR 5 Ft.c
def Sv.c(s:Sv):List IV:=[s.pl.ns.v,s.pl.az.v,s.pl.fs.v,s.ft.v]
abbrev Sv.o(s:Sv):aP:=.cells [s.pl.ns.v,s.pl.az.v,s.pl.fs.v,s.ft.v]
def ze(n:Int):(aK n).length=1:=rfl
def Pt.aV(p:Pt):p.c.length=2:=rfl
def Nd.aV(p:Nd):p.c.length=3:=rfl
def Ac.aV(p:Ac):p.c.length=6:=rfl
def Ft.aV(p:Ft):p.c.length=5:=rfl
end
section
open Go Go.RowKit Go.ChangeShapes Go.WideShapes
theorem zbb:Tryz.prog.cellsOf 3=1:=by kernel_rfl
theorem Td:Tryz.prog.cellsOf 9=1:=by kernel_rfl
theorem Fv:Tryz.prog.cellsOf 71=2:=by kernel_rfl
theorem B7:Tryz.prog.cellsOf 73=3:=by kernel_rfl
theorem HW:Tryz.prog.cellsOf 82=6:=by kernel_rfl
theorem N5:Tryz.prog.cellsOf 59=5:=by kernel_rfl
theorem B6:Tryz.prog.cellsOf 26=3:=by kernel_rfl
theorem Fu:Tryz.prog.cellsOf 29=4:=by kernel_rfl
theorem B8:Tryz.prog.cellsOf 24=1:=by kernel_rfl
theorem Fw:Tryz.prog.cellsOf 80=1:=by kernel_rfl
theorem KP:Tryz.prog.cellsOf 22=1:=by kernel_rfl
theorem N6:Tryz.prog.cellsOf 23=1:=by kernel_rfl
theorem Te:Tryz.prog.cellsOf 27=1:=by kernel_rfl
section
variable {W:World}
def Zk:Reads Tryz.prog W 3 aK:=KM Tryz.underlying3
def HY:Reads Tryz.prog W 24 (fun q:aR 1 aK=>[q.v]):=Zg Tryz.underlying24 zbb Z ze Zk
def XM:Reads Tryz.prog W 9 (fun s:{ s:ByteArray // s.size<=maxLen }=>[IV.str s.1]):=KL Tryz.underlying9
theorem VL:Reads Tryz.prog W 71 Pt.c:=fun xgt enc fuel cs x h=>by
 obtain⟨xs,n,rfl,hx,hl,hxl,hall⟩:=W5 Tryz.underlying71 h;rw[Fv]at hl;match cs,hl,xs,hxl with
 |[v0,v1],_,[x0,x1],_ =>
  have h0:=hall 0 _ rfl
  have h1:=hall 1 _ rfl
  simp[zbb]at h0 h1
  let⟨a,ha⟩:=Zk _ _ _ _ _ h0
  let⟨b,hb⟩:=Zk _ _ _ _ _ h1
  exact xf8
def KR:Reads Tryz.prog W 80 (fun q:aR 2 Pt.c=>[q.v]):=Zg Tryz.underlying80 Fv Z Pt.aV VL
theorem Tg:Reads Tryz.prog W 73 Nd.c:=fun xgt enc fuel cs x h=>by
 obtain⟨xs,n,rfl,hx,hl,hxl,hall⟩:=W5 Tryz.underlying73 h;rw[B7]at hl;match cs,hl,xs,hxl with
 |[v0,v1,v2],_,[x0,x1],_ =>
  have h0:=hall 0 _ rfl
  have h1:=hall 1 _ rfl
  simp[zbb,Fv]at h0 h1
  let⟨a,ha⟩:=Zk _ _ _ _ _ h0
  let⟨b,hb⟩:=VL _ _ _ _ _ h1
  exact xf8
def N8:Reads Tryz.prog W 22 (fun q:aR 3 Nd.c=>[q.v]):=Zg Tryz.underlying22 B7 Z Nd.aV Tg
theorem XP:Reads Tryz.prog W 82 Ac.c:=fun xgt enc fuel cs x h=>by
 obtain⟨xs,n,rfl,hx,hl,hxl,hall⟩:=W5 Tryz.underlying82 h;rw[HW]at hl;match cs,hl,xs,hxl with
 |[v0,v1,v2,v3,v4,v5],_,[x0,x1,x2,x3,x4,x5],_ =>
  have h0:=hall 0 _ rfl
  have h1:=hall 1 _ rfl
  have h2:=hall 2 _ rfl
  have h3:=hall 3 _ rfl
  have h4:=hall 4 _ rfl
  have h5:=hall 5 _ rfl
  simp[zbb,Fw]at h0 h1 h2 h3 h4 h5
  let⟨a,ha⟩:=Zk _ _ _ _ _ h0
  let⟨b,hb⟩:=Zk _ _ _ _ _ h1
  let⟨c,hc⟩:=Zk _ _ _ _ _ h2
  let⟨q,hq⟩:=KR _ _ _ _ _ h3
  let⟨e,he⟩:=Zk _ _ _ _ _ h4
  let⟨f,hf⟩:=Zk _ _ _ _ _ h5
  exact⟨⟨a,b,c,q,e,f⟩,((((ha.append hb).append hc).append hq).append he).append hf⟩
def Ti:Reads Tryz.prog W 23 (fun q:aR 6 Ac.c=>[q.v]):=Zg Tryz.underlying23 HW Z Ac.aV XP
theorem acd:Reads Tryz.prog W 59 Ft.c:=fun xgt enc fuel cs x h=>by
 obtain⟨xs,n,rfl,hx,hl,hxl,hall⟩:=W5 Tryz.underlying59 h;rw[N5]at hl;match cs,hl,xs,hxl with
 |[v0,v1,v2,v3,v4],_,[x0,x1,x2,x3,x4],_ =>
  have h0:=hall 0 _ rfl
  have h1:=hall 1 _ rfl
  have h2:=hall 2 _ rfl
  have h3:=hall 3 _ rfl
  have h4:=hall 4 _ rfl
  simp[zbb,Td,B8]at h0 h1 h2 h3 h4
  let⟨a,ha⟩:=Zk _ _ _ _ _ h0
  let⟨b,hb⟩:=Zk _ _ _ _ _ h1
  let⟨c,hc⟩:=Zk _ _ _ _ _ h2
  let⟨q,hq⟩:=XM _ _ _ _ _ h3
  let⟨e,he⟩:=HY _ _ _ _ _ h4
  exact⟨⟨a,b,c,q,e⟩,(((ha.append hb).append hc).append hq).append he⟩
def XO:Reads Tryz.prog W 27 (fun q:aR 5 Ft.c=>[q.v]):=Zg Tryz.underlying27 N5 Z Ft.aV acd
theorem Tf:Reads Tryz.prog W 26 Pn.c:=fun xgt enc fuel cs x h=>by
 obtain⟨xs,n,rfl,hx,hl,hxl,hall⟩:=W5 Tryz.underlying26 h;rw[B6]at hl;match cs,hl,xs,hxl with
 |[v0,v1,v2],_,[x0,x1,x2],_ =>
  have h0:=hall 0 _ rfl
  have h1:=hall 1 _ rfl
  have h2:=hall 2 _ rfl
  simp[KP,N6,B8]at h0 h1 h2
  let⟨a,ha⟩:=N8 _ _ _ _ _ h0
  let⟨b,hb⟩:=Ti _ _ _ _ _ h1
  let⟨c,hc⟩:=HY _ _ _ _ _ h2
  exact⟨⟨a,b,c⟩,(ha.append hb).append hc⟩
theorem KQ:Reads Tryz.prog W 29 Sv.c:=fun xgt enc fuel cs x h=>by
 obtain⟨xs,n,rfl,hx,hl,hxl,hall⟩:=W5 Tryz.underlying29 h;rw[Fu]at hl;match cs,hl,xs,hxl with
 |[v0,v1,v2,v3],_,[x0,x1],_ =>
  have h0:=hall 0 _ rfl
  have h1:=hall 1 _ rfl
  simp[B6,Te]at h0 h1
  let⟨a,ha⟩:=Tf _ _ _ _ _ h0
  let⟨b,hb⟩:=XO _ _ _ _ _ h1
  exact xf8
theorem open_survey{r:Reach}{b0:Nat}{v:Value}{xgt:Type}{enc:TypeId×Value->xgt}{d:DataW xgt}{ps:List MemPlace}(hval:Value.okWide Tryz.prog W r b0 29 v)(hd:DataW.Trod enc Tryz.prog W 0 (fun _=>true) true 29 v d ps):∃ s:Sv,VR fo W (.agg s.c) v:=by obtain⟨cs,rfl,_⟩:=okWide_struct Tryz.underlying29 hval;let⟨fuel,hf⟩:=hd;let⟨s,hs⟩:=KQ _ _ _ _ _ hf;refine⟨s,?_⟩;simp[Value.cells]at hs;exact .agg (by simpa using hs.1) (fun j x y hx hy=>hs.2 j x y hx (by grind))
end
end
section
open Go.ChangeShapes Go.WideShapes Go.ChangeAt Go.RowKit
theorem OM:laidOutB Tryz.prog=true:=by kernel_rfl
section
variable {xgt:Type} {enc:TypeId×Value->xgt}
theorem shut_any{t:TypeId}(hr:Tryz.prog.readableRec t=true)(hrow:t<Tryz.prog.types.size){W W':World}{v:Value}{d:DataW xgt}{ps:List MemPlace}{sp:Nat->Bool}
  (h:DataW.Trod enc Tryz.prog W 0 (fun _=>true) true t v d ps) (hb:Below W.heap.size W W') (hsp:∀ p∈ps,sp p.block=true):DataW.Trod enc Tryz.prog W' 0 sp true t v d ps:=by
 let⟨fuel,hf⟩:=h
 exact WideElems.Trod_stays OM hr hrow ⟨fuel,hf⟩ (fun x hx=>hb.same (DataW.trod_lt _ _ _ _ hf x hx)) hsp
end
end
section
open Go Go.RowKit
variable {C:Call}{H:Type}{K:eU}{a:IC}{ah:bq}{b:Bool}{d i j n n0 slots:Nat}{dst:Option Nat}{op:j5}{ops:List cg}{t:List IV}{v:IV}{vis:List Nat}{l:List H}{x:H}
section
variable {st st':St} 
theorem JT:Ex C d ah n .skip K st=K .normal st:=propext ⟨fun⟨o,st',h,hk⟩=>by simp[exec,iw,vT]at h;grind,Uk⟩
theorem RG:Ex C d ah n .ret K st=K .ret st:=propext ⟨fun⟨o,st',h,hk⟩=>by simp[exec,iw,vT]at h;grind,aap⟩
theorem JU{id:Nat}:Ex C d ah n (.exit id) K st=K (.exit id) st:=propext ⟨fun⟨o,st',h,hk⟩=>by simp[exec,iw,vT]at h;grind,Um⟩
theorem ze1{b:IC}:Ex C d ah n (.seq a b) K st=Ex C d ah n a (andThen (Ex C d ah n b K) K) st:=by
 refine propext ⟨fun⟨o,st',h,hk⟩=>?_,aao⟩;simp[exec]at h;unfold Ks at h;exact xbf
theorem Er{id:Nat}:Ex C d ah n (.block id a) K st=Ex C d ah n a (inBlock id K) st:=by
 refine propext ⟨fun⟨o,st',h,hk⟩=>?_,PV⟩;simp[exec]at h;unfold pH at h;split at h
 .rename_i j st1 he;split at h
  .rename_i hj;cases h;refine⟨.exit j,st',he,?_⟩;simp[inBlock,bU hj];omega
  .rename_i hj;cases h;refine⟨.exit j,st',he,?_⟩;simp[inBlock,b9 hj];omega
 .rename_i hne;refine⟨o,st',h,?_⟩;cases o with
  |normal=>exact hk
  |exit id=>grind
  |ret=>exact hk
def ExC(C:Call)(d:Nat)(ah:bq)(n:Nat)(v:IV)(a b:IC)(K:eU)(st:St):Prop:=match v with
 |.bool true=>Ex C d ah n a K st
 |.bool false=>Ex C d ah n b K st
 |_=>False
theorem JV{c:bD}{b:IC}{aa:aS}:Ex C d ah n (.cond c a b) K ⟨t,aa⟩=ExC C d ah n (ρ t c) a b K ⟨t,aa⟩:=by
 unfold Ex;simp only[exec];generalize ρ t c=v;cases v with
 |bool b=>cases b<;>rfl
 |_=>simp[Qx,ExC]
def Es{b:IC}:ExC C d ah n (.bool true) a b K st=Ex C d ah n a K st:=aI
def vS{b:IC}:ExC C d ah n (.bool false) a b K st=Ex C d ah n b K st:=aI
theorem JS{fr:List (Nat×Nat)}{aa:aS}:Ex C d ah n (.region false slots ops fr) K ⟨t,aa⟩=Rn C d ah aa.length ops (K .normal) t (aa++List.replicate slots .free):=by
 refine propext ⟨fun⟨o,st',h,hk⟩=>?_,fun h=>Uj h⟩;simp only[exec,mH,zi]at h;split at h
 .rename_i es st1 hr;simp[Hg,k9,if_true,iw,vT]at h;let⟨rfl,rfl⟩:=h;exact⟨es,st1,hr,hk⟩
 grind
theorem MA{fr:List (Nat×Nat)}{aa:aS}:Ex C d ah n (.region true slots ops fr) K ⟨t,aa⟩=Rd C d ah aa.length ops (fun es st'=>fr.all (fun ji=>comm (es.getD ji.1 .x) (es.getD ji.2 .x))=true/\K .normal st') t (aa++List.replicate slots .free):=by
 refine propext ⟨fun⟨o,st',h,hk⟩=>?_,fun h=>PU h⟩;simp[exec,mH,zi]at h;split at h
 .rename_i es st1 hr;split at h
  .rename_i hc;cases h;exact⟨es,st',hr,hc,hk⟩
  grind
 grind
variable {t':List IV} {aa aU:aS} {k:St->Prop} {rest:List cg} {kd:List dI->St->Prop} {acc:List dI}
def RnP(C:Call)(d:Nat)(ah:bq)(n0:Nat)(rest:List cg)(k:St->Prop)(dst:Option Nat)(t:List IV)(r:jI):Prop:=match r with
 |some (_,v,aU)=>Rn C d ah n0 rest k (put t dst v) aU
 |none=>False
def Ra(C:Call)(d:Nat)(ah:bq)(n0:Nat)(ops:List cg)(kd:List dI->St->Prop)(acc:List dI)(t:List IV)(aa:aS):Prop:=Rd C d ah n0 ops (fun es st'=>kd (acc++es) st') t aa
def RaP(C:Call)(d:Nat)(ah:bq)(n0:Nat)(rest:List cg)(kd:List dI->St->Prop)(acc:List dI)(dst:Option Nat)(t:List IV)(r:jI):Prop:=match r with
 |some (e,v,aU)=>Ra C d ah n0 rest kd (acc++[e]) (put t dst v) aU
 |none=>False
def Mz(fr:List (Nat×Nat))(K:eU)(es:List dI)(st:St):Prop:=fr.all (fun ji=>comm (es.getD ji.1 .x) (es.getD ji.2 .x))=true/\K .normal st
theorem Ep{fr:List (Nat×Nat)}{aa:aS}:Ex C d ah n (.region true slots ops fr) K ⟨t,aa⟩=Ra C d ah aa.length ops (Mz fr K) [] t (aa++List.replicate slots .free):=by rw[MA];rfl
def Ek{e:dI}:RnP C d ah n0 rest k dst t (some (e,v,aU))=Rn C d ah n0 rest k (put t dst v) aU:=aI
def Em{e:dI}:RaP C d ah n0 rest kd acc dst t (some (e,v,aU))=Ra C d ah n0 rest kd (acc++[e]) (put t dst v) aU:=aI
theorem Rs:Rn C d ah n0 [] k t aa=k ⟨t,aa⟩:=propext ⟨fun⟨es,st',h,hk⟩=>by simp only[kQ,iw,vT]at h;grind,XK⟩
theorem Rz:Ra C d ah n0 [] kd acc t aa=kd acc ⟨t,aa⟩:=by refine propext ⟨fun⟨es,st',h,hk⟩=>?_,fun h=>XN (by grind)⟩;simp only[kQ,iw,vT]at h;grind
theorem AZ:Rn C d ah n0 (⟨dst,op,none,vis⟩::rest) k t aa=RnP C d ah n0 rest k dst t (bY C d ah n0 aa aa t op):=by
 refine propext ⟨fun⟨es,st',h,hk⟩=>?_,fun h=>?_⟩
 .simp[kQ,gW,cK,if_true,nv,if_false]at h;cases he:bY C d ah n0 aa aa t op with
  |none=>grind
  |some r =>
   rw[he]at h
   simp at h
   split at h
   .rename_i P7 st2 hr
    cases h
    exact⟨P7,st',hr,hk⟩
   grind
 .cases he:bY C d ah n0 aa aa t op with
  |none=>rw[he]at h;exact h.elim
  |some r =>
   rw[he]at h
   exact Ta he h
theorem abe{g:Nat×Bool}(hg:cK t (some g)=true):Rn C d ah n0 (⟨dst,op,some g,vis⟩::rest) k t aa=RnP C d ah n0 rest k dst t (bY C d ah n0 aa aa t op):=by rw[←AZ (vis:=vis)];unfold Rn;simp[kQ,gW,hg,(cU rfl rfl:cK t none=true)]
theorem WU{g:Nat×Bool}(hg:cK t (some g)=false):Rn C d ah n0 (⟨dst,op,some g,vis⟩::rest) k t aa=Rn C d ah n0 rest k (put t dst (.tuple [])) aa:=by
 refine propext ⟨fun⟨es,st',h,hk⟩=>?_,ab3 hg⟩;simp[kQ,gW,hg,nv,if_false]at h;split at h
 .rename_i P7 st2 hr;cases h;exact⟨P7,st',hr,hk⟩
 grind
def RnG(C:Call)(d:Nat)(ah:bq)(n0:Nat)(op:j5)(v:Option IV)(b:Bool)(rest:List cg)(k:St->Prop)(dst:Option Nat)(t:List IV)(aa:aS):Prop:=match v with
 |some (.bool c)=>if c=b then RnP C d ah n0 rest k dst t (bY C d ah n0 aa aa t op)else Rn C d ah n0 rest k (put t dst (.tuple [])) aa
 |_=>Rn C d ah n0 rest k (put t dst (.tuple [])) aa
theorem Ej:Rn C d ah n0 (⟨dst,op,some (j,b),vis⟩::rest) k t aa=RnG C d ah n0 op t[j]? b rest k dst t aa:=by
 unfold RnG;split
 .rename_i c hc;split
  .rename_i hcb;exact abe xe0
  .rename_i hcb;exact WU xe0
 .rename_i hne;refine WU ?_;exact xc0
def RaG(C:Call)(d:Nat)(ah:bq)(n0:Nat)(op:j5)(vis:List Nat)(v:Option IV)(b:Bool)(rest:List cg)(kd:List dI->St->Prop)(acc:List dI)(dst:Option Nat)(t:List IV)(aa:aS):Prop:=match v with
 |some (.bool c)=>if c=b then RaP C d ah n0 rest kd acc dst t (bY C d ah n0 (bI vis n0 aa) aa t op)else Ra C d ah n0 rest kd (acc++[.p]) (put t dst (.tuple [])) aa
 |_=>Ra C d ah n0 rest kd (acc++[.p]) (put t dst (.tuple [])) aa
theorem Ru:RnG C d ah n0 op (some (.bool true)) true rest k dst t aa=RnP C d ah n0 rest k dst t (bY C d ah n0 aa aa t op):=by rfl
theorem Rx:RnG C d ah n0 op (some (.bool false)) false rest k dst t aa=RnP C d ah n0 rest k dst t (bY C d ah n0 aa aa t op):=by rfl
theorem Rv:RnG C d ah n0 op (some (.bool true)) false rest k dst t aa=Rn C d ah n0 rest k (put t dst (.tuple [])) aa:=by rfl
theorem Rw:RnG C d ah n0 op (some (.bool false)) true rest k dst t aa=Rn C d ah n0 rest k (put t dst (.tuple [])) aa:=by rfl
theorem Rt:RnG C d ah n0 op (some (.tuple [])) b rest k dst t aa=Rn C d ah n0 rest k (put t dst (.tuple [])) aa:=by rfl
theorem A5:Ra C d ah n0 (⟨dst,op,none,vis⟩::rest) kd acc t aa=RaP C d ah n0 rest kd acc dst t (bY C d ah n0 (bI vis n0 aa) aa t op):=by
 refine propext ⟨fun⟨es,st',h,hk⟩=>?_,fun h=>?_⟩
 .simp[kQ,gW,cK,if_true]at h;cases he:bY C d ah n0 (bI vis n0 aa) aa t op with
  |none=>grind
  |some r =>
   rw[he]at h
   simp at h
   split at h
   .rename_i P7 st2 hr
    cases h
    exact⟨P7,st',hr,by grind⟩
   grind
 .cases he:bY C d ah n0 (bI vis n0 aa) aa t op with
  |none=>rw[he]at h;exact h.elim
  |some r =>
   rw[he]at h
   obtain⟨es,st',h1,h2⟩:=h
   exact Th he ⟨es,st',h1,by grind⟩
theorem abf{g:Nat×Bool}(hg:cK t (some g)=true):Ra C d ah n0 (⟨dst,op,some g,vis⟩::rest) kd acc t aa=RaP C d ah n0 rest kd acc dst t (bY C d ah n0 (bI vis n0 aa) aa t op):=by rw[←A5];unfold Ra Rd;simp[kQ,gW,hg,(cU rfl rfl:cK t none=true)]
theorem WW{g:Nat×Bool}(hg:cK t (some g)=false):Ra C d ah n0 (⟨dst,op,some g,vis⟩::rest) kd acc t aa=Ra C d ah n0 rest kd (acc++[.p]) (put t dst (.tuple [])) aa:=by
 refine propext ⟨fun⟨es,st',h,hk⟩=>?_,fun⟨es,st',h,hk⟩=>ab9 hg ⟨es,st',h,by grind⟩⟩;simp[kQ,gW,hg,nv,if_false]at h;split at h
 .rename_i P7 st2 hr;cases h;exact⟨P7,st',hr,by grind⟩
 grind
theorem El:Ra C d ah n0 (⟨dst,op,some (j,b),vis⟩::rest) kd acc t aa=RaG C d ah n0 op vis t[j]? b rest kd acc dst t aa:=by
 unfold RaG;split
 .rename_i c hc;split
  .rename_i hcb;exact abf xe0
  .rename_i hcb;exact WW xe0
 .rename_i hne;refine WW ?_;exact xc0
theorem RB:RaG C d ah n0 op vis (some (.bool true)) true rest kd acc dst t aa=RaP C d ah n0 rest kd acc dst t (bY C d ah n0 (bI vis n0 aa) aa t op):=by rfl
theorem RE:RaG C d ah n0 op vis (some (.bool false)) false rest kd acc dst t aa=RaP C d ah n0 rest kd acc dst t (bY C d ah n0 (bI vis n0 aa) aa t op):=by rfl
theorem RC:RaG C d ah n0 op vis (some (.bool true)) false rest kd acc dst t aa=Ra C d ah n0 rest kd (acc++[.p]) (put t dst (.tuple [])) aa:=by rfl
theorem RD:RaG C d ah n0 op vis (some (.bool false)) true rest kd acc dst t aa=Ra C d ah n0 rest kd (acc++[.p]) (put t dst (.tuple [])) aa:=by rfl
theorem RA:RaG C d ah n0 op vis (some (.tuple [])) b rest kd acc dst t aa=Ra C d ah n0 rest kd (acc++[.p]) (put t dst (.tuple [])) aa:=by rfl
def yA{k:St->Prop}:andThen k K .normal st=k st:=aI
def zc9{k:St->Prop}:andThen k K .ret st=K .ret st:=aI
def zbc{k:St->Prop}:andThen k K (.exit j) st=K (.exit j) st:=aI
def YG{id:Nat}:inBlock id K .normal st=K .normal st:=aI
def zda{id:Nat}:inBlock id K .ret st=K .ret st:=aI
def zbd{id:Nat}:inBlock id K (.exit j) st=if j=id then K .normal st else K (.exit j) st:=aI
def ρ_at:ρ t (.tmp i)=pE (.tuple []) t i:=aI
def u7{z:H}:pE z (x::l) 0=x:=aI
def u9{z:H}:pE z (x::l) (i+1)=pE z l i:=aI
def BD{v:H}:(x::l).set 0 v=v::l:=aI
def BE{v:H}:(x::l).set (i+1) v=x::l.set i v:=aI
end
variable {aJ:aS}
section
variable {aa:aS} 
def PX(x:bD):bY C d ah n0 aJ aa t (.mov x)=some (.p,ρ t x,aa):=aI
def vk(x:bD):bY C d ah n0 aJ aa t (.nilchk x)=ef aa t x:=aI
def Jh(c a b:bD):bY C d ah n0 aJ aa t (.pick c a b)=gZ aa t c a b:=aI
def Ji(cs:List IV)(slot:Nat):bY C d ah n0 aJ aa t (.newv cs slot)=dD aa (n0+slot) (.cells cs) (.ptrM d (n0+slot) 0):=aI
def P5(x:bD)(slot:Nat):bY C d ah n0 aJ aa t (.box x slot)=kr d n0 aa t x slot:=aI
def DF(z:List IV)(ps:List (Nat×Nat×bD)):bY C d ah n0 aJ aa t (.build z ps)=(dX t z ps).map fun c=>(.p,.agg c,aa):=cU rfl rfl
def vl(z:List IV)(sz len:Nat)(ps:List (Nat×Nat×bD)):bY C d ah n0 aJ aa t (.bslice z sz len ps)=e8 aa t z sz len ps:=cU rfl rfl
def Y5(z:List IV)(sz len:Nat)(ps:List (Nat×Nat×bD))(slot:Nat):bY C d ah n0 aJ aa t (.mslice z sz len ps slot)=fZ d n0 aa t z sz len ps slot:=cU rfl rfl
def Jj(agg:Bool)(n:Nat)(x:bD):bY C d ah n0 aJ aa t (.load agg n x)=ig d ah aJ aa t agg n x:=aI
def Dz(n:Nat)(x v:bD):bY C d ah n0 aJ aa t (.store n x v)=fG d aa t n x v:=aI
def P6(op:BinOp)(x y:bD):bY C d ah n0 aJ aa t (.bin op x y)=(lX op (ρ t x) (ρ t y)).map fun v=>(.p,v,aa):=aI
def DE(neg:Bool)(ks:List Nat)(x y:bD):bY C d ah n0 aJ aa t (.eqagg neg ks x y)=fI aa t neg ks x y:=aI
def P4(neg:Bool)(x y:bD):bY C d ah n0 aJ aa t (.eqb neg x y)=jy aa t neg x y:=aI
def P3(neg:Bool)(x y:bD):bY C d ah n0 aJ aa t (.eqp neg x y)=lE aa t neg x y:=aI
def P0(neg:Bool)(x y:bD):bY C d ah n0 aJ aa t (.eqs neg x y)=lD aa t neg x y:=aI
def WC(op:UnOp)(x:bD):bY C d ah n0 aJ aa t (.un op x)=(Bs op (ρ t x)).map fun v=>(.p,v,aa):=aI
def Jk(k:IntKind)(x:bD):bY C d ah n0 aJ aa t (.conv k x)=ij aa t k x:=aI
def Ah(f:FuncId)(a b:List bD):bY C d ah n0 aJ aa t (.mkfn f a b)=some (.p,.fn f (a.map (ρ t)) (b.map (ρ t)),aa):=aI
def DA(slot:Nat):bY C d ah n0 aJ aa t (.mkmap slot)=dD aa (n0+slot) (.map [] [] [] 0) (.mapM d (n0+slot)):=aI
def yM(sz:Nat)(x:bD)(lo hi mx:Option bD):bY C d ah n0 aJ aa t (.slice sz x lo hi mx)=(dA sz t (ρ t x) lo hi mx).map fun v=>(.p,v,aa):=aI
def DD(off:Nat)(x:bD):bY C d ah n0 aJ aa t (.faddr off x)=fH aa t off x:=aI
def DB(agg:Bool)(sz len:Nat)(x ix:bD):bY C d ah n0 aJ aa t (.index agg sz len x ix)=cE aa t agg sz len x ix:=aI
def Zy(z:IV)(kt:Bool×List Nat)(ok:Bool)(x ix:bD):bY C d ah n0 aJ aa t (.lookup z kt ok x ix)=e7 d ah aJ aa t z kt ok x ix:=aI
def Z7(kt:Bool×List Nat)(m k v:bD):bY C d ah n0 aJ aa t (.mapupd kt m k v)=fL d aa t kt m k v:=aI
def ze2(x:bD)(i:Nat):bY C d ah n0 aJ aa t (.extract x i)=bF aa t x i:=aI
def Jl(f:bD)(xs:List bD)(slot:Nat):bY C d ah n0 aJ aa t (.call f xs slot)=jG C d ah n0 aJ aa t f xs slot:=aI
def zh(z:List IV)(sz:Nat)(eM:Bool)(s x:bD)(slot:Nat):bY C d ah n0 aJ aa t (.append z sz eM s x slot)=iC d ah n0 aJ aa t z sz eM s x slot:=aI
def WD(m:Bool)(x y:bD):bY C d ah n0 aJ aa t (.mx m x y)=oy aa t m x y:=aI
def Gc(x:bD):bY C d ah n0 aJ aa t (.cap x)=nP aa t x:=aI
end
theorem zdu{x:IV}{l:List IV}{k:Nat}:∀{n:Nat},bB (x::l) (k+1) n=bB l k n
 |0=>rfl
 |n+1=>by simp[bB,rG];rw[zdu]
theorem HZ{x:IV}{l:List IV}:bB (x::l) 0 (n+1)=(bB l 0 n).map (x::·):=by simp[bB,rH,eB];rw[zdu]
variable {k:Nat}
def HX{l:List IV}:bB l k 0=some []:=aI
theorem zdv{x:IV}{l:List IV}{k:Nat}:∀{vs:List IV},dS (x::l) (k+1) vs=x::dS l k vs
 |[]=>rfl
 |v::vs=>by simp[dS,zk4];rw[zdv]
theorem Hq{x:IV}{l vs:List IV}:dS (x::l) 0 (v::vs)=v::dS l 0 vs:=by simp[dS,RP,eB];rw[zdv]
def Hp{l:List IV}:dS l k []=l:=aI
variable {cs:List IV}{off sz z:Nat}{tight:Bool}
section
variable {g:H->List IV} {aa:aS} 
noncomputable def iY(d:Nat)(ah:bq)(aJ aa:aS)(k:Nat)(v:IV):jI :=
 match v with
  |.nilsl=>if k=1 then some (.p,.int .i64 0,aa)else none
  |.slM _ _ _ n _ _ _=>if k=1 then some (.p,.int .i64 n,aa)else none
  |.slC _ n _ _=>if k=1 then some (.p,.int .i64 n,aa)else none
  |.str s=>if k=0 then some (.p,.int .i64 s.size,aa)else none
  |.dY=>if k=2 then some (.p,.int .i64 0,aa)else none
  |.cR ks _=>if k=2 then some (.p,.int .i64 ks.length,aa)else none
  |.mapM l i=>if k=2 then match look d ah aJ l i with
   |some (.map ks _ _ _)=>some (.r,.int .i64 ks.length,aa)
   |_=>none
   else none
  |_=>none
def PZ{x:bD}:bY C d ah n0 aJ aa t (.len k x)=iY d ah aJ aa k (ρ t x):=aI
theorem yx(q:aR sz g):iY d ah aJ aa 1 q.v=some (.p,.int .i64 (q.l.length:Nat),aa):=by
 let⟨l,v,ok,eZ⟩:=q;have hh:∀(cs:List IV)(n:Nat)(v:IV),Sl sz cs n v->iY d ah aJ aa 1 v=some (.p,.int .i64 (n:Nat),aa):=fun cs n v h=>xf9
 grind
def CP{l cap:Nat}:iY d ah aJ aa 1 (.slM l i off n cap z tight)=some (.p,.int .i64 n,aa):=aI
def CQ:iY d ah aJ aa 1 (.slC cs n z tight)=some (.p,.int .i64 n,aa):=aI
def CR:iY d ah aJ aa 1 .nilsl=some (.p,.int .i64 0,aa):=aI
noncomputable def cu(aa:aS)(sz:Nat)(v ix:IV):jI :=
 match v,lg ix with
  |.slM l i off len _ _ _,some j=>if j<len then some (.p,.ptrM l i (off+j*sz),aa)else none
  |.slC cs len _ _,some j=>if j<len then some (.p,.ptrC cs (j*sz),aa)else none
  |_,_=>none
def DC{x ix:bD}:bY C d ah n0 aJ aa t (.iaddr z x ix)=cu aa z (ρ t x) (ρ t ix):=aI
theorem zc(q:aR sz g){k:IntKind}{i:Nat}(h:i<q.l.length):cu aa sz q.v (.int k i)=some (.p,.ptrC (q.l.flatMap g) (i*sz),aa):=by
 let⟨l,v,ok,eZ⟩:=q;have hh:∀(cs:List IV)(n:Nat)(v:IV),Sl sz cs n v->i<n->cu aa sz v (.int k i)=some (.p,.ptrC cs (i*sz),aa):=fun cs n v h hi=>by
  cases h
  .omega
  .exact bU hi
 grind
theorem zC{k:IntKind}(h:i<n):cu aa z (.slC cs n sz tight) (.int k i)=some (.p,.ptrC cs (i*z),aa):=by exact bU h
theorem zo{l b cap z':Nat}{k:IntKind}(h:i<n):cu aa z (.slM l b off n cap z' tight) (.int k i)=some (.p,.ptrM l b (off+i*z),aa):=by exact bU h
theorem yI(q:aR sz g):q.v.scalar=true:=by
 let⟨l,v,ok,eZ⟩:=q;have hh:∀(cs:List IV)(n:Nat)(v:IV),Sl sz cs n v->v.scalar=true:=fun cs n v h=>xf9
 grind
theorem YH(q:aR sz g):q.v.cells=[q.v]:=by
 let⟨l,v,ok,eZ⟩:=q;have hh:∀(cs:List IV)(n:Nat)(v:IV),Sl sz cs n v->v.cells=[v]:=fun cs n v h=>xf9
 grind
theorem zB(q:aR sz g){lk:Nat->Nat->Option aP}:bW lk sz q.v=some (q.l.flatMap g,q.l.length):=by
 let⟨l,v,ok,eZ⟩:=q;have hh:∀(cs:List IV)(n:Nat)(v:IV),Sl sz cs n v->bW lk sz v=some (cs,n):=fun cs n v h=>by
  cases h
  .rfl
  .rename_i h;simp only[bW,seg,zi,eB,h,cI,if_true,s7,iJ];grind
 grind
end
def Zz:(IV.agg cs).cells=cs:=aI
def vL{k:IntKind}{n:Int}:(IV.int k n).cells=[.int k n]:=aI
def ze3:(IV.bool b).cells=[.bool b]:=aI
variable {s:ByteArray}
def vI:(IV.str s).cells=[.str s]:=aI
def zdb:IV.nilsl.cells=[.nilsl]:=aI
def zbe:IV.bw.cells=[.bw]:=aI
def zbf{k:IntKind}{n:Int}:(IV.int k n).scalar=true:=aI
def ux:(IV.bool b).scalar=true:=aI
def BJ:(IV.str s).scalar=true:=aI
def Yn:IV.nilsl.scalar=true:=aI
def uw{l o:Nat}:(IV.ptrM l i o).scalar=true:=aI
def BK{l o c:Nat}:(IV.slM l i o n c z tight).scalar=true:=aI
def BL:(IV.slC cs n z tight).scalar=true:=aI
def vJ{l o c:Nat}:(IV.slM l i o n c z tight).cells=[.slM l i o n c z tight]:=aI
def vK:(IV.slC cs n z tight).cells=[.slC cs n z tight]:=aI
variable {f:FuncId}
def HL{a b:List IV}:(IV.fn f a b).scalar=true:=aI
section
variable {x y z w:aP} {l:aS}
def I7:(bI vis (n+1) (x::l))[0]?=some x:=xb5
def I6:(bI vis (n+1+1) (x::y::l))[1]?=some y:=xb5
def I5:(bI vis (n+1+1+1) (x::y::z::l))[2]?=some z:=xb5
variable {a b c e:aP}
def I3:(bI vis (n+1+1+1+1+1) (x::y::z::w::a::l))[4]?=some a:=xb5
def I2:(bI vis (n+1+1+1+1+1+1) (x::y::z::w::a::b::l))[5]?=some b:=xb5
def I1:(bI vis (n+1+1+1+1+1+1+1) (x::y::z::w::a::b::c::l))[6]?=some c:=xb5
def C9{J:aS}:(bI vis (J.length+1+1) (x::(J++[y])))[J.length+1]?=some y:=xb5
def I4:(bI vis (n+1+1+1+1) (x::y::z::w::l))[3]?=some w:=xb5
end
section
variable {r:List H} {y v:H}
theorem xV:(l++x::r)[l.length]?=some x:=by simp
theorem ze4:(l++x::y::r)[l.length+1]?=some y:=by simp
variable {z w:H}
theorem ze5:(l++x::y::z::r)[l.length+2]?=some z:=by simp
theorem Dh:(l++x::y::z::w::r)[l.length+3]?=some w:=by simp
theorem HH:(l++x::r).set l.length v=l++v::r:=by simp
theorem BG:(l++x::y::r).set (l.length+1) v=l++x::v::r:=by simp
end
section
variable {st:St} 
def zn{a:IC}(xgs:Nat->St->Prop)(j:Nat)(hn:j<n)(h0:xgs j st)
  (h:∀(j:Nat)(st:St)(K':eU),xgs j st->(∀ st' j',j'<j->xgs j' st'->K' .normal st')->(∀ id st',K (.exit id) st'->K' (.exit id) st')->(∀ st',K .ret st'->K' .ret st')->Ex C d ah n a K' st):Ex C d ah n (.loop a) K st :=
 Ul xgs j hn h0 fun j st hI=>h j st _ hI (fun st' j' h1 h2=>⟨j',h1,h2⟩) (fun id st' hk=>hk) (fun st' hk=>hk)
def zm(l:Nat)(xgs:Nat->St->Prop)(hn:l<n)(h0:xgs 0 st)
  (h:∀(i:Nat)(st:St)(K':eU),i<=l->xgs i st->(i<l->∀ st',xgs (i+1) st'->K' .normal st')->(∀ id st',K (.exit id) st'->K' (.exit id) st')->(∀ st',K .ret st'->K' .ret st')->Ex C d ah n a K' st):Ex C d ah n (.loop a) K st :=
 zn (fun j st=>∃ i,l-i<=j/\i<=l/\xgs i st) l hn ⟨0,Z,Z,h0⟩ fun _ st K' ⟨i,h1,h2,h3⟩ hn he hr=>h i st K' h2 h3 (fun hl st' hI=>hn st' (l-(i+1)) Z ⟨i+1,Z,Z,hI⟩) he hr
end
variable {F:FuncId->Option gP}{S:bX}{args:List IV}{r:mY}{rs:List mY}
section
variable {st:St}
def Fin(d:Nat)(ah:bq)(rs:List mY)(v:IV)(o:Out)(st:St):Prop:=(o=.normal∨o=.ret)/\bh d ah st rs=some v
def JR:Fin d ah rs v .ret st=(bh d ah st rs=some v):=xbc
def ze6:Fin d ah rs v .normal st=(bh d ah st rs=some v):=xde
theorem aej:bh d ah st [r]=pR d ah st r:=by unfold bh;cases h:pR d ah st r<;>simp[h]
theorem res2{r':mY}:bh d ah st [r,r']=(pR d ah st r).bind fun v=>(pR d ah st r').map fun w=>.tuple [v,w]:=by
 unfold bh;cases h:pR d ah st r with
 |none=>grind
 |some v=>cases h':pR d ah st r'<;>simp[h,h']
noncomputable def jY(d:Nat)(ah:bq)(aa:aS)(agg:Bool)(n:Nat)(v:IV):Option IV:=match v with
 |.ptrM l i off=>match look d ah aa l i with
  |some (.cells c)=>(bB c off n).bind (ql agg)
  |_=>none
 |_=>none
theorem zV{aa:aS}:pR d ah ⟨t,aa⟩ (.tmp i)=some (pE (.tuple []) t i):=by simp only[pR];rw[yc]
theorem zW{aa:aS}{agg:Bool}{a:Nat}:pR d ah ⟨t,aa⟩ (.cell agg n a)=jY d ah aa agg n (pE (.tuple []) t a):=by rw[yc];rfl
def yu{i:gP}(hS:S f args=none)(hi:F f=some i)(hm:i.mode=0)(hv:Fz k v)(N:Nat)(hN:k<=N)
  (h:∀ m,N<=m->∀ d ah,Ex (aL F S m) d ah m i.body (Fin d ah i.res v) ⟨args++List.replicate (i.ntmps-args.length) (.tuple []),[]⟩):j0 F S f args v :=
 PB hS hi hm N fun m hm2 d ah=>(h m hm2 d ah).mono fun o st' hk=>⟨hk.1,hk.2,hv m Z _ _⟩
end
variable {m:Nat}
section
def Eo(d:Nat)(ah:bq)(rs:List mY)(m:Nat)(w:IV)(o:Out)(st:St):Prop:=(o=.normal∨o=.ret)/\∃ v,bh d ah st rs=some v/\freeze m d st.aa v=some w
variable {w:IV} {st:St}
def yj:Eo d ah rs m w .ret st=∃ v,bh d ah st rs=some v/\freeze m d st.aa v=some w:=xbc
def zdc:Eo d ah rs m w .normal st=∃ v,bh d ah st rs=some v/\freeze m d st.aa v=some w:=xde
theorem ze7{i:gP}{w:IV}(hS:S f args=none)(hi:F f=some i)(hm:i.mode=0)(N:Nat)
  (h:∀ m,N<=m->∀ d ah,Ex (aL F S m) d ah m i.body (Eo d ah i.res m w) ⟨args++List.replicate (i.ntmps-args.length) (.tuple []),[]⟩):j0 F S f args w:=by
 refine⟨N+1,fun m hN d ah aJ aa id=>?_⟩
 obtain⟨m,rfl⟩:∃ q,m=q+1:=⟨m-1,Z⟩
 let⟨o,st,h1,h2,v,h3,h4⟩:=h m Z (d+1) (fun l=>if l=d then aJ else ah l)
 exact xaz
end
section
variable {g:H->List IV} 
theorem abp(hg:∀ a,∀ x∈g a,Fz k x){len:Nat}:Fz (k+1) (.slC (l.flatMap g) len sz tight):=xW fun x hx=>by grind
theorem yo(hg:∀ a,∀ x∈g a,Fz k x)(hk:k+1<=m){aa:aS}(hl:l.length=n)(hs:∀ a,(g a).length=sz)(ho:aa[i]?=some (.cells (l.flatMap g))):freeze m d aa (.slM d i 0 n n sz tight)=some (.slC (l.flatMap g) n sz (tight&&true)):=by
 obtain⟨m,rfl⟩:∃ q,m=q+1:=⟨m-1,Z⟩;have eX:seg (l.flatMap g) 0 (n*sz)=some (l.flatMap g):=by unfold seg;rw[zi,zj hs,hl,bU Z,s7,fT (by rw[zj hs,hl];grind)]
 simp only[freeze,if_true,ho,eX,iD];rw [zD fun x hx=>by
  obtain⟨a,_,h⟩:=oQ.1 hx;exact hg a x h m Z d aa]
 simp
end
def Wc:=aj @ze1<|aj @JS<|aj @Ep<|aj @Er<|aj @JT<|aj @RG<|aj @JU<|aj @yA<|aj @zc9<|aj @zbc<|aj @YG<|aj @zda<|aj @zbd<|aj @AZ<|aj @Rs<|aj @Ek<|aj @A5<|aj @Rz<|aj @Em<|aj @PZ<|aj @DC<|aj @PX<|aj @vk<|aj @Jh<|aj @Ji<|aj @P5<|aj @DF<|aj @vl<|aj @Jj<|aj @Dz<|aj @P6<|aj @DE<|aj @P4<|aj @P3<|aj @P0<|aj @WC<|aj @Jk<|aj @Ah<|aj @DA<|aj @DD<|aj @DB<|aj @ze2<|aj @Jl<|aj @WD<|aj @yx<|aj @CP<|aj @CQ<|aj @CR<|aj @zi<|aj @ρ_at<|aj @ρRr<|aj @Cg<|aj @BD<|aj @BE<|aj @Zz<|aj @vL<|aj @ze3<|aj @vI<|aj @zdb<|aj @zbe<|aj @YH<|aj @zbf<|aj @ux<|aj @BJ<|aj @Yn<|aj @uw<|aj @HL<|aj @yI<|aj @zdu<|aj @HZ<|aj @HX<|aj @zdv<|aj @Hq<|aj @Hp<|aj @xV<|aj @ze4<|aj @HH<|aj @BG<|aj @JR<|aj @ze6<|aj @JV<|aj @Es<|aj @vS<|aj @Ej<|aj @Ru<|aj @Rx<|aj @Rv<|aj @Rw<|aj @Rt<|aj @zf<|aj @aej<|aj @res2<|aj @zV<|aj @zW<|aj @yj<|aj @zdc<|aj @BK<|aj @BL<|aj @vJ<|aj @vK<|aj @I7<|aj @I6<|aj @I5<|aj @I4<|aj @I3<|aj @I2<|aj @I1<|aj @El<|aj @RB<|aj @RE<|aj @RC<|aj @RD<|aj @RA<|aj @ze5<|aj @Dh<|@C9
def afo:=aj @Wc<|aj @u7<|aj @u9<|@ye
end
section
open Go Go.Proofs.Tryz
abbrev oR(d:Nat)(o:j5):cg:=⟨some d,o,none,[]⟩
abbrev oM(d a:Nat):cg:=⟨some d,.mov (.tmp a),none,[]⟩
abbrev oG(d:Nat)(o:j5)(j:Nat)(b:Bool):cg:=⟨some d,o,some (j,b),[]⟩
abbrev oN(o:j5):cg:=⟨none,o,none,[]⟩
abbrev oL(d a:Nat):cg:=⟨some d,.load false 1 (.tmp a),none,[]⟩
abbrev oA(d n a:Nat):cg:=⟨some d,.load true n (.tmp a),none,[]⟩
abbrev oD(d n a b:Nat):cg:=⟨some d,.iaddr n (.tmp a) (.tmp b),none,[]⟩
abbrev oF(d k a:Nat):cg:=⟨some d,.faddr k (.tmp a),none,[]⟩
abbrev oK(d:Nat)(x:Int):cg:=⟨some d,.mov (.const (.int .i64 x)),none,[]⟩
abbrev oJ(d:Nat)(o:BinOp)(a:Nat)(x:Int):cg:=⟨some d,.bin o (.tmp a) (.const (.int .i64 x)),none,[]⟩
abbrev oB(d:Nat)(o:BinOp)(a b:Nat):cg:=⟨some d,.bin o (.tmp a) (.tmp b),none,[]⟩
abbrev oE(d n a:Nat):cg:=⟨some d,.len n (.tmp a),none,[]⟩
abbrev oX(d a i:Nat):cg:=⟨some d,.extract (.tmp a) i,none,[]⟩
abbrev oH(d a s:Nat):cg:=⟨some d,.box (.tmp a) s,none,[]⟩
abbrev oZ(s:Nat)(l:List cg):IC:=.region false s l []
abbrev oC(a e:Nat):IC:=.cond (.tmp a) .skip (.exit e)
abbrev oT(a:Nat):bD:=.tmp a
abbrev oI(x:Int):bD:=.const (.int .i64 x)
def upL:Nat->List Nat->List Nat
 |0,a=>a
 |n+1,a=>upL n (n::a)
def SP:List cg->Nat->List Nat->List (Nat×Nat)->List cg
 |[],_,_,_=>[]
 |o::l,i,cur,[]=>{ o with vis:=cur }::SP l (i+1) cur []
 |o::l,i,cur,(k,n)::vs=>match Nat.beq i k with
  |true=>{ o with vis:=upL n [] }::SP l (i+1) (upL n []) vs
  |false=>{ o with vis:=cur }::SP l (i+1) cur ((k,n)::vs)
abbrev Ann:Type:=List (List (Nat×Nat)×List (Nat×Nat))
def uK(P:Program):Nat->TypeId->Option (List Nat)
 |0,_=>none
 |D+1,t=>match P.underlying t with
  |some .bool=>some [0]
  |some (.int _)=>some [1]
  |some .string=>some [2]
  |some (.struct fs)=>AD (uK P D) fs.toList 0
  |some (.array len e)=>(uK P D e).map fun l=>om l len
  |_=>none
def uOp(P:Program)(o:Op)(slot:Nat):Option j5 :=
 match o with
 |.binOp op t x y z=>match P.underlying t,bG x,bG y with
  |some (.struct _),some x,some y=>(uK P 40 t).map fun ks=>.eqagg (match op with|.neq=>true|_=>false) ks x y
  |some (.array _ _),some x,some y=>(uK P 40 t).map fun ks=>.eqagg (match op with|.neq=>true|_=>false) ks x y
  |_,_,_=>QK P (.binOp op t x y z) slot
 |.lookup t x ix ok=>match P.underlying t,bG x,bG ix with
  |some (.map k e),some y,some j=>match uK P 40 k,P.underlying k with
   |some kt,some u=>(iK P e).map fun z=>.lookup z (gO u,kt) ok y j
   |_,_=>none
  |_,_,_=>none
 |.mapUpdate t m k v=>match P.underlying t,bG m,bG k,bG v with
  |some (.map kt _),some a,some b,some c=>match uK P 40 kt,P.underlying kt with
   |some l,some u=>some (.mapupd (gO u,l) a b c)
   |_,_=>none
  |_,_,_,_=>none
 |o=>QK P o slot
def aec(P:Program)(ops:Array Oper):List Oper->Nat->Option (List cg×Nat)
 |[],s=>some ([],s)
 |o::rest,s=>match uOp P o.op s,pG ops o.guard with
  |some op,some g=>match aec P ops rest (if op.makes then s+1 else s)with
   |some (l,s')=>some (⟨o.dst,op,g,[]⟩::l,s')
   |none=>none
  |_,_=>none
def rI(P:Program):Code->Ann->Option (IC×Ann)
 |.skip,an=>some (.skip,an)
 |.region _ ops draw,an=>match aec P ops ops.toList 0 with
  |none=>none
  |some (l,s)=>match draw,an with
   |false,an=>some (.region false s l [],an)
   |true,(vs,fr)::an=>some (.region true s (SP l 0 [] vs) fr,an)
   |true,[]=>none
 |.seq a b,an=>match rI P a an with
  |some (x,an)=>match rI P b an with
   |some (y,an)=>some (.seq x y,an)
   |none=>none
  |none=>none
 |.cond c a b,an=>match bG c,rI P a an with
  |some z,some (x,an)=>match rI P b an with
   |some (y,an)=>some (.cond z x y,an)
   |none=>none
  |_,_=>none
 |.block id a,an=>match rI P a an with
  |some (x,an)=>some (.block id x,an)
  |none=>none
 |.loop a,an=>match rI P a an with
  |some (x,an)=>some (.loop x,an)
  |none=>none
 |.exit id,an=>some (.exit id,an)
 |.ret,an=>some (.ret,an)
 |_,_=>none
def uCF(P:Program)(fn:Func)(an:Ann)(mode:Nat):Option gP:=match fn.body with
 |none=>none
 |some c=>match rI P c an,allM (QI P) fn.results.toList with
  |some (b,_),some r=>some ⟨fn.ntmps,r,b,mode⟩
  |_,_=>none
abbrev bM(mode:Nat)(fn:Func)(an:Ann){i:gP}(_:uCF Tryz.prog fn an mode=some i:=by conv=>lhs;reduce;simp only[Int.reduceOfNat,Int.reduceNegSucc]):gP:=i
noncomputable section
def i6:=bM 0 f6 [([(5,1),(6,0),(8,2),(9,3)],[(0,1),(0,3),(1,3),(2,3),(0,4),(1,4),(2,4),(3,4),(0,6),(1,6),(2,6),(3,6),(4,6),(5,6),(0,7),(1,7),(2,7),(3,7),(4,7),(5,7),(6,7)])]
def i7:=bM 0 f7 []
def i8:=bM 0 f8 [([(22,1),(23,2),(28,3),(29,4)],[(20,21),(26,27)])]
def i9:=bM 0 f9 []
def i11:=bM 0 f11 [([],[(3,7)])]
def i12:=bM 0 f12 [([(11,1)],[(1,6),(4,6),(1,9),(4,9)])]
def i13:=bM 0 f13 []
def i15:=bM 0 f15 [([(6,1),(15,2)],[(0,4)])]
def i17:=bM 0 f17 [([(7,1),(8,2)],[(0,3),(0,6),(3,6)]),([(8,1),(9,2),(10,3)],[(1,4),(1,7),(4,7)]),([(6,1),(7,2),(8,3)],[(1,3),(1,5),(3,5)])]
def i18:=bM 0 f18 [([],[(3,4)])]
def i19:=bM 0 f19 []
def i20:gP:=⟨15,[(.cell true 4 4)],(.seq (oZ 1 [oR 4 (.newv [.nilsl,.nilsl,.nilsl,.nilsl] 0)]) (.seq (oZ 0 [oM 5 0,oR 6 (.build [(.int .i64 0),(.int .i64 0)] [(0,(1,(oT 5)))]),oR 7 (.build [(.int .i64 0),(.int .i64 0),(.int .i64 0)] [(0,(1,(oI 1))),(1,(2,(oT 6)))]),oR 8 (.bslice [(.int .i64 0),(.int .i64 0),(.int .i64 0)] 3 1 [(0,(3,(oT 7)))]),oR 9 (.build [.nilsl,.nilsl,.nilsl] [(0,(1,(oT 8)))]),oM 10 1,oR 11 (.bslice [(.int .i64 0)] 1 1 [(0,(1,(oI 1)))]),oR 12 (.build [(.int .i64 0),(.int .i64 0),(.int .i64 0),(.str (bs [])),.nilsl] [(0,(1,(oI 7))),(1,(1,(oI 1))),(2,(1,(oI 1))),(3,(1,(oT 10))),(4,(1,(oT 11)))]),oR 13 (.bslice [(.int .i64 0),(.int .i64 0),(.int .i64 0),(.str (bs [])),.nilsl] 5 1 [(0,(5,(oT 12)))]),oR 14 (.build [.nilsl,.nilsl,.nilsl,.nilsl] [(0,(3,(oT 9))),(3,(1,(oT 13)))]),oN (.store 4 (oT 4) (oT 14))]) .ret)),0⟩
def i21:=bM 0 f21 []
def i22:gP:=⟨113,[(.cell true 4 6),(.tmp 7)],(.seq (oZ 4 [oH 3 0 0,oH 4 1 1,oH 5 2 2,oR 6 (.newv [.nilsl,.nilsl,.nilsl,.nilsl] 3),oR 7 (.mov (.const .nilsl))]) (.seq (oZ 0 [oR 8 (.mov (.const .nilsl)),oR 9 (.mov (.const .nilsl))]) (.seq (.region true 2 [oR 16 (.call (.const (.fn 33 [] [])) [] 0),oF 17 0 3,oF 18 0 17,oL 19 18,oF 20 0 4,oF 21 0 20,oL 22 21,oF 23 0 5,oF 24 0 23,oL 25 24,⟨(.some 26),(.call (.const (.fn 40 [] [])) [(oT 16),(oT 19),(oT 22),(oT 25)] 1),.none,[0]⟩,⟨(.some 15),(.mov (oT 26)),.none,[0,1]⟩,⟨(.some 27),(.extract (oT 15) 0),.none,[0,1]⟩,⟨(.some 28),(.extract (oT 15) 1),.none,[0,1]⟩,⟨(.some 29),(.faddr 0 (oT 6)),.none,[0,1]⟩,⟨(.some 30),(.faddr 0 (oT 29)),.none,[0,1]⟩,⟨.none,(.store 1 (oT 30) (oT 27)),.none,[0,1]⟩,⟨(.some 7),(.mov (oT 28)),.none,[0,1]⟩] [(0,3),(0,6),(3,6),(0,9),(3,9),(6,9)]) (.seq (.region true 2 [oR 32 (.call (.const (.fn 35 [] [])) [] 0),oF 33 0 3,oF 34 1 33,oL 35 34,oF 36 0 4,oF 37 1 36,oL 38 37,oF 39 0 5,oF 40 1 39,oL 41 40,⟨(.some 42),(.call (.const (.fn 41 [] [])) [(oT 32),(oT 35),(oT 38),(oT 41)] 1),.none,[0]⟩,⟨(.some 31),(.mov (oT 42)),.none,[0,1]⟩,⟨(.some 43),(.extract (oT 31) 0),.none,[0,1]⟩,⟨(.some 44),(.extract (oT 31) 1),.none,[0,1]⟩,⟨(.some 45),(.faddr 0 (oT 6)),.none,[0,1]⟩,⟨(.some 46),(.faddr 1 (oT 45)),.none,[0,1]⟩,⟨.none,(.store 1 (oT 46) (oT 43)),.none,[0,1]⟩,⟨(.some 8),(.mov (oT 44)),.none,[0,1]⟩] [(0,3),(0,6),(3,6),(0,9),(3,9),(6,9)]) (.seq (.region true 2 [oR 48 (.call (.const (.fn 37 [] [])) [] 0),oF 49 3 3,oL 50 49,oF 51 3 4,oL 52 51,oF 53 3 5,oL 54 53,⟨(.some 55),(.call (.const (.fn 42 [] [])) [(oT 48),(oT 50),(oT 52),(oT 54)] 1),.none,[0]⟩,⟨(.some 47),(.mov (oT 55)),.none,[0,1]⟩,⟨(.some 56),(.extract (oT 47) 0),.none,[0,1]⟩,⟨(.some 57),(.extract (oT 47) 1),.none,[0,1]⟩,⟨(.some 58),(.faddr 3 (oT 6)),.none,[0,1]⟩,⟨.none,(.store 1 (oT 58) (oT 56)),.none,[0,1]⟩,⟨(.some 9),(.mov (oT 57)),.none,[0,1]⟩] [(0,2),(0,4),(2,4),(0,6),(2,6),(4,6)]) (.seq (oZ 0 [oR 10 (.mov (.const .nilsl))]) (.seq (.seq (oZ 0 [oF 59 0 6,oF 60 1 59,oL 61 60,oE 62 1 61,oK 63 0]) (.block 0 (.loop (.seq (oZ 0 [oB 64 .lss 63 62]) (.seq (oC 64 0) (.seq (.block 1 (.seq (oZ 1 [oM 65 63,oD 66 6 61 63,oA 67 6 66,oR 12 (.newv [(.int .i64 0),(.int .i64 0),(.int .i64 0),.nilsl,(.int .i64 0),(.int .i64 0)] 0),oM 11 65,oN (.store 6 (oT 12) (oT 67))]) (.seq (.region true 1 [oF 68 0 6,oF 69 1 68,oL 70 69,oM 71 11,oF 72 3 12,oL 73 72,oR 74 (.call (.const (.fn 43 [] [])) [(oT 73)] 0),⟨(.some 75),(.iaddr 6 (oT 70) (oT 71)),.none,[0]⟩,⟨(.some 76),(.faddr 3 (oT 75)),.none,[0]⟩,⟨.none,(.store 1 (oT 76) (oT 74)),.none,[0]⟩] [(2,5),(2,6)]) (oZ 1 [oM 77 10,oF 78 4 12,oL 79 78,oF 80 5 12,oL 81 80,oR 82 (.bslice [(.int .i64 0)] 1 2 [(0,(1,(oT 79))),(1,(1,(oT 81)))]),oR 83 (.append [(.int .i64 0)] 1 false (oT 77) (oT 82) 0),oM 10 83])))) (oZ 0 [oJ 84 .add 63 1,oM 63 84]))))))) (.seq (oZ 1 [oM 85 10,oR 86 (.bslice [(.int .i64 0)] 1 1 [(0,(1,(oI 0)))]),oR 87 (.call (.const (.fn 44 [] [])) [(oT 85),(oT 86)] 0),oF 88 0 6,oF 89 2 88,oN (.store 1 (oT 89) (oT 87))]) (.seq (.seq (oZ 0 [oF 90 3 6,oL 91 90,oE 92 1 91,oK 93 0]) (.block 2 (.loop (.seq (oZ 0 [oB 94 .lss 93 92]) (.seq (oC 94 2) (.seq (.block 3 (.seq (oZ 1 [oM 95 93,oD 96 5 91 93,oA 97 5 96,oR 14 (.newv [(.int .i64 0),(.int .i64 0),(.int .i64 0),(.str (bs [])),.nilsl] 0),oM 13 95,oN (.store 5 (oT 14) (oT 97))]) (.region true 1 [oF 98 3 6,oL 99 98,oM 100 13,oF 101 4 14,oL 102 101,oR 103 (.call (.const (.fn 45 [] [])) [(oT 102)] 0),⟨(.some 104),(.iaddr 5 (oT 99) (oT 100)),.none,[0]⟩,⟨(.some 105),(.faddr 4 (oT 104)),.none,[0]⟩,⟨.none,(.store 1 (oT 105) (oT 103)),.none,[0]⟩] [(1,4),(1,5)]))) (oZ 0 [oJ 106 .add 93 1,oM 93 106]))))))) (.seq (.region true 2 [oA 107 4 6,oM 108 7,oM 109 8,oR 110 (.append [(.int .i64 0),(.int .i64 0)] 2 false (oT 108) (oT 109) 0),oM 111 9,⟨(.some 112),(.append [(.int .i64 0),(.int .i64 0)] 2 false (oT 110) (oT 111) 1),.none,[0]⟩,⟨.none,(.store 4 (oT 6) (oT 107)),.none,[0,1]⟩,⟨(.some 7),(.mov (oT 112)),.none,[0,1]⟩] [(0,3),(0,5)]) .ret)))))))))),0⟩
def i23:=bM 3 f23 []
def i27:=bM 0 f27 [([],[(1,6),(4,6),(1,9),(4,9)]),([(11,1)],[(1,6),(4,6),(1,9),(4,9)]),([],[(1,6),(4,6),(1,9),(4,9)])]
def i28:=bM 0 f28 []
def i29:=bM 0 f29 []
def i30:=bM 0 f30 [([],[(0,2),(0,5)])]
def i31:=bM 0 f31 [([],[(4,8)])]
def i32:=bM 0 f32 [([],[(1,6),(4,6),(1,9),(4,9)])]
def i33:=bM 0 f33 []
def i34:=bM 1 f34 [([(5,1),(6,2)],[(0,3),(2,3)]),([],[(2,5)]),([(15,1)],[(7,10),(7,13),(10,13)])]
def i35:=bM 0 f35 []
def i36:=bM 1 f36 [([(5,1),(6,2)],[(0,3),(2,3)]),([],[(2,5)]),([(15,1)],[(7,10),(7,13),(10,13)])]
def i37:=bM 0 f37 []
def i38:=bM 1 f38 [([(5,1),(6,2)],[(0,3),(2,3)]),([],[(2,5)]),([(15,1)],[(7,10),(7,13),(10,13)])]
def i39:=bM 0 f39 []
def i40:=bM 7 f40 [([(5,1),(6,0),(8,2),(9,3)],[(0,3),(2,3),(0,6),(2,6),(3,6),(5,6)])]
def i41:=bM 1 f41 [([(5,1),(6,0),(8,2),(9,3)],[(0,3),(2,3),(0,6),(2,6),(3,6),(5,6)])]
def i42:gP:=⟨69,[(.tmp 8),(.tmp 9)],(.seq (oZ 1 [oH 4 0 0,oR 8 (.mov (.const .nilsl)),oR 9 (.mov (.const .nilsl))]) (.seq (.region true 3 [oA 18 3 4,oM 19 1,oR 20 (.call (.const (.fn 100 [] [])) [(oT 18),(oT 19)] 0),oA 21 3 4,oM 22 2,⟨(.some 23),(.call (.const (.fn 100 [] [])) [(oT 21),(oT 22)] 1),.none,[0]⟩,oA 24 3 4,oM 25 3,⟨(.some 26),(.call (.const (.fn 100 [] [])) [(oT 24),(oT 25)] 2),.none,[0,1]⟩,⟨(.some 10),(.mov (oT 20)),.none,[0,1,2]⟩,⟨(.some 11),(.mov (oT 23)),.none,[0,1,2]⟩,⟨(.some 12),(.mov (oT 26)),.none,[0,1,2]⟩] [(0,3),(2,3),(0,6),(2,6),(3,6),(5,6)]) (.seq (.seq (oZ 1 [oA 27 3 4,oM 28 1,oM 29 2,oM 30 3,oR 31 (.bslice [.nilsl] 1 3 [(0,(1,(oT 28))),(1,(1,(oT 29))),(2,(1,(oT 30)))]),oR 32 (.call (.const (.fn 101 [] [])) [(oT 27),(oT 31)] 0),oE 33 1 32,oK 34 0]) (.block 0 (.loop (.seq (oZ 0 [oB 35 .lss 34 33]) (.seq (oC 35 0) (.seq (.block 1 (.seq (oZ 0 [oD 36 1 32 34,oL 37 36,oM 14 37]) (.seq (oZ 2 [oA 39 3 4,oM 40 10,oM 41 14,oR 42 (.lookup .bw (false,[1]) false (oT 40) (oT 41)),oM 43 11,oM 44 14,oR 45 (.lookup .bw (false,[1]) false (oT 43) (oT 44)),oM 46 12,oM 47 14,oR 48 (.lookup .bw (false,[1]) false (oT 46) (oT 47)),oR 49 (.call (.const (.fn 105 [] [])) [(oT 39),(oT 42),(oT 45),(oT 48)] 0),oM 38 49,oX 50 38 0,oX 51 38 1,oX 52 38 2,oR 15 (.newv [(.int .i64 0),(.int .i64 0),(.int .i64 0),(.str (bs [])),.nilsl] 1),oN (.store 5 (oT 15) (oT 50)),oM 16 51,oM 17 52]) (.seq (.seq (oZ 0 [oM 53 16]) (.cond (oT 53) (oZ 1 [oM 54 8,oA 55 5 15,oR 56 (.bslice [(.int .i64 0),(.int .i64 0),(.int .i64 0),(.str (bs [])),.nilsl] 5 1 [(0,(5,(oT 55)))]),oR 57 (.append [(.int .i64 0),(.int .i64 0),(.int .i64 0),(.str (bs [])),.nilsl] 5 false (oT 54) (oT 56) 0),oM 8 57]) .skip)) (.seq (oZ 0 [oM 58 17]) (.cond (oT 58) (oZ 1 [oM 59 9,oF 60 0 4,oL 61 60,oM 62 14,oR 63 (.build [(.int .i64 0),(.int .i64 0)] [(0,(1,(oT 61))),(1,(1,(oT 62)))]),oR 64 (.bslice [(.int .i64 0),(.int .i64 0)] 2 1 [(0,(2,(oT 63)))]),oR 65 (.append [(.int .i64 0),(.int .i64 0)] 2 false (oT 59) (oT 64) 0),oM 9 65]) .skip)))))) (oZ 0 [oJ 66 .add 34 1,oM 34 66]))))))) (.seq (oZ 0 [oM 67 8,oM 68 9,oM 8 67,oM 9 68]) .ret)))),1⟩
def i43:=bM 0 f43 []
def i44:=bM 0 f44 []
def i45:=bM 0 f45 []
def i46:=bM 0 f46 []
def i47:=bM 0 f47 []
def i48:=bM 2 f48 []
def i49:=bM 0 f49 []
def i50:=bM 0 f50 []
def i51:=bM 0 f51 []
def i52:gP:=⟨12,[(.tmp 2)],(.seq (oZ 1 [oH 1 0 0,oR 2 (.mov (.const (.bool false)))]) (.seq (oZ 1 [oF 3 3 1,oL 4 3,oR 5 (.bin .neq (oT 4) (.const (.str (bs [])))),oM 6 5,oG 7 (.faddr 3 (oT 1)) 6 true,oG 8 (.load false 1 (oT 7)) 6 true,oG 9 (.call (.const (.fn 53 [] [])) [(oT 8)] 0) 6 true,oG 10 (.bin .neq (oT 9) (oI 0)) 6 true,oR 11 (.pick (oT 6) (oT 10) (.const (.bool false))),oM 2 11]) .ret)),0⟩
def i53:=bM 0 f53 []
def i54:=bM 0 f54 []
def i55:=bM 0 f55 []
def i56:=bM 0 f56 []
def i57:=bM 2 f57 []
def i58:=bM 2 f58 []
def i62:=bM 0 f62 []
def i67:=bM 0 f67 []
def i68:=bM 0 f68 [([],[(3,7)])]
def i69:=bM 0 f69 [([(7,1)],[(0,2),(0,5)]),([(8,1),(18,2)],[(0,2),(0,6),(10,12),(10,16)])]
def i70:=bM 0 f70 [([(11,1)],[(2,7),(2,9)]),([(12,1)],[(0,5),(0,10),(5,10)]),([(15,1)],[(0,5),(0,8),(0,13),(5,13),(8,13)]),([(5,1),(6,2)],[(2,4)])]
def i71:gP:=⟨80,[(.tmp 6)],(.seq (oZ 2 [oH 3 0 0,oH 4 1 1,oR 6 (.mov (.const (.bool false)))]) (.seq (.seq (oZ 0 [oM 7 2]) (.block 0 (.seq (oZ 0 [oJ 9 .eql 7 3,oM 8 9]) (.cond (oT 8) (.seq (oZ 0 [oF 10 4 4,oL 11 10,oE 12 1 11,oJ 13 .gtr 12 64,oM 6 13]) .ret) (.seq (oZ 0 [oJ 15 .eql 7 10,oM 14 15]) (.cond (oT 14) (.seq (oZ 1 [oF 16 4 4,oL 17 16,oR 18 (.call (.const (.fn 31 [] [])) [(oT 17)] 0),oR 19 (.un .not (oT 18)),oM 6 19]) .ret) (.seq (oZ 0 [oJ 21 .eql 7 2,oM 20 21]) (.cond (oT 20) (.seq (oZ 0 [oF 22 0 4,oL 23 22,oJ 24 .lss 23 1,oM 25 24,oG 26 (.faddr 0 (oT 4)) 25 false,oG 27 (.load false 1 (oT 26)) 25 false,oG 28 (.bin .gtr (oT 27) (oI 1073741824)) 25 false,oR 29 (.pick (oT 25) (.const (.bool true)) (oT 28)),oM 30 29,oG 31 (.faddr 2 (oT 4)) 30 false,oG 32 (.load false 1 (oT 31)) 30 false,oG 33 (.bin .lss (oT 32) (oI 1)) 30 false,oR 34 (.pick (oT 30) (.const (.bool true)) (oT 33)),oM 35 34,oG 36 (.faddr 2 (oT 4)) 35 false,oG 37 (.load false 1 (oT 36)) 35 false,oG 38 (.bin .gtr (oT 37) (oI 9)) 35 false,oR 39 (.pick (oT 35) (.const (.bool true)) (oT 38)),oM 6 39]) .ret) (.seq (oZ 0 [oJ 41 .eql 7 9,oM 40 41]) (.cond (oT 40) (.seq (oZ 1 [oF 42 1 4,oL 43 42,oR 44 (.call (.const (.fn 143 [] [])) [(oT 43)] 0),oJ 45 .eql 44 0,oM 6 45]) .ret) (.seq (oZ 0 [oJ 47 .eql 7 14,oM 46 47]) (.cond (oT 46) (.seq (oZ 1 [oF 48 3 4,oL 49 48,oR 50 (.bin .neq (oT 49) (.const (.str (bs [])))),oM 51 50,oG 52 (.faddr 3 (oT 4)) 51 true,oG 53 (.load false 1 (oT 52)) 51 true,oG 54 (.call (.const (.fn 144 [] [])) [(oT 53)] 0) 51 true,oG 55 (.bin .neq (oT 54) (oI 0)) 51 true,oR 56 (.pick (oT 51) (oT 55) (.const (.bool false))),oM 6 56]) .ret) (.seq (oZ 0 [oJ 58 .eql 7 1,oM 57 58]) (.cond (oT 57) (.seq (oZ 1 [oF 59 4 4,oL 60 59,oE 61 1 60,oJ 62 .eql 61 0,oM 63 62,oG 64 (.faddr 1 (oT 4)) 63 false,oG 65 (.load false 1 (oT 64)) 63 false,oG 66 (.call (.const (.fn 143 [] [])) [(oT 65)] 0) 63 false,oG 67 (.bin .eql (oT 66) (oI 1)) 63 false,oG 68 (.mov (oT 67)) 63 false,oG 69 (.faddr 4 (oT 4)) 68 true,oG 70 (.load false 1 (oT 69)) 68 true,oG 71 (.len 1 (oT 70)) 68 true,oG 72 (.bin .gtr (oT 71) (oI 1)) 68 true,oG 73 (.pick (oT 68) (oT 72) (.const (.bool false))) 63 false,oR 74 (.pick (oT 63) (.const (.bool true)) (oT 73)),oM 6 74]) .ret) .skip)))))))))))))) (.seq (oZ 1 [oF 75 0 3,oA 76 3 75,oA 77 5 4,oR 78 (.call (.const (.fn 145 [] [])) [(oT 76),(oT 77)] 0),oR 79 (.un .not (oT 78)),oM 6 79]) .ret))),0⟩
def i72:=bM 0 f72 [([(3,1),(10,2),(11,3),(17,4)],[(6,9),(7,9),(20,22)]),([],[(1,3),(1,6)])]
def i73:=bM 0 f73 []
def i74:=bM 0 f74 []
def i75:=bM 2 f75 []
def i76:=bM 0 f76 [([(7,1)],[(1,5)])]
def i77:=bM 0 f77 []
def i78:=bM 0 f78 []
def i79:=bM 0 f79 []
def i80:=bM 0 f80 []
def i81:=bM 0 f81 [([],[(3,7)])]
def i82:=bM 2 f82 [([],[(4,6),(4,8),(6,8),(6,11),(8,11),(8,14)])]
def i83:=bM 0 f83 []
def i84:=bM 2 f84 []
def i85:=bM 0 f85 []
def i86:=bM 2 f86 []
def i87:=bM 0 f87 [([(7,1)],[(1,5)])]
def i88:=bM 0 f88 []
def i89:=bM 0 f89 []
def i90:=bM 0 f90 []
def i91:=bM 0 f91 []
def i92:=bM 2 f92 []
def i93:=bM 0 f93 []
def i94:=bM 2 f94 []
def i95:=bM 0 f95 []
def i96:=bM 2 f96 []
def i97:=bM 0 f97 []
def i98:=bM 0 f98 [([],[(3,7)])]
def i99:=bM 2 f99 []
def i100:=bM 0 f100 [([(7,1)],[(1,5)])]
def i101:gP:=⟨33,[(.tmp 4)],(.seq (oZ 1 [oH 2 0 0,oR 4 (.mov (.const .nilsl))]) (.seq (oZ 0 [oR 5 (.mov (.const .nilsl))]) (.seq (.seq (oZ 0 [oM 10 1,oE 11 1 10,oK 12 0]) (.block 0 (.loop (.seq (oZ 0 [oB 13 .lss 12 11]) (.seq (oC 13 0) (.seq (.block 1 (.seq (oZ 0 [oD 14 1 10 12,oL 15 14,oM 7 15]) (.seq (oZ 0 [oM 16 7,oE 17 1 16,oK 18 0]) (.block 2 (.loop (.seq (oZ 0 [oB 19 .lss 18 17]) (.seq (oC 19 2) (.seq (.block 3 (.seq (oZ 1 [oD 20 5 16 18,oA 21 5 20,oR 9 (.newv [(.int .i64 0),(.int .i64 0),(.int .i64 0),(.str (bs [])),.nilsl] 0),oN (.store 5 (oT 9) (oT 21))]) (oZ 2 [oM 22 5,oF 23 1 2,oL 24 23,oA 25 5 9,oR 26 (.call (oT 24) [(oT 25)] 0),oR 27 (.bslice [(.int .i64 0)] 1 1 [(0,(1,(oT 26)))]),oR 28 (.append [(.int .i64 0)] 1 false (oT 22) (oT 27) 1),oM 5 28]))) (oZ 0 [oJ 29 .add 18 1,oM 18 29]))))))))) (oZ 0 [oJ 30 .add 12 1,oM 12 30]))))))) (.seq (oZ 1 [oM 31 5,oR 32 (.call (.const (.fn 147 [] [])) [(oT 31)] 0),oM 4 32]) .ret)))),0⟩
def i102:=bM 0 f102 []
def i103:=bM 0 f103 [([(8,1)],[(0,3),(0,6),(3,6)]),([(9,1)],[(1,4),(1,7),(4,7)]),([(12,1)],[(4,7),(4,10),(7,10)]),([],[(1,4)]),([(12,1)],[(4,7),(4,10),(7,10)])]
def i104:=bM 0 f104 [([(8,1)],[(0,3),(0,6),(3,6)]),([(9,1)],[(1,4),(1,7),(4,7)]),([(12,1)],[(4,7),(4,10),(7,10)]),([],[(1,4)]),([(12,1)],[(4,7),(4,10),(7,10)])]
def i105:gP:=⟨111,[(.cell true 5 8),(.tmp 9),(.tmp 10)],(.seq (oZ 2 [oH 4 0 0,oR 8 (.newv [(.int .i64 0),(.int .i64 0),(.int .i64 0),(.str (bs [])),.nilsl] 1),oR 9 (.mov (.const (.bool false))),oR 10 (.mov (.const (.bool false)))]) (.seq (.seq (oZ 0 [oM 14 2,oR 15 (.eqp false (oT 14) (.const .bw)),oM 16 15,oG 17 (.mov (oT 3)) 16 true,oG 18 (.eqp false (oT 17) (.const .bw)) 16 true,oR 19 (.pick (oT 16) (oT 18) (.const (.bool false)))]) (.cond (oT 19) (.seq (oZ 0 [oA 20 5 8,oN (.store 5 (oT 8) (oT 20)),oR 9 (.mov (.const (.bool false))),oR 10 (.mov (.const (.bool false)))]) .ret) .skip)) (.seq (.seq (oZ 0 [oM 21 2,oR 22 (.eqp false (oT 21) (.const .bw)),oM 23 22,oG 24 (.mov (oT 3)) 23 false,oG 25 (.eqp false (oT 24) (.const .bw)) 23 false,oR 26 (.pick (oT 23) (.const (.bool true)) (oT 25))]) (.cond (oT 26) (.seq (oZ 0 [oM 27 2,oM 11 27]) (.seq (.seq (oZ 0 [oM 28 11,oR 29 (.eqp false (oT 28) (.const .bw))]) (.cond (oT 29) (oZ 0 [oM 30 3,oM 11 30]) .skip)) (.seq (.block 0 (.seq (oZ 0 [oM 32 1,oR 33 (.eqp false (oT 32) (.const .bw)),oM 31 33]) (.cond (oT 31) (.seq (oZ 0 [oM 34 11,oR 35 (.nilchk (oT 34)),oA 36 5 35,oN (.store 5 (oT 8) (oT 36)),oR 9 (.mov (.const (.bool true))),oR 10 (.mov (.const (.bool false)))]) .ret) (.seq (.region true 1 [oA 38 3 4,oM 39 1,oR 40 (.nilchk (oT 39)),oA 41 5 40,oM 42 11,oR 43 (.nilchk (oT 42)),oA 44 5 43,oR 45 (.call (.const (.fn 102 [] [])) [(oT 38),(oT 41),(oT 44)] 0),⟨(.some 37),(.mov (oT 45)),.none,[0]⟩] [(0,3),(0,6),(3,6)]) (.cond (oT 37) (.seq (oZ 0 [oA 46 5 8,oN (.store 5 (oT 8) (oT 46)),oR 9 (.mov (.const (.bool false))),oR 10 (.mov (.const (.bool false)))]) .ret) (.seq (oZ 0 [oM 48 2,oR 49 (.eqp false (oT 48) (.const .bw)),oM 47 49]) (.cond (oT 47) (.seq (oZ 0 [oA 50 5 8,oN (.store 5 (oT 8) (oT 50)),oR 9 (.mov (.const (.bool false))),oR 10 (.mov (.const (.bool true)))]) .ret) .skip))))))) (.seq (oZ 0 [oM 51 2,oR 52 (.nilchk (oT 51)),oA 53 5 52,oN (.store 5 (oT 8) (oT 53)),oR 9 (.mov (.const (.bool true))),oR 10 (.mov (.const (.bool true)))]) .ret)))) .skip)) (.seq (oZ 0 [oM 54 2,oR 55 (.nilchk (oT 54)),oA 56 5 55,oN (.store 5 (oT 8) (oT 56))]) (.seq (.seq (oZ 0 [oF 57 2 4,oL 58 57,oE 59 1 58,oK 60 0]) (.block 1 (.loop (.seq (oZ 0 [oB 61 .lss 60 59]) (.seq (oC 61 1) (.seq (.block 2 (.seq (oZ 1 [oD 62 2 58 60,oA 63 2 62,oR 13 (.newv [.iX,.iX] 0),oN (.store 2 (oT 13) (oT 63))]) (.block 3 (.seq (.region true 1 [oF 65 0 13,oL 66 65,oM 67 2,oR 68 (.nilchk (oT 67)),oA 69 5 68,oM 70 3,oR 71 (.nilchk (oT 70)),oA 72 5 71,oR 73 (.call (oT 66) [(oT 69),(oT 72)] 0),⟨(.some 64),(.mov (oT 73)),.none,[0]⟩] [(1,4),(1,7),(4,7)]) (.cond (oT 64) .skip (.seq (.region true 1 [oM 75 1,oR 76 (.eqp true (oT 75) (.const .bw)),oM 77 76,oG 78 (.faddr 0 (oT 13)) 77 true,oG 79 (.load false 1 (oT 78)) 77 true,oG 80 (.mov (oT 1)) 77 true,oG 81 (.nilchk (oT 80)) 77 true,oG 82 (.load true 5 (oT 81)) 77 true,oG 83 (.mov (oT 2)) 77 true,oG 84 (.nilchk (oT 83)) 77 true,oG 85 (.load true 5 (oT 84)) 77 true,oG 86 (.call (oT 79) [(oT 82),(oT 85)] 0) 77 true,⟨(.some 87),(.pick (oT 77) (oT 86) (.const (.bool false))),.none,[0]⟩,⟨(.some 74),(.mov (oT 87)),.none,[0]⟩] [(4,7),(4,10),(7,10)]) (.cond (oT 74) (.region true 1 [oF 88 1 13,oL 89 88,oM 90 3,oR 91 (.nilchk (oT 90)),oA 92 5 91,oR 93 (.call (oT 89) [(oT 8),(oT 92)] 0)] [(1,4)]) (.seq (.region true 1 [oM 95 1,oR 96 (.eqp true (oT 95) (.const .bw)),oM 97 96,oG 98 (.faddr 0 (oT 13)) 97 true,oG 99 (.load false 1 (oT 98)) 97 true,oG 100 (.mov (oT 1)) 97 true,oG 101 (.nilchk (oT 100)) 97 true,oG 102 (.load true 5 (oT 101)) 97 true,oG 103 (.mov (oT 3)) 97 true,oG 104 (.nilchk (oT 103)) 97 true,oG 105 (.load true 5 (oT 104)) 97 true,oG 106 (.call (oT 99) [(oT 102),(oT 105)] 0) 97 true,⟨(.some 107),(.pick (oT 97) (oT 106) (.const (.bool false))),.none,[0]⟩,⟨(.some 94),(.mov (oT 107)),.none,[0]⟩] [(4,7),(4,10),(7,10)]) (.cond (oT 94) .skip (oZ 0 [oR 10 (.mov (.const (.bool true)))])))))))))) (oZ 0 [oJ 108 .add 60 1,oM 60 108]))))))) (.seq (oZ 0 [oA 109 5 8,oM 110 10,oN (.store 5 (oT 8) (oT 109)),oR 9 (.mov (.const (.bool true))),oM 10 110]) .ret)))))),0⟩
def i106:=bM 1 f106 []
def i107:=bM 0 f107 []
def i108:=bM 0 f108 []
def i109:=bM 0 f109 []
def i110:=bM 0 f110 []
def i111:=bM 2 f111 [([(18,1)],[(4,5),(4,11),(5,11),(9,11)])]
def i112:=bM 0 f112 [([],[(4,8)])]
def i113:gP:=⟨45,[(.tmp 2),(.tmp 3)],(.seq (oZ 0 [oR 2 (.mov (.const .nilsl)),oK 3 0]) (.seq (.seq (oZ 0 [oM 6 0,oR 7 (.bin .eql (oT 6) (.const (.str (bs []))))]) (.cond (oT 7) (.seq (oZ 0 [oR 2 (.mov (.const .nilsl)),oK 3 14]) .ret) .skip)) (.seq (.seq (oZ 0 [oM 8 0,oE 9 0 8,oJ 10 .gtr 9 40]) (.cond (oT 10) (.seq (oZ 0 [oR 2 (.mov (.const .nilsl)),oK 3 3]) .ret) .skip)) (.seq (oZ 1 [oM 12 0,oR 13 (.call (.const (.fn 157 [] [])) [(oT 12)] 0),oM 11 13,oX 14 11 0,oX 15 11 1,oM 2 14,oM 3 15]) (.seq (.seq (oZ 0 [oM 16 3,oJ 17 .neq 16 0]) (.cond (oT 17) (.seq (oZ 0 [oM 18 3,oR 2 (.mov (.const .nilsl)),oM 3 18]) .ret) .skip)) (.seq (.seq (oZ 1 [oM 19 0,oR 20 (.indexS (oT 19) (oI 0)),oR 21 (.bin .eql (oT 20) (.const (.int .u8 32))),oM 22 21,oG 23 (.mov (oT 0)) 22 false,oG 24 (.mov (oT 0)) 22 false,oG 25 (.len 0 (oT 24)) 22 false,oG 26 (.bin .sub (oT 25) (oI 1)) 22 false,oG 27 (.indexS (oT 23) (oT 26)) 22 false,oG 28 (.bin .eql (oT 27) (.const (.int .u8 32))) 22 false,oR 29 (.pick (oT 22) (.const (.bool true)) (oT 28)),oM 30 29,oG 31 (.mov (oT 0)) 30 false,oG 32 (.call (.const (.fn 158 [] [])) [(oT 31),(.const (.str (bs [32,32])))] 0) 30 false,oR 33 (.pick (oT 30) (.const (.bool true)) (oT 32))]) (.cond (oT 33) (.seq (oZ 0 [oR 2 (.mov (.const .nilsl)),oK 3 14]) .ret) .skip)) (.seq (.seq (oZ 0 [oM 34 2,oE 35 1 34,oK 36 0]) (.block 0 (.loop (.seq (oZ 0 [oB 37 .lss 36 35]) (.seq (oC 37 0) (.seq (.block 1 (.seq (oZ 0 [oD 38 1 34 36,oL 39 38,oM 5 39]) (.seq (oZ 1 [oM 40 5,oR 41 (.call (.const (.fn 159 [] [])) [(oT 40)] 0),oJ 42 .neq 41 0]) (.cond (oT 42) (.seq (oZ 0 [oM 43 2,oM 2 43,oK 3 0]) .ret) .skip)))) (oZ 0 [oJ 44 .add 36 1,oM 36 44]))))))) (.seq (oZ 0 [oR 2 (.mov (.const .nilsl)),oK 3 14]) .ret)))))))),0⟩
def i114:=bM 0 f114 []
def i115:=bM 0 f115 []
def i116:=bM 0 f116 []
def i117:=bM 0 f117 []
def i118:=bM 0 f118 []
def i119:=bM 2 f119 []
def i120:=bM 2 f120 []
def i125:=bM 0 f125 []
def i126:=bM 0 f126 []
def i127:=bM 0 f127 [([(7,1),(8,2)],[])]
def i129:=bM 0 f129 [([],[(3,7)])]
def i130:=bM 0 f130 []
def i131:=bM 3 f131 [([],[(4,8)])]
def i132:=bM 1 f132 []
def i133:=bM 0 f133 [([(3,1),(4,2),(5,0),(7,3),(8,4)],[(0,2),(1,2),(0,6),(1,6),(2,6),(3,6),(4,6)])]
def i134:=bM 0 f134 [([],[(1,7),(5,7),(1,11),(5,11)])]
def i135:=bM 0 f135 [([(9,1),(10,0),(11,2)],[(1,4),(1,7),(4,7),(5,7)])]
def i136:=bM 0 f136 []
def i137:=bM 0 f137 [([(6,1)],[(0,4)]),([(23,1),(50,2)],[(5,11),(17,21),(31,37),(40,44),(40,48),(44,48)])]
def i138:=bM 1 f138 [([(6,1)],[(0,4)]),([(10,1),(13,2)],[(0,2),(0,6),(2,6),(0,8),(2,8),(0,9),(0,11)]),([(13,1)],[(6,10)]),([(8,1)],[(0,2),(0,6)]),([(9,1)],[(0,3),(0,7)]),([(15,1)],[(6,8),(6,12)])]
def i139:=bM 0 f139 []
def i140:=bM 0 f140 [([(7,1)],[(0,4)])]
def i141:=bM 0 f141 [([],[(3,7)])]
def i142:=bM 0 f142 []
def i143:=bM 0 f143 []
def i144:gP:=⟨29,[(.tmp 2)],(.seq (oZ 0 [oK 2 0]) (.seq (.seq (oZ 0 [oM 5 0,oR 6 (.bin .eql (oT 5) (.const (.str (bs []))))]) (.cond (oT 6) (.seq (oZ 0 [oK 2 14]) .ret) .skip)) (.seq (.seq (oZ 0 [oM 7 0,oE 8 0 7,oJ 9 .gtr 8 40]) (.cond (oT 9) (.seq (oZ 0 [oK 2 3]) .ret) .skip)) (.seq (oZ 1 [oM 11 0,oR 12 (.call (.const (.fn 177 [] [])) [(oT 11)] 0),oM 10 12,oX 13 10 0,oX 14 10 1,oM 3 13,oM 4 14]) (.seq (.seq (oZ 0 [oM 15 4,oJ 16 .neq 15 0]) (.cond (oT 16) (.seq (oZ 0 [oM 17 4,oM 2 17]) .ret) .skip)) (.seq (.seq (oZ 2 [oM 18 3,oE 19 1 18,oJ 20 .eql 19 0,oM 21 20,oG 22 (.mov (oT 3)) 21 false,oG 23 (.call (.const (.fn 178 [] [])) [(oT 22)] 0) 21 false,oR 24 (.pick (oT 21) (.const (.bool true)) (oT 23)),oM 25 24,oG 26 (.mov (oT 3)) 25 false,oG 27 (.call (.const (.fn 179 [] [])) [(oT 26)] 1) 25 false,oR 28 (.pick (oT 25) (.const (.bool true)) (oT 27))]) (.cond (oT 28) (.seq (oZ 0 [oK 2 14]) .ret) .skip)) (.seq (oZ 0 [oK 2 0]) .ret))))))),0⟩
def i145:=bM 0 f145 [([(9,1),(10,2)],[(0,2),(0,3),(0,5),(2,5),(3,5),(0,8),(2,8),(3,8)])]
def i146:=bM 0 f146 []
def i147:=bM 0 f147 []
def i148:=bM 1 f148 []
def i149:gP:=⟨1,[],.skip,6⟩
def i150:=bM 2 f150 [([],[(3,8)]),([],[(3,8)])]
def i151:=bM 0 f151 []
def i152:=bM 0 f152 []
def i153:=bM 0 f153 [([(6,1)],[(0,5)])]
def i154:=bM 0 f154 []
def i155:=bM 0 f155 [([],[(3,6)]),([(11,1)],[(6,8)])]
def i156:=bM 0 f156 [([(6,1)],[(0,2),(0,4)]),([],[(2,4),(2,5)])]
def i160:=bM 0 f160 []
def i161:=bM 0 f161 []
def i162:=bM 0 f162 []
def i165:=bM 0 f165 []
def i166:=bM 0 f166 []
def i167:=bM 0 f167 [([(7,1)],[(0,2),(0,5)]),([(22,1)],[(2,8),(5,8),(2,13),(5,13),(8,13),(2,18),(5,18),(8,18),(13,18)])]
def i168:=bM 0 f168 []
def i169:=bM 0 f169 []
def i170:=bM 0 f170 []
def i171:=bM 0 f171 [([(6,1)],[(0,4)]),([(13,1),(14,2),(15,3)],[(6,12),(7,12)])]
def i172:=bM 0 f172 []
def i173:=bM 0 f173 [([(6,1)],[(0,4)]),([(6,1)],[(0,4)]),([],[(6,11),(6,18),(11,18),(6,24),(11,24),(18,24)])]
def i174:=bM 0 f174 [([(7,1),(22,2),(23,3)],[(0,4),(0,5),(4,5),(11,15),(11,17),(15,17),(16,17),(11,21),(15,21),(16,21),(17,21)])]
def i175:=bM 0 f175 [([(3,1),(4,2)],[(0,2)])]
def i176:=bM 0 f176 []
def i180:=bM 0 f180 []
def i181:=bM 1 f181 []
def i184:=bM 0 f184 []
def i185:=bM 0 f185 []
def i186:=bM 0 f186 [([],[(2,5)]),([],[(2,6),(2,9)])]
def i187:=bM 0 f187 []
def i188:=bM 2 f188 []
def i189:=bM 0 f189 []
def i190:=bM 0 f190 [([],[(5,11),(5,18),(11,18),(5,23),(11,23),(18,23)])]
def i191:=bM 0 f191 [([(24,1)],[(7,12),(21,22)])]
def i192:=bM 0 f192 []
def i193:=bM 0 f193 []
def i194:=bM 0 f194 []
def i196:=bM 0 f196 []
def i197:=bM 0 f197 []
def i198:=bM 0 f198 [([(9,1),(10,2)],[(0,1),(0,2),(1,2),(0,3),(1,3),(2,3),(0,5),(1,5),(2,5),(3,5),(4,5),(0,6),(1,6),(2,6),(3,6),(4,6),(5,6),(0,7),(1,7),(2,7),(3,7),(4,7),(5,7),(6,7),(0,8),(1,8),(2,8),(3,8),(4,8),(5,8),(6,8),(7,8)])]
def i199:=bM 0 f199 []
def i200:=bM 0 f200 []
def i201:=bM 0 f201 []
def i202:=bM 0 f202 [([(8,1)],[(0,2),(0,6)])]
def i203:=bM 0 f203 []
def i204:=bM 0 f204 []
def i205:=bM 0 f205 [([],[(3,6),(3,9)])]
def i206:=bM 0 f206 []
def i207:=bM 0 f207 []
def i208:=bM 0 f208 [([(6,1)],[(0,4)]),([(11,2)],[(4,8),(4,9),(8,9),(4,10),(8,10),(9,10),(8,11)])]
def i209:=bM 0 f209 []
def i210:=bM 0 f210 []
def i224:=bM 0 f224 []
def i225:=bM 0 f225 [([],[(4,8)])]
def i226:=bM 0 f226 []
def i227:=bM 0 f227 []
def i228:=bM 0 f228 []
def i229:=bM 0 f229 [([(3,1),(4,2)],[(0,2),(1,2)]),([(5,1),(8,2),(24,3)],[(0,1),(0,3),(1,3),(10,16),(14,16),(26,32),(30,32)])]
def i230:=bM 2 f230 []
def i231:gP:=⟨1,[],.skip,4⟩
def i232:=bM 0 f232 []
def i233:=bM 0 f233 [([(5,1),(6,2)],[(0,1),(0,3),(1,3),(2,3),(0,4),(1,4),(2,4),(3,4)])]
def i234:=bM 0 f234 []
def i235:=bM 0 f235 []
def i236:=bM 0 f236 []
def i238:=bM 0 f238 []
def i239:=bM 0 f239 []
def i240:=bM 0 f240 []
def i241:=bM 0 f241 []
def i242:=bM 0 f242 [([(7,1),(9,2)],[(1,5)]),([],[(1,5),(1,9),(5,9)])]
def i243:=bM 0 f243 []
def i244:=bM 0 f244 []
def i245:=bM 0 f245 []
def i252:=bM 0 f252 []
def i253:=bM 0 f253 []
def i254:=bM 0 f254 []
def i255:=bM 1 f255 [([],[(3,8)])]
def i256:gP:=⟨2,[],.skip,5⟩
def i257:=bM 0 f257 [([(3,1),(4,2),(5,3)],[(0,2),(1,2)])]
def i258:=bM 0 f258 []
def i259:=bM 0 f259 []
def i260:=bM 0 f260 []
def i261:=bM 0 f261 [([],[(1,7),(5,7),(1,11),(5,11)]),([(23,1),(27,2)],[(1,4),(8,14),(12,14),(8,18),(12,18)]),([],[(1,7),(5,7),(1,11),(5,11)])]
def i262:=bM 0 f262 [([],[(1,6),(4,6),(1,10),(4,10),(6,10),(8,10),(1,13),(4,13),(6,13),(8,13),(1,15),(4,15),(6,15),(8,15),(10,15),(13,15),(1,18),(4,18),(6,18),(8,18),(10,19),(13,19),(15,19),(18,19)])]
def i263:=bM 0 f263 []
def i264:=bM 0 f264 []
def i265:=bM 0 f265 [([],[(1,3),(1,6),(1,7)])]
def i267:=bM 0 f267 []
def i268:=bM 0 f268 []
def i269:=bM 0 f269 []
def i270:=bM 1 f270 []
def i271:=bM 2 f271 [([],[(5,9)])]
def i272:=bM 2 f272 []
def i273:=bM 0 f273 []
def i278:=bM 0 f278 []
def i279:=bM 0 f279 []
def i280:=bM 0 f280 [([(5,1),(6,2)],[(0,1),(0,3),(1,3),(2,3),(0,4),(1,4),(2,4),(3,4)])]
def i282:=bM 0 f282 []
def i284:=bM 0 f284 [([(7,1),(8,2),(18,3),(19,4)],[(0,1),(0,2),(1,2),(0,4),(1,4),(2,4),(3,4),(0,5),(1,5),(2,5),(3,5),(4,5),(0,6),(1,6),(2,6),(3,6),(4,6),(5,6),(11,12),(11,13),(12,13),(11,15),(12,15),(13,15),(14,15),(11,16),(12,16),(13,16),(14,16),(15,16),(11,17),(12,17),(13,17),(14,17),(15,17),(16,17)])]
def i293:=bM 0 f293 []
def i296:=bM 0 f296 [([],[(1,3),(1,6),(3,6),(1,8),(3,8),(6,8)])]
def i305:=bM 0 f305 [([(4,2)],[(0,1),(0,2),(1,2),(0,3),(1,3),(2,3),(1,4)])]
def i312:=bM 0 f312 []
inductive FT where
 |nil
 |one (f:FuncId) (i:gP)
 |two (k:FuncId) (l r:FT)
def FT.get(t:FT):FuncId->Option gP:=FT.rec (motive:=fun _=>FuncId->Option gP) (fun _=>none) (fun g i f=>bif Nat.beq f g then some i else none) (fun k _ _ a b f=>bif Nat.blt f k then a f else b f) t
def FT.all(t:FT):List (FuncId×gP):=FT.rec (motive:=fun _=>List (FuncId×gP)) [] (fun g i=>[(g,i)]) (fun _ _ _ a b=>a++b) t
theorem FT.mem{f:FuncId}{i:gP}:∀{t:FT},t.get f=some i->(f,i)∈t.all
 |.nil,h=>by cases h
 |.one g j,h=>by
  have h2:(bif Nat.beq f g then some j else none)=some i:=h
  clear h;cases hc:Nat.beq f g
  .rw[hc]at h2;cases h2
  .rw[hc]at h2;rw[MK hc,←s6 (show some j=some i from h2)];exact qj ..
 |.two k l r,h=>by
  have h:(bif Nat.blt f k then l.get f else r.get f)=some i:=h
  have e:(FT.two k l r).all=l.all++r.all:=rfl;rw[e];cases hc:Nat.blt f k
  .rw[hc]at h;exact zlt _ (FT.mem h)
  .rw[hc]at h;exact zmy _ (FT.mem h)
def tab0:FT:=.two 40 (.two 23 (.two 15 (.two 9 (.two 7 (.one 6 i6) (.two 8 (.one 7 i7) (.one 8 i8))) (.two 12 (.two 11 (.one 9 i9) (.one 11 i11)) (.two 13 (.one 12 i12) (.one 13 i13)))) (.two 19 (.two 17 (.one 15 i15) (.two 18 (.one 17 i17) (.one 18 i18))) (.two 21 (.two 20 (.one 19 i19) (.one 20 i20)) (.two 22 (.one 21 i21) (.one 22 i22))))) (.two 33 (.two 29 (.two 27 (.one 23 i23) (.two 28 (.one 27 i27) (.one 28 i28))) (.two 31 (.two 30 (.one 29 i29) (.one 30 i30)) (.two 32 (.one 31 i31) (.one 32 i32)))) (.two 36 (.two 34 (.one 33 i33) (.two 35 (.one 34 i34) (.one 35 i35))) (.two 38 (.two 37 (.one 36 i36) (.one 37 i37)) (.two 39 (.one 38 i38) (.one 39 i39)))))) (.two 54 (.two 47 (.two 43 (.two 41 (.one 40 i40) (.two 42 (.one 41 i41) (.one 42 i42))) (.two 45 (.two 44 (.one 43 i43) (.one 44 i44)) (.two 46 (.one 45 i45) (.one 46 i46)))) (.two 50 (.two 48 (.one 47 i47) (.two 49 (.one 48 i48) (.one 49 i49))) (.two 52 (.two 51 (.one 50 i50) (.one 51 i51)) (.two 53 (.one 52 i52) (.one 53 i53))))) (.two 68 (.two 57 (.two 55 (.one 54 i54) (.two 56 (.one 55 i55) (.one 56 i56))) (.two 62 (.two 58 (.one 57 i57) (.one 58 i58)) (.two 67 (.one 62 i62) (.one 67 i67)))) (.two 71 (.two 69 (.one 68 i68) (.two 70 (.one 69 i69) (.one 70 i70))) (.two 73 (.two 72 (.one 71 i71) (.one 72 i72)) (.two 74 (.one 73 i73) (.one 74 i74))))))
def tab1:FT:=.two 103 (.two 89 (.two 82 (.two 78 (.two 76 (.one 75 i75) (.two 77 (.one 76 i76) (.one 77 i77))) (.two 80 (.two 79 (.one 78 i78) (.one 79 i79)) (.two 81 (.one 80 i80) (.one 81 i81)))) (.two 85 (.two 83 (.one 82 i82) (.two 84 (.one 83 i83) (.one 84 i84))) (.two 87 (.two 86 (.one 85 i85) (.one 86 i86)) (.two 88 (.one 87 i87) (.one 88 i88))))) (.two 96 (.two 92 (.two 90 (.one 89 i89) (.two 91 (.one 90 i90) (.one 91 i91))) (.two 94 (.two 93 (.one 92 i92) (.one 93 i93)) (.two 95 (.one 94 i94) (.one 95 i95)))) (.two 99 (.two 97 (.one 96 i96) (.two 98 (.one 97 i97) (.one 98 i98))) (.two 101 (.two 100 (.one 99 i99) (.one 100 i100)) (.two 102 (.one 101 i101) (.one 102 i102)))))) (.two 117 (.two 110 (.two 106 (.two 104 (.one 103 i103) (.two 105 (.one 104 i104) (.one 105 i105))) (.two 108 (.two 107 (.one 106 i106) (.one 107 i107)) (.two 109 (.one 108 i108) (.one 109 i109)))) (.two 113 (.two 111 (.one 110 i110) (.two 112 (.one 111 i111) (.one 112 i112))) (.two 115 (.two 114 (.one 113 i113) (.one 114 i114)) (.two 116 (.one 115 i115) (.one 116 i116))))) (.two 129 (.two 120 (.two 118 (.one 117 i117) (.two 119 (.one 118 i118) (.one 119 i119))) (.two 126 (.two 125 (.one 120 i120) (.one 125 i125)) (.two 127 (.one 126 i126) (.one 127 i127)))) (.two 133 (.two 131 (.two 130 (.one 129 i129) (.one 130 i130)) (.two 132 (.one 131 i131) (.one 132 i132))) (.two 135 (.two 134 (.one 133 i133) (.one 134 i134)) (.two 136 (.one 135 i135) (.one 136 i136))))))
def tab2:FT:=.two 170 (.two 151 (.two 144 (.two 140 (.two 138 (.one 137 i137) (.two 139 (.one 138 i138) (.one 139 i139))) (.two 142 (.two 141 (.one 140 i140) (.one 141 i141)) (.two 143 (.one 142 i142) (.one 143 i143)))) (.two 147 (.two 145 (.one 144 i144) (.two 146 (.one 145 i145) (.one 146 i146))) (.two 149 (.two 148 (.one 147 i147) (.one 148 i148)) (.two 150 (.one 149 i149) (.one 150 i150))))) (.two 161 (.two 154 (.two 152 (.one 151 i151) (.two 153 (.one 152 i152) (.one 153 i153))) (.two 156 (.two 155 (.one 154 i154) (.one 155 i155)) (.two 160 (.one 156 i156) (.one 160 i160)))) (.two 166 (.two 162 (.one 161 i161) (.two 165 (.one 162 i162) (.one 165 i165))) (.two 168 (.two 167 (.one 166 i166) (.one 167 i167)) (.two 169 (.one 168 i168) (.one 169 i169)))))) (.two 189 (.two 180 (.two 173 (.two 171 (.one 170 i170) (.two 172 (.one 171 i171) (.one 172 i172))) (.two 175 (.two 174 (.one 173 i173) (.one 174 i174)) (.two 176 (.one 175 i175) (.one 176 i176)))) (.two 185 (.two 181 (.one 180 i180) (.two 184 (.one 181 i181) (.one 184 i184))) (.two 187 (.two 186 (.one 185 i185) (.one 186 i186)) (.two 188 (.one 187 i187) (.one 188 i188))))) (.two 197 (.two 192 (.two 190 (.one 189 i189) (.two 191 (.one 190 i190) (.one 191 i191))) (.two 194 (.two 193 (.one 192 i192) (.one 193 i193)) (.two 196 (.one 194 i194) (.one 196 i196)))) (.two 201 (.two 199 (.two 198 (.one 197 i197) (.one 198 i198)) (.two 200 (.one 199 i199) (.one 200 i200))) (.two 203 (.two 202 (.one 201 i201) (.one 202 i202)) (.two 204 (.one 203 i203) (.one 204 i204))))))
def tab3:FT:=.two 253 (.two 232 (.two 225 (.two 208 (.two 206 (.one 205 i205) (.two 207 (.one 206 i206) (.one 207 i207))) (.two 210 (.two 209 (.one 208 i208) (.one 209 i209)) (.two 224 (.one 210 i210) (.one 224 i224)))) (.two 228 (.two 226 (.one 225 i225) (.two 227 (.one 226 i226) (.one 227 i227))) (.two 230 (.two 229 (.one 228 i228) (.one 229 i229)) (.two 231 (.one 230 i230) (.one 231 i231))))) (.two 240 (.two 235 (.two 233 (.one 232 i232) (.two 234 (.one 233 i233) (.one 234 i234))) (.two 238 (.two 236 (.one 235 i235) (.one 236 i236)) (.two 239 (.one 238 i238) (.one 239 i239)))) (.two 243 (.two 241 (.one 240 i240) (.two 242 (.one 241 i241) (.one 242 i242))) (.two 245 (.two 244 (.one 243 i243) (.one 244 i244)) (.two 252 (.one 245 i245) (.one 252 i252)))))) (.two 268 (.two 260 (.two 256 (.two 254 (.one 253 i253) (.two 255 (.one 254 i254) (.one 255 i255))) (.two 258 (.two 257 (.one 256 i256) (.one 257 i257)) (.two 259 (.one 258 i258) (.one 259 i259)))) (.two 263 (.two 261 (.one 260 i260) (.two 262 (.one 261 i261) (.one 262 i262))) (.two 265 (.two 264 (.one 263 i263) (.one 264 i264)) (.two 267 (.one 265 i265) (.one 267 i267))))) (.two 279 (.two 271 (.two 269 (.one 268 i268) (.two 270 (.one 269 i269) (.one 270 i270))) (.two 273 (.two 272 (.one 271 i271) (.one 272 i272)) (.two 278 (.one 273 i273) (.one 278 i278)))) (.two 293 (.two 282 (.two 280 (.one 279 i279) (.one 280 i280)) (.two 284 (.one 282 i282) (.one 284 i284))) (.two 305 (.two 296 (.one 293 i293) (.one 296 i296)) (.two 312 (.one 305 i305) (.one 312 i312))))))
def SE:FT:=.two 137 (.two 75 tab0 tab1) (.two 205 tab2 tab3)
def aO(f:FuncId):Option gP:=SE.get f
end
end
section
open Go Go.RowKit
def bk(S:bX):Prop:=∀ f args,(f≠53/\f≠144)->f≠8->f≠185->f≠46->S f args=none
def sfq(f:FuncId):Bool:=!(Nat.beq f 53)&&!(Nat.beq f 144)&&!(Nat.beq f 8)&&!(Nat.beq f 185)&&!(Nat.beq f 46)
variable {S:bX}{args:List IV}{f:FuncId}
theorem Cz(hS:bk S)(h:sfq f=true:=by rfl):S f args=none:=by simp only[sfq,kE,ET]at h;obtain⟨⟨⟨⟨h1,h5⟩,h2⟩,h3⟩,h4⟩:=h;exact hS f args ⟨fun e=>by subst e;simp at h1,fun e=>by subst e;simp at h5⟩ (fun e=>by subst e;simp at h2) (fun e=>by subst e;simp at h3) (fun e=>by subst e;simp at h4)
variable {a b:Nat}
def bP(h:Nat.ble a b=true):a<=b:=J5 h
theorem Zq{l:List Int}{x n:Int}:(l++[x]).contains n=(l.contains n||x==n):=by grind
variable {i:Nat}
theorem DQ{l:List Int}{x n:Int}(hx:l[i]?=some x)(hb:(x==n)=true):l.contains n=true:=by grind
variable {x:aP}
section
def xz{x:IV}:ql false [x]=some x:=aI
theorem Zl{l:List IV}:ql true l=some (.agg l):=by rfl
def wz:dh .shl=true:=aI
def wv:dh .shr=true:=aI
def wK:dh .add=false:=aI
def wu:dh .sub=false:=aI
def wD:dh .mul=false:=aI
def wB:dh .quo=false:=aI
def wA:dh .rem=false:=aI
def wJ:dh .and=false:=aI
def HG:dh .or=false:=aI
def wq:dh .xor=false:=aI
def wI:dh .eql=false:=aI
def wC:dh .neq=false:=aI
def wE:dh .lss=false:=aI
def wF:dh .leq=false:=aI
def wG:dh .gtr=false:=aI
def wH:dh .geq=false:=aI
def w6:List.replicate 0 x=[]:=aI
def w5:List.replicate 1 x=[x]:=aI
def wZ:List.replicate 2 x=[x,x]:=aI
def wY:List.replicate 3 x=[x,x,x]:=aI
def wX:List.replicate 4 x=[x,x,x,x]:=aI
def wW:List.replicate 5 x=[x,x,x,x,x]:=aI
def wV:List.replicate 6 x=[x,x,x,x,x,x]:=aI
def W0:=aj @afo<|aj @gu.{0}<|aj @fP.{0}<|aj @gF.{0}<|aj @oO.{0}<|aj @MW.{0}<|aj @JZ<|aj @JY<|aj @rF<|aj @if_true.{1}<|aj @gq.{0}<|aj @fB.{0}<|aj @eB<|aj @tY<|aj @cI<|aj @MD<|aj @and_true<|aj @Vn<|aj @rH.{0}<|aj @rG.{0}<|aj @iJ.{0,0}<|aj @Vu.{0,0}<|aj @iD.{0,0}<|aj @nv<|aj @if_false.{1}<|aj @mQ.{0,0}<|aj @tX.{0,0}<|aj @RN<|aj @decide_true<|aj @decide_false<|aj @Ev.{0}<|aj @mo.{0}<|aj @mV.{0}<|aj @ME<|aj @Hg<|aj @dD.eq_1<|aj @Go.Proofs.YtjibdelmjcenhaaGreatDoor.look.eq_1<|aj @xz<|aj @Zl<|aj @lX.eq_1<|aj @lX.eq_2<|aj @bA.eq_1<|aj @bA.eq_2<|aj @bA.eq_3<|aj @bA.eq_4<|aj @bA.eq_5<|aj @bA.eq_6<|aj @bA.eq_7<|aj @bA.eq_8<|aj @bA.eq_9<|aj @bA.eq_10<|aj @bA.eq_11<|aj @bA.eq_12<|aj @bA.eq_13<|aj @bA.eq_14<|aj @wz<|aj @wv<|aj @wK<|aj @wu<|aj @wD<|aj @wB<|aj @wA<|aj @wJ<|aj @HG<|aj @wq<|aj @wI<|aj @wC<|aj @wE<|aj @wF<|aj @wG<|aj @wH<|aj @Bs.eq_1<|aj @Bs.eq_2<|aj @dX.eq_1<|aj @dX.eq_2<|aj @jY.eq_1<|aj @ef.eq_1<|aj @gZ.eq_1<|aj @kr.eq_1<|aj @e8.eq_1<|aj @ig.eq_1<|aj @fG.eq_1<|aj @jy.eq_1<|aj @lE.eq_1<|aj @lD.eq_1<|aj @fI.eq_1<|aj @ij.eq_1<|aj @fH.eq_1<|aj @bF.eq_1<|aj @jG.eq_1<|aj @oy.eq_1<|aj @w6<|aj @w5<|aj @wZ<|aj @wY<|aj @wX<|aj @wW<|@wV
theorem u6(hS:bk S)(l:aR 1 aK)(n:Int):j0 aO S 146 [l.v,iv n] (.bool (l.l.contains n)):=by
 refine yu (hS _ _ M M M M) rfl rfl zk (l.l.length+2) Z fun m hm d ah=>?_;simp only[i146,W0,seval];refine zn (fun j st=>∃ i,j=l.l.length-i/\i<=l.l.length/\(l.l.take i).contains n=false/\∃ a2 a3 a6 a7 a8 a9 a10 a11 a12 a13 a14 a15 a16 a17,st=⟨[l.v,iv n,a2,a3,.bool false,iv i,a6,a7,a8,a9,a10,a11,a12,a13,a14,a15,a16,a17],[]⟩) l.l.length Z ⟨0,Z,Z,M,_,_,_,_,_,_,_,_,_,_,_,_,_,_,rfl⟩ ?_;rintro j st K ⟨i,rfl,hi,hc,a2,a3,a6,a7,a8,a9,a10,a11,a12,a13,a14,a15,a16,a17,rfl⟩ hn he hr;by_cases h:i<l.l.length
 .have hx:=dw h;generalize l.l[i]=x at hx;have hrd:bB (l.l.flatMap aK) (i*1) 1=some [iv x]:=zd ze 0 1 hx Z;have hw:aT .i64 ((i:Int)+1)=((i+1:Nat):Int):=J6 (by have:=l.eZ;omega);cases hb:x==n
  .simp only[W0,seval,h,zc l h,hrd,hb,hw];refine hn _ (l.l.length-(i+1)) Z ⟨i+1,rfl,Z,?_,_,_,_,_,_,_,_,_,_,_,_,_,_,_,rfl⟩;rw[jh,hx,oP,Zq,hc,hb];rfl
  .simp only[W0,seval,h,zc l h,hrd,hb];refine hr _ ?_;simp only[W0,seval];grind
 .simp[W0,seval,h];refine he _ _ ?_;simp only[W0,seval];grind
end
def bN(k:Int):Int:=bif k==1||k==2||k==8 then 1 else bif k==3||k==4 then 2 else bif k==5||k==6||k==7 then 3 else 0
theorem yO:∀ a,∀ x∈aK a,Fz 1 x:=fun a x hx=>by simp[aK,MG]at hx;subst hx;exact zp
theorem ZH:∀ a:Pt,∀ x∈a.c,Fz 1 x:=fun a x hx=>by simp[Pt.c,eG,gm,gw]at hx;rcases hx with rfl|rfl<;>exact zp
variable {C:Call}{aJ:aS}{ah:bq}{d n n0 slot sz:Nat}{lk:Nat->Nat->Option aP}{s:bD}{t:List IV}
section
variable {aa:aS} 
noncomputable def ad7(d n0:Nat)(lk:Nat->Nat->Option aP)(aa:aS)(sz:Nat)(s:IV)(slot:Nat)(r:Option (List IV×Nat)):jI:=match r with
 |some (new,n)=>aY d n0 lk aa sz s new n slot
 |none=>none
def zl{z:List IV}{x:bD}:iC d ah n0 aJ aa t z sz false s x slot=ad7 d n0 (look d ah aJ) aa sz (ρ t s) slot (bW (look d ah aJ) sz (ρ t x)):=aI
def zq{s:IV}{new:List IV}:ad7 d n0 lk aa sz s slot (some (new,n))=aY d n0 lk aa sz s new n slot:=aI
theorem AW{new:List IV}(h:n≠0)(hb:0+n<=1073741824):aY d n0 lk aa sz (.slC [] 0 sz true) new n slot=dD aa (n0+slot) (.cells new) (.slM d (n0+slot) 0 n n sz false):=by unfold aY;rw[b9 h];simp only;rw[bU ⟨by unfold bound;omega,trivial⟩];simp[seg,zi]
def aar:(false != true)=true:=aI
def Qb:(false != false)=false:=aI
end
theorem WA(hS:bk S)(k:Int):j0 aO S 51 [iv k] (iv (bN k)):=by
 refine yu (i:=i51) (k:=1) (hS _ _ M M M M) rfl rfl zp 1 Z fun m hm d ah=>?_;cases h1:k==1;rotate_left
 .simp only[i51,W0,seval,h1];simp only[bN,h1,W0,seval];rfl
 cases h2:k==2;rotate_left
 .simp only[i51,W0,seval,h1,h2];simp only[bN,h1,h2,W0,seval];rfl
 cases h8:k==8;rotate_left
 .simp only[i51,W0,seval,h1,h2,h8];simp only[bN,h1,h2,h8,W0,seval];rfl
 cases h3:k==3;rotate_left
 .simp only[i51,W0,seval,h1,h2,h8,h3];simp only[bN,h1,h2,h8,h3,W0,seval];rfl
 cases h4:k==4;rotate_left
 .simp only[i51,W0,seval,h1,h2,h8,h3,h4];simp only[bN,h1,h2,h8,h3,h4,W0,seval];rfl
 cases h5:k==5;rotate_left
 .simp only[i51,W0,seval,h1,h2,h8,h3,h4,h5];simp only[bN,h1,h2,h8,h3,h4,h5,W0,seval];rfl
 cases h6:k==6;rotate_left
 .simp only[i51,W0,seval,h1,h2,h8,h3,h4,h5,h6];simp only[bN,h1,h2,h8,h3,h4,h5,h6,W0,seval];rfl
 cases h7:k==7
 .exact xga
 .exact xga
theorem Zr(hS:bk S)(k:Int):j0 aO S 143 [iv k] (iv (bN k)):=by
 refine yu (i:=i143) (k:=1) (hS _ _ M M M M) rfl rfl zp 1 Z fun m hm d ah=>?_;cases h1:k==1;rotate_left
 .simp only[i143,W0,seval,h1];simp only[bN,h1,W0,seval];rfl
 cases h2:k==2;rotate_left
 .simp only[i143,W0,seval,h1,h2];simp only[bN,h1,h2,W0,seval];rfl
 cases h8:k==8;rotate_left
 .simp only[i143,W0,seval,h1,h2,h8];simp only[bN,h1,h2,h8,W0,seval];rfl
 cases h3:k==3;rotate_left
 .simp only[i143,W0,seval,h1,h2,h8,h3];simp only[bN,h1,h2,h8,h3,W0,seval];rfl
 cases h4:k==4;rotate_left
 .simp only[i143,W0,seval,h1,h2,h8,h3,h4];simp only[bN,h1,h2,h8,h3,h4,W0,seval];rfl
 cases h5:k==5;rotate_left
 .simp only[i143,W0,seval,h1,h2,h8,h3,h4,h5];simp only[bN,h1,h2,h8,h3,h4,h5,W0,seval];rfl
 cases h6:k==6;rotate_left
 .simp only[i143,W0,seval,h1,h2,h8,h3,h4,h5,h6];simp only[bN,h1,h2,h8,h3,h4,h5,h6,W0,seval];rfl
 cases h7:k==7
 .exact xf3
 .exact xf3
theorem xU(hS:bk S)(q:aR 2 Pt.c)(hq:q.l.length<=1073741824):∃ q':aR 2 Pt.c,q'.l=q.l/\j0 aO S 161 [q.v] q'.v:=by
 let⟨l,v,ok,eZ⟩:=q;dsimp only at hq ⊢;have key:∀(cs:List IV)(n:Nat),Sl 2 cs n v->cs=l.flatMap Pt.c->n=l.length->∃ q':aR 2 Pt.c,q'.l=l/\j0 aO S 161 [v] q'.v:=by
  intro cs n h hcs hn;cases h with
  |nil =>
   refine⟨⟨[],.nilsl,.nil,M⟩,(uc.1 hn.symm).symm,?_⟩
   refine yu (hS _ _ M M M M) rfl rfl yZ 1 Z fun m hm d ah=>?_
   simp[i161,W0,seval,Lx,aar]
  |row _ _ tight h =>
   subst hcs hn
   by_cases h0:l.length=0
   .have hl:=uc.1 h0
    subst hl
    refine⟨⟨[],.slC [] 0 2 true,.row _ _ _ rfl,M⟩,rfl,?_⟩
    refine yu (k:=1+1) (hS _ _ M M M M) rfl rfl (xW fun x hx=>by grind) 2 Z fun m hm d ah=>?_
    simp[i161,W0,seval,Lx,Qb,zh,zl,rep,jm,gq]
    simp[bW,seg,zi,qZ,tY,gq,cI,if_true,s7,W3,iJ,zq,aY,W0,seval]
   .refine⟨⟨l,.slC (l.flatMap Pt.c) l.length 2 (false&&true),.row _ _ _ h,eZ⟩,rfl,?_⟩
    refine ze7 (hS _ _ M M M M) rfl rfl 3 fun m hm d ah=>?_
    simp[i161,W0,seval,Lx,Qb,zh,zl,rep,(fun lk=>zB ⟨l,_,.row _ _ tight h,eZ⟩),zq]
    simp only[AW h0 (show 0+l.length<=1073741824 by omega),W0,seval]
    refine⟨_,rfl,?_⟩
    exact yo ZH Z rfl Pt.aV rfl
 grind
variable {H:Type}{l:List H}
theorem YI{p:H->Bool}{x:H}(h:(l.take i).find? p=none)(hx:l[i]?=some x)(hp:p x=true):l.find? p=some x:=by
 have hi:=(ew.1 hx).1;have h1:l=l.take i++x::l.drop (i+1):=by
  conv=>lhs;rw[←MJ i l]
  rw[EU hi];grind
 grind
theorem Z8{p:H->Bool}{x:H}(h:(l.take i).find? p=none)(hx:l[i]?=some x)(hp:p x=false):(l.take (i+1)).find? p=none:=by rw[jh,hx,oP,List.find?_append,h,Option.none_or,zm2,hp];rfl
theorem Z9{p:H->Bool}(h:(l.take i).find? p=none)(hi:¬ i<l.length):l.find? p=none:=by rwa [fT Z]at h
def kU(sz:Nat)(g:H->List IV):aR sz g:=⟨[],.nilsl,.nil,M⟩
def Bl:Ac:=⟨0,0,0,kU 2 Pt.c,0,0⟩
def VC:Nd:=⟨0,⟨0,0⟩⟩
def Xl:Bl.c=[.int .i64 0,.int .i64 0,.int .i64 0,.nilsl,.int .i64 0,.int .i64 0]:=rfl
def ud:VC.c=[.int .i64 0,.int .i64 0,.int .i64 0]:=rfl
theorem zP{g:H->List IV}(hg:∀ a,∀ x∈g a,Fz 1 x)(q:aR sz g):Fz (1+1+1) q.v:=by
 obtain⟨l,v,ok,eZ⟩:=q;have key:∀(cs:List IV)(n:Nat)(v:IV),Sl sz cs n v->cs=l.flatMap g->Fz (1+1+1) v:=fun cs n v h hcs=>by
  cases h with
  |nil=>exact yZ.le Z
  |row _ _ tight h=>subst hcs;exact(abp hg).le Z
 grind
variable {cs cs':List IV}{k z:Nat}{tight:Bool}
section
variable {aa:aS} {p p':IV}
theorem zbg{len:Nat}{new:List IV}:aY d n0 lk aa sz (.slC cs len z tight) new 0 slot=some (.r,.slC cs len z tight,aa):=by rfl
theorem yw{f:IV->Option IV}{x y:IV}{l l':List IV}(h:f x=some y)(h2:l.mapM f=some l'):(x::l).mapM f=some (y::l'):=by simp_all
def zcb{f:IV->Option IV}:([]:List IV).mapM f=some []:=rfl
theorem zbh(h:cs.mapM (freeze k d aa)=some cs'):freeze (k+1) d aa (.tuple cs)=some (.tuple cs'):=by simp only[freeze,h,iJ]
theorem ze9(h:cs.mapM (freeze k d aa)=some cs'):freeze (k+1) d aa (.agg cs)=some (.agg cs'):=by simp only[freeze,h,iJ]
def zcc{a b c e f:Int}{t:Bool}(hp:freeze (k+1) d aa p=some p'):freeze (k+1+1+1) d aa (.tuple [.agg [.int .i64 a,.int .i64 b,.int .i64 c,p,.int .i64 e,.int .i64 f],.bool t])=some (.tuple [.agg [.int .i64 a,.int .i64 b,.int .i64 c,p',.int .i64 e,.int .i64 f],.bool t]) :=
 zbh (yw (ze9 (yw rfl (yw rfl (yw rfl (yw hp (yw rfl (yw rfl zcb))))))) (yw rfl zcb))
theorem Dl:freeze (k+1) d aa (.slC [] 0 sz tight)=some (.slC [] 0 sz tight):=by simp[freeze]
end
variable {K:eU}{j:Nat}
section
variable {st:St} {a:IC}
def Lp(C:Call)(d:Nat)(ah:bq)(n j:Nat)(a:IC)(K:eU)(st:St):Prop:=∃ o st',iter (exec C d ah n a) j st=some (o,st')/\K o st'
theorem yJ:Ex C d ah n (.loop a) K st=Lp C d ah n n a K st:=by rfl
theorem yK:Lp C d ah n (j+1) a K st=Ex C d ah n a (andThen (Lp C d ah n j a K) K) st:=by
 refine propext ⟨fun⟨o,st',h,hk⟩=>?_,fun⟨o,st1,h1,h2⟩=>?_⟩
 .simp[iter]at h;exact xbf
 .cases o with
  |normal =>
   let⟨o2,st2,h3,h4⟩:=h2
   exact⟨o2,st2,by simp[iter,h1,h3],h4⟩
  |exit id=>exact⟨_,st1,by simp[iter,h1],h2⟩
  |ret=>exact⟨_,st1,by simp[iter,h1],h2⟩
end
variable {F:FuncId->Option gP}{rs:List mY}
section
def aea(d:Nat)(ah:bq)(rs:List mY)(c:List IV)(len cap sz:Nat)(tight:Bool)(o:Out)(st:St):Prop:=(o=.normal∨o=.ret)/\∃ j,bh d ah st rs=some (.slM d j 0 len cap sz tight)/\st.aa[j]?=some (.cells c)
theorem XX{i:gP}{c:List IV}{len cap:Nat}(hS:S f args=none)(hi:F f=some i)(hm:i.mode=1)(N:Nat)(hfz:∀ x∈c,Fz k x)(hk:k<=N)(hc:c.length=cap*sz)
  (h:∀ m,N<=m->∀ d ah,Ex (aL F S m) d ah m i.body (aea d ah i.res c len cap sz tight) ⟨args++List.replicate (i.ntmps-args.length) (.tuple []),[]⟩) :
  ∃ N',∀ m,N'<=m->∀ d ah aJ aa id,aa[id]?=some .free->aL F S m d ah aJ aa id f args=some (.a,.slM d id 0 len cap sz tight,aa.set id (.cells c)):=by
 refine⟨N+1,fun m hN d ah aJ aa id hf=>?_⟩
 obtain⟨m,rfl⟩:∃ q,m=q+1:=⟨m-1,Z⟩
 exact xal
variable {c:List IV} {len cap:Nat} {st:St}
def En:aea d ah rs c len cap sz tight .ret st=∃ j,bh d ah st rs=some (.slM d j 0 len cap sz tight)/\st.aa[j]?=some (.cells c):=xbc
end
theorem Fp{z:List IV}{k:Nat}(h:∀ x∈z,Fz k x):∀{n:Nat},∀ x∈rep z n,Fz k x
 |0,x,hx=>by simp[rep]at hx
 |n+1,x,hx=>by simp[rep,qY]at hx;exact hx.elim (h x) (Fp h x)
section
variable {aa:aS} 
def OB{k:IntKind}:lg (.int k 0)=some 0:=aI
def Ee{z:List IV}{x:bD}:iC d ah n0 aJ aa t z sz true s x slot=ad7 d n0 (look d ah aJ) aa sz (ρ t s) slot ((lg (ρ t x)).bind fun n=>if n<=bound then some (rep z n,n)else none):=aI
theorem yp{new:List IV}(h:n≠0)(hb:n<=bound):aY d n0 lk aa sz .nilsl new n slot=dD aa (n0+slot) (.cells new) (.slM d (n0+slot) 0 n n sz false):=by unfold aY;grind
end
def uh:aT .i64 (0-0)=0:=xe1
theorem ug(h:n<=1073741824):aT .i64 ((n:Int)-0)=(n:Int):=by rw[z6,IntWalk.i64_in _ Z];omega
theorem T7(hS:bk S)(n:Nat)(h0:0<n)(hn:n<=1073741824):∃ N,∀ m,N<=m->∀ d ah aJ aa id,aa[id]?=some .free->aL aO S m d ah aJ aa id 270 [.nilsl,iv n]=some (.a,.slM d id 0 0 n 2 false,aa.set id (.cells (rep [.int .i64 0,.int .i64 0] n))):=by
 refine XX (hS _ _ M M M M) rfl rfl 2 (k:=1) (Fp fun x hx=>?_) Z ?_ fun m hm d ah=>?_
 .simp only[eG,gm,gw]at hx;rcases hx with rfl|rfl<;>exact zp
 .rw[yN];rfl
 .have hb:n<=bound:=by unfold bound;omega
  simp only[i270,W0,ef,gZ,kr,e8,ig,fG,jy,lE,lD,fI,ij,fH,bF,jG,oy,dD,List.replicate,look,ql,lX,bA,dh,Bs,dX,jY,Xb,Xc,Xd,reduceCtorEq,Xe,(show decide ((n:Int)<0)=false by simp),Gc,nP,uh,ug hn,(show decide ((n:Int)>0)=true by grind),yM,dA,kI,OB,zY,zh,Ee,bU hb,zq,yp Z hb,RH,qZ,zm8,Ew,JX,Vq,En];grind
theorem Hr:∀{B A R:List IV},B.length<=R.length->dS (A++R) A.length B=A++B++R.drop B.length
 |[],A,R,_=>by simp[dS]
 |b::B,A,R,h=>by
  cases R with
  |nil=>grind
  |cons r R =>
   simp only[dS]
   have h2:=Hr (A:=A++[b]) (by simpa using h)
   grind
variable {A B R:List IV}
theorem z8(hk:k=A.length)(h:B.length<=R.length):dS (A++R) k B=A++B++R.drop B.length:=by rw[hk,Hr h]
variable {J:aS}
theorem Yo{len cap:Nat}{c new:List IV}(h:n≠0)(hb:len+n<=1073741824)(hc:len+n<=cap)(hfit:0+(len+n)*sz<=c.length)(hs:new.all IV.scalar=true) :
  aY d n0 (look d ah (.cells c::J)) (.cells c::J) sz (.slM d 0 0 len cap sz tight) new n slot=some (.x,.slM d 0 0 (len+n) cap sz tight,.cells (dS c (0+len*sz) new)::J):=by
 unfold aY
 rw[b9 h]
 simp only
 rw[bU ⟨by unfold bound;omega,trivial⟩]
 simp only[look,if_true,rH]
 rw[bU hc,bU ⟨trivial,hfit,hs⟩]
 simp[zi,RP]
variable {off:Nat}
theorem zfa{l len cap:Nat}{aa:aS}{new:List IV}:aY d n0 lk aa sz (.slM l i off len cap z tight) new 0 slot=some (.r,.slM l i off len cap z tight,aa):=by rfl
theorem Ms{l len cap:Nat}(h:n=0){aa:aS}{new:List IV}:aY d n0 lk aa sz (.slM l i off len cap z tight) new n slot=some (.r,.slM l i off len cap z tight,aa):=by subst h;rfl
theorem Od{l:List Pt}:(l.flatMap Pt.c).all IV.scalar=true:=by rw[nu];intro x hx;obtain⟨a,_,h⟩:=oQ.1 hx;simp[Pt.c,eG,gm,gw]at h;rcases h with rfl|rfl<;>rfl
theorem Y6{x y:Int}:bW lk 2 (.slC [.int .i64 x,.int .i64 y] 1 2 tight)=some ([.int .i64 x,.int .i64 y],1):=by rfl
def Yp{aa:aS}{k:IntKind}(h:0<n):cu aa z (.slC cs n sz tight) (.int k 0)=some (.p,.ptrC cs (0*z),aa):=zC (i:=0) h
def zcd{aa:aS}{k:IntKind}(h:1<n):cu aa z (.slC cs n sz tight) (.int k 1)=some (.p,.ptrC cs (1*z),aa):=zC (i:=1) h
def zce{aa:aS}{k:IntKind}(h:2<n):cu aa z (.slC cs n sz tight) (.int k 2)=some (.p,.ptrC cs (2*z),aa):=zC (i:=2) h
def YJ:aT .i64 (0+1)=1:=xe1
def Bn:aT .i64 (1+1)=2:=xe1
def Bm:aT .i64 (2+1)=3:=xe1
theorem aes:decide ((0:Int)<((3:Nat):Int))=true:=by decide
theorem aer:decide ((1:Int)<((3:Nat):Int))=true:=by decide
theorem aep:decide ((2:Int)<((3:Nat):Int))=true:=by decide
theorem aeo:decide ((3:Int)<((3:Nat):Int))=false:=by decide
theorem wrap_add(h:a+b<9223372036854775808):aT .i64 ((a:Int)+(b:Int))=((a+b:Nat):Int):=by rw[z6,IntWalk.i64_in _ Z];rfl
def Ho:aT .i64 (0+((1:Nat):Int))=((1:Nat):Int):=xe1
theorem nlt:decide ((a:Int)<0)=false:=by simp
def gB{g:H->List IV}(hs:∀ a,(g a).length=sz)(l:List H)(n:Nat)(tight:Bool)(h:l.length=n)(hf:n<9223372036854775808):aR sz g :=
 ⟨l,.slC (l.flatMap g) n sz tight,by subst h;exact .row _ _ _ (zj hs),Z⟩
variable {D:List IV}
theorem filled(hA:A.length=2)(hD:D.length=2)(hB:B.length=n*2)(hR:R.length=(1+n+1)*2):dS (dS (dS R 0 A) 2 B) ((1+n)*2) D=A++(B++D):=by
 have h1:dS R 0 A=A++R.drop 2:=xft
 rw[h1,z8 hA.symm (by grind),z8 (by grind) (by grind),mo,mo];rw[Sj (by grind),gF]
theorem Ug(hA:A.length=2)(hD:D.length=2)(hR:R.length=4):dS (dS R 0 A) 2 D=A++D:=by
 have h1:dS R 0 A=A++R.drop 2:=xft
 rw[h1,z8 hA.symm (by grind),Sj (by grind),gF]
theorem xT(hS:bk S)(p1 p2:Pt)(q:aR 2 Pt.c)(hq:q.l.length<=1000000):∃ q':aR 2 Pt.c,q'.l=p1::(q.l++[p2])/\j0 aO S 234 [.slC [.slC [iv p1.x,iv p1.y] 1 2 true,q.v,.slC [iv p2.x,iv p2.y] 1 2 true] 3 1 true] q'.v:=by
 let⟨N,hN⟩:=T7 hS (1+q.l.length+1) Z Z;have hlen:(p1::(q.l++[p2])).length=1+q.l.length+1:=by grind
 refine⟨gB Pt.aV (p1::(q.l++[p2])) (1+q.l.length+1) false hlen Z,rfl,?_⟩;refine ze7 (i:=i234) (hS _ _ M M M M) rfl rfl (N+5) fun m hm d ah=>?_;have hg:=hN m Z d ah [.free] [.free] 0 rfl;have af:∀ aa:aS,aa[0]?=some (.cells ((p1::(q.l++[p2])).flatMap Pt.c))->freeze m d aa (.slM d 0 0 (1+q.l.length+1) (1+q.l.length+1) 2 false)=some (gB Pt.aV (p1::(q.l++[p2])) (1+q.l.length+1) false hlen Z).v:=fun aa ho=>yo (k:=1) ZH Z hlen Pt.aV ho;have w1:aT .i64 (((1:Nat):Int)+(q.l.length:Int))=((1+q.l.length:Nat):Int):=wrap_add Z;have w2:aT .i64 (((1+q.l.length:Nat):Int)+((1:Nat):Int))=((1+q.l.length+1:Nat):Int):=wrap_add Z;obtain⟨k,rfl⟩:∃ k,m=k+1+1+1+1:=⟨m-4,Z⟩;simp only[zf]at hg;have s8:(rep [.int .i64 0,.int .i64 0] (1+q.l.length+1)).length=(1+q.l.length+1)*2:=by rw[yN];rfl
 generalize rep [.int .i64 0,.int .i64 0] (1+q.l.length+1)=R at hg s8;by_cases h0:q.l.length=0
 .simp only[i234,W0,ef,gZ,kr,e8,ig,fG,jy,lE,lD,fI,ij,fH,bF,jG,oy,dD,List.replicate,look,ql,lX,bA,dh,Bs,dX,jY,Xb,Xc,Xd,reduceCtorEq,Xe,yJ,yK,aes,aer,aep,aeo,Yp (show 0<3 by omega),zcd (show 1<3 by omega),zce (show 2<3 by omega),YJ,Bn,Bm,Ho,w1,w2,nlt,hg,zh,zl,zq,zB,Y6,(fun n0 slot=>Yo (d:=d) (n0:=n0) (sz:=2) (len:=0) (cap:=1+q.l.length+1) (n:=1) (slot:=slot) (ah:=ah) (c:=R) (new:=[.int .i64 p1.x,.int .i64 p1.y]) (J:=[.free]) (tight:=false) Z Z Z Z rfl),Ms h0,(fun n0 slot=>Yo (d:=d) (n0:=n0) (sz:=2) (len:=1) (cap:=1+q.l.length+1) (n:=1) (slot:=slot) (ah:=ah) (c:=dS R 0 [.int .i64 p1.x,.int .i64 p1.y]) (new:=[.int .i64 p2.x,.int .i64 p2.y]) (J:=[.free,.free,.free]) (tight:=false) Z Z Z (by rw[za4];omega) rfl),qZ,Ba];have h2:=af [aP.cells (dS (dS R 0 [.int .i64 p1.x,.int .i64 p1.y]) 2 [.int .i64 p2.x,.int .i64 p2.y]),aP.free,aP.free,aP.free] (by
   rw[rH,Ug rfl rfl Z,(uc.1 h0)];rfl)
  grind
 .have a1:=fun n0 slot=>Yo (d:=d) (n0:=n0) (sz:=2) (len:=0) (cap:=1+q.l.length+1) (n:=1) (slot:=slot) (ah:=ah) (c:=R) (new:=[.int .i64 p1.x,.int .i64 p1.y]) (J:=[.free]) (tight:=false) Z Z Z Z rfl;have a2:=fun n0 slot=>Yo (d:=d) (n0:=n0) (sz:=2) (len:=1) (cap:=1+q.l.length+1) (n:=q.l.length) (slot:=slot) (ah:=ah) (c:=dS R 0 [.int .i64 p1.x,.int .i64 p1.y]) (new:=q.l.flatMap Pt.c) (J:=[.free,.free]) (tight:=false) h0 Z Z (by rw[za4];omega) Od;have a3:=fun n0 slot=>Yo (d:=d) (n0:=n0) (sz:=2) (len:=1+q.l.length) (cap:=1+q.l.length+1) (n:=1) (slot:=slot) (ah:=ah) (c:=dS (dS R 0 [.int .i64 p1.x,.int .i64 p1.y]) 2 (q.l.flatMap Pt.c)) (new:=[.int .i64 p2.x,.int .i64 p2.y]) (J:=[.free,.free,.free]) (tight:=false) Z Z Z (by rw[za4,za4];omega) rfl;simp[eB,tY,qZ,Ba]at a1 a2 a3;simp only[i234,W0,ef,gZ,kr,e8,ig,fG,jy,lE,lD,fI,ij,fH,bF,jG,oy,dD,List.replicate,look,ql,lX,bA,dh,Bs,dX,jY,Xb,Xc,Xd,reduceCtorEq,Xe,yJ,yK,aes,aer,aep,aeo,Yp (show 0<3 by omega),zcd (show 1<3 by omega),zce (show 2<3 by omega),YJ,Bn,Bm,Ho,w1,w2,nlt,hg,zh,zl,zq,zB,Y6,a1,a2,a3,qZ,Ba];refine⟨_,rfl,af _ ?_⟩;rw[rH,filled (n:=q.l.length) rfl rfl (zj Pt.aV) s8];simp[Pt.c,zf]
def mX(p:Pn)(id:Int):Option Ac:=p.az.l.find? fun f=>f.id==id
def cT(p:Pn)(id:Int):Option Nd:=p.ns.l.find? fun f=>f.id==id
def gM(p:Pn)(id:Int):Ac:=(mX p id).getD Bl
def cV(p:Pn)(id:Int):Nd:=(cT p id).getD VC
def cQ(p:Pn)(id:Int):Bool:=(mX p id).isSome&&((cT p (gM p id).fr).isSome&&(cT p (gM p id).to).isSome)
def dW(p:Pn)(id:Int):List Pt:=(cV p (gM p id).fr).at'::((gM p id).via.l++[(cV p (gM p id).to).at'])
def bL(p:Pn):Prop:=∀ f∈p.az.l,f.via.l.length<=100000
theorem adj{p:Pn}(h:bL p)(id:Int):(gM p id).via.l.length<=100000:=by
 unfold gM;cases hf:mX p id with
 |none=>simp[Bl,kU]
 |some a=>exact h a (zkc hf)
theorem ZI(q:aR 2 Pt.c)(e:Int):Fz (1+1+1+1) (.tuple [q.v,.int .i64 e]):=by
 refine Dk fun x hx=>?_;simp only[eG,gm,gw]at hx;rcases hx with rfl|rfl
 .exact zP ZH q
 .exact zp.le Z
theorem Mr{len:Nat}(h:n=0){aa:aS}{new:List IV}:aY d n0 lk aa sz (.slC cs len z tight) new n slot=some (.r,.slC cs len z tight,aa):=by subst h;exact zbg
theorem AV{len:Nat}(h:n≠0){aa:aS}{new:List IV}(hb:len+n<=1073741824)(hc:cs.length=len*sz) :
  aY d n0 lk aa sz (.slC cs len sz true) new n slot=dD aa (n0+slot) (.cells (cs++new)) (.slM d (n0+slot) 0 (len+n) (len+n) sz false):=by
 unfold aY
 rw[b9 h]
 simp only
 rw[bU ⟨by unfold bound;omega,trivial⟩]
 have eX:seg cs 0 (len*sz)=some cs:=xeu
 simp only[eX,zi]
theorem zQ{len:Nat}(h:n≠0){aa:aS}{c new:List IV}(hb:len+n<=1073741824)(hc:c.length=len*sz)(hs:new.all IV.scalar=true)(hl:lk d i=some (.cells c)) :
  aY d n0 lk aa sz (.slM d i 0 len len sz false) new n slot=iG aa i (n0+slot) (.cells (c++new)) (.slM d (n0+slot) 0 (len+n) (len+n) sz false):=by
 unfold aY
 rw[b9 h]
 simp only
 rw[bU ⟨by unfold bound;omega,trivial⟩]
 have eX:seg c 0 (len*sz)=some c:=xeu
 simp only[hl,eX,zi]
 grind
theorem zw{x:Int}:bW lk 1 (.slC [.int .i64 x] 1 1 tight)=some ([.int .i64 x],1):=by rfl
variable {k0 m:Nat}{lv:IV}{xs:List H}
section
variable {g:H->List IV} 
def bE(g:H->List IV)(sz d k0:Nat)(J:aS)(lv:IV)(xs:List H):Prop:=(xs=[]/\lv=.nilsl)∨∃ b,xs≠[]/\lv=.slM d (k0+b) 0 xs.length xs.length sz false/\J[b]?=some (.cells (xs.flatMap g))
theorem bE.more(h:bE g sz d k0 J lv xs)(r:aS):bE g sz d k0 (J++r) lv xs:=by
 rcases h with h|⟨b,hne,h1,h2⟩
 .exact .inl h
 .exact .inr ⟨b,hne,h1,by grind⟩
def bZ(hs:∀ a,(g a).length=sz)(xs:List H)(hx:xs.length<9223372036854775808):aR sz g:=match xs,hx with
 |[],_=>kU _ _
 |x::t,hx=>gB hs (x::t) (x::t).length false rfl hx
theorem zM(hs:∀ a,(g a).length=sz)(xs:List H)(hx:xs.length<9223372036854775808):(bZ hs xs hx).l=xs:=by cases xs<;>rfl
theorem zN{Pre L:aS}:(Pre++L)[Pre.length+b]?=L[b]?:=by grind
theorem yd{Pre L:aS}{v:aP}:(Pre++L).set (Pre.length+b) v=Pre++L.set b v:=by grind
theorem yy(hs:∀ a,(g a).length=sz)(hf:∀ a,∀ x∈g a,Fz 1 x){Pre:aS}(hm:2<=m)(hx:xs.length<9223372036854775808)(h:bE g sz d Pre.length J lv xs):freeze m d (Pre++J) lv=some (bZ hs xs hx).v:=by
 rcases h with⟨rfl,rfl⟩|⟨b,hne,rfl,h2⟩
 .exact yZ m Z d _
 .cases xs with
  |nil=>grind
  |cons x t=>exact yo hf Z rfl hs (by grind)
theorem zI(hs:∀ a,(g a).length=sz){Pre R:aS}{ys:List H}(h:bE g sz d Pre.length J lv xs)(hy:ys.length≠0)(hx:xs.length+ys.length<=1073741824)(hk:n0+slot=Pre.length+(J.length+k))(hf:R[k]?=some .free)
  (hsc:(ys.flatMap g).all IV.scalar=true) :
  ∃ e cH J2,aY d n0 (look d ah (Pre++(J++R))) (Pre++(J++R)) sz lv (ys.flatMap g) ys.length slot=some (e,cH,Pre++J2)/\bE g sz d Pre.length J2 cH (xs++ys):=by
 have lz:=(ew.1 hf).1
 have gU:(J++R)[J.length+k]?=some .free:=by grind
 have au:J.length+k<(J++R).length:=by grind
 have hne:xs++ys≠[]:=by simp_all
 rcases h with⟨rfl,rfl⟩|⟨b,_,rfl,h2⟩
 .rw[yp hy xfw]
  exact xfh
 .have hb:=(ew.1 h2).1
  have fE:(J++R)[b]?=some (.cells (xs.flatMap g)):=by grind
  rw[zQ hy hx (zj hs) hsc xcw]
  exact xe8
end
theorem Aa{H I:Type}{g:H->List I}{c:Nat}:∀{l:List H},(∀ x∈l,(g x).length<=c)->(l.flatMap g).length<=l.length*c
 |[],_=>by simp
 |x::l,h=>by rw[eT,mV,fB,znx];have h1:=h x (qj ..);have h2:=Aa fun y hy=>h y (tj _ hy);omega
variable {I:Type}
theorem zcf{g:H->List I}{x:H}(hx:l[i]?=some x):(l.take (i+1)).flatMap g=(l.take i).flatMap g++g x:=by rw[jh,hx,oP,Bh,eT,jm,gF]
theorem bE.one{g:H->List IV}(h:bE g sz d k0 J lv xs):lv.cells=[lv]/\lv.scalar=true:=by rcases h with⟨_,rfl⟩|⟨b,_,rfl,_⟩<;>exact⟨rfl,rfl⟩
def M5{st:St}:bh d ah st []=some (.tuple []):=aI
theorem ED{H:Type}{P:H->Nat->Prop}:∀(l:List H),(∀ x∈l,∃ N,∀ m,N<=m->P x m)->∃ N,∀ x∈l,∀ m,N<=m->P x m
 |[],_=>⟨0,fun x hx=>by grind⟩
 |y::l,h=>by let⟨N1,h1⟩:=h y (qj ..);let⟨N2,h2⟩:=ED l fun x hx=>h x (tj _ hx);refine⟨N1+N2,fun x hx m hm=>?_⟩;grind
def Bk(cB:aS)(b:Nat)(c:List IV):aS:=cB.set b (.cells c)
def nU(cB:aS)(b:Nat)(aJ:aS):Prop:=∀ j,j<cB.length->j≠b->aJ[j]?=cB[j]?
variable {cB:aS}{vis:List Nat}
section
variable {R:aS} {c c':List IV}
theorem zfc:(Bk cB b c).length=cB.length:=by simp[Bk]
theorem zfd(h:b<cB.length):(Bk cB b c++R)[b]?=some (.cells c):=by rw[pN (by rw[zfc];omega)];simp[Bk,h]
theorem AH(h:b<cB.length):(Bk cB b c++R).set b (.cells c')=Bk cB b c'++R:=by rw[zl1 _ _ (by rw[zfc];omega)];simp[Bk]
theorem UI(h:b<cB.length):(bI vis (cB.length+k) (Bk cB b c++R))[b]?=some (.cells c):=by rw[zu,zfd h];grind
theorem wU:nU cB b (Bk cB b c++R):=by intro j h1 h2;rw[pN (by rw[zfc];omega)];simp[Bk];grind
theorem uC:nU cB b (bI vis (cB.length+k) (Bk cB b c++R)):=by intro j h1 h2;rw[zu,wU j h1 h2];grind
theorem Jz{l:aS}(h:l[b]?=some (.cells c)):Bk l b c=l:=by let⟨h1,h2⟩:=ew.1 h;unfold Bk;rw[←h2,List.set_getElem_self]
end
structure MB{H:Type}(g:H->List IV)(e:H->IV)(sz:Nat)(agg:Bool):Prop where
 len:∀ x,(g x).length=sz
 cells:∀ x,(e x).cells=g x
 rO:∀ x,(g x).all IV.scalar=true
 val:∀ x,ql agg (g x)=some (e x)
variable {agg:Bool}
section
variable {g:H->List IV} {e:H->IV} {x y:H}
theorem B9:∀(p l:List IV),bB (p++l) p.length l.length=some l
 |p,[]=>rfl
 |p,x::l=>by have h:=B9 (p++[x]) l;simp[mo,gu,fP,mV,fB,gq,eB]at h;unfold bB;grind
def yk{l:List IV}:bB l 0 l.length=some l:=B9 [] l
theorem MB.ld(h:MB g e sz agg)(hx:xs[i]?=some x):(bB (xs.flatMap g) (i*sz) sz).bind (ql agg)=some (e x):=by have h1:=zd h.len 0 sz hx Z;rw[tY]at h1;rw[h1,←h.len x,yk,iD,h.val]
theorem M6(hg:∀ x,(g x).length=sz):∀{xs:List H}{i:Nat},i<xs.length->dS (xs.flatMap g) (i*sz) (g x)=(xs.set i x).flatMap g:=by
 intro xs i hi;refine Hj fun k=>?_;have hl:i*sz+(g x).length<=(xs.flatMap g).length:=by rw[hg,zj hg];have:=MI sz (Nat.succ_le_of_lt hi);grind
 rw[ZP _ _ _ _ hl,hg];have key:∀(l1 l2:List H)(z:H),(l1++z::l2).flatMap g=l1.flatMap g++(g z++l2.flatMap g):=fun l1 l2 z=>by simp
 have hsplit:xs=xs.take i++xs[i]::xs.drop (i+1):=by simp
 rw[(show xs.set i x=xs.take i++x::xs.drop (i+1) by grind),key];conv=>lhs;rw[hsplit,key]
 have ht:((xs.take i).flatMap g).length=i*sz:=by rw[zj hg,ER,ML (Nat.le_of_lt hi)]
 grind
def MB.st(h:MB g e sz agg)(hi:i<xs.length):dS (xs.flatMap g) (i*sz) (g x)=(xs.set i x).flatMap g:=M6 h.len hi
theorem MB.fits(h:MB g e sz agg)(hi:i<xs.length):i*sz+sz<=(xs.flatMap g).length:=by rw[zj h.len];have:=MI sz (Nat.succ_le_of_lt hi);grind
end
def Wlk:(type_of% @Wc):=@Wc
variable {v:IV}
section
variable {z:IV} {l:List (Nat×IV)}
theorem Ch:(put t (some i) v).length=t.length:=by rw[ye,Vv]
theorem Wy(h:i<t.length):pE z (put t (some i) v) i=v:=by rw[ye,yc,EB,vW h];rfl
theorem Wx(h:i≠j):pE z (put t (some i) v) j=pE z t j:=by rw[ye,yc,yc,EB,EB,EV h]
theorem Ww(h:i<t.length):(put t (some i) v)[i]?=some v:=by rw[ye,vW h]
theorem Wv(h:i≠j):(put t (some i) v)[j]?=t[j]?:=by rw[ye,EV h]
def IC.sub:IC->List Nat->IC
 |c,[]=>c
 |.seq a _,0::p=>a.sub p
 |.seq _ b,_::p=>b.sub p
 |.cond _ a _,0::p=>a.sub p
 |.cond _ _ b,_::p=>b.sub p
 |.block _ a,_::p=>a.sub p
 |.loop a,_::p=>a.sub p
 |c,_=>c
def aN(n:Nat)(t:List IV)(l:List (Nat×IV)):Prop:=t.length=n/\∀ p∈l,pE (.tuple []) t p.1=p.2
def zb:aN n t []=(t.length=n):=propext ⟨fun h=>h.1,fun h=>⟨h,M⟩⟩
theorem za:aN n t ((i,v)::l)=(pE (.tuple []) t i=v/\aN n t l):=by refine propext ⟨fun⟨h1,h2⟩=>⟨h2 (i,v) M,h1,fun p hp=>h2 p (by grind)⟩,fun⟨h1,h2,h3⟩=>⟨h2,fun p hp=>?_⟩⟩;grind
end
def HJ{o:Nat}:(IV.ptrC cs o).scalar=true:=aI
def DU{o:Nat}:(IV.ptrC cs o).cells=[.ptrC cs o]:=aI
section
variable {es:List dI} {st:St} {e:dI} {fr:List (Nat×Nat)} 
theorem PE:Mz [] K es st=K .normal st:=by simp[Mz]
theorem Jb(h:comm (es.getD j .x) (es.getD i .x)=true):Mz ((j,i)::fr) K es st=Mz fr K es st:=by unfold Mz;grind
def afg{l:List dI}{z:dI}:(e::l).getD 0 z=e:=aI
def afe{l:List dI}{z:dI}:(e::l).getD (i+1) z=l.getD i z:=aI
theorem afk:comm .p e=true:=by cases e<;>rfl
theorem afj:comm e .p=true:=by cases e<;>rfl
def WH:comm .r .r=true:=aI
def WJ:comm .r .a=true:=aI
def WN:comm .a .r=true:=aI
def WQ:comm .a .a=true:=aI
variable {c a' b' c' d':Nat}
def WI:comm .r (.rl a b c d)=true:=aI
def WK:comm (.rl a b c d) .r=true:=aI
def WO:comm .a (.rl a b c d)=true:=aI
def WM:comm (.rl a b c d) .a=true:=aI
def WL:comm (.rl a b c d) (.rl a' b' c' d')=true:=aI
end
def V0:=aj @Wlk<|aj @Ch<|aj @Wy<|aj @Wx<|aj @Ww<|aj @Wv<|aj @zb<|aj @za<|aj @ne_eq.{1}<|aj @znk<|aj @zni<|aj @gu.{0}<|aj @fP.{0}<|aj @gF.{0}<|aj @oO.{0}<|aj @MW.{0}<|aj @JZ<|aj @JY<|aj @rF<|aj @if_true.{1}<|aj @gq.{0}<|aj @fB.{0}<|aj @eB<|aj @tY<|aj @cI<|aj @MD<|aj @and_true<|aj @Vn<|aj @rH.{0}<|aj @rG.{0}<|aj @iJ.{0,0}<|aj @Vu.{0,0}<|aj @iD.{0,0}<|aj @nv<|aj @if_false.{1}<|aj @mQ.{0,0}<|aj @tX.{0,0}<|aj @RN<|aj @decide_true<|aj @decide_false<|aj @Ev.{0}<|aj @mo.{0}<|aj @mV.{0}<|aj @ME<|aj @Hg<|aj @dD.eq_1<|aj @Go.Proofs.YtjibdelmjcenhaaGreatDoor.look.eq_1<|aj @xz<|aj @Zl<|aj @lX.eq_1<|aj @lX.eq_2<|aj @bA.eq_1<|aj @bA.eq_2<|aj @bA.eq_3<|aj @bA.eq_4<|aj @bA.eq_5<|aj @bA.eq_6<|aj @bA.eq_7<|aj @bA.eq_8<|aj @bA.eq_9<|aj @bA.eq_10<|aj @bA.eq_11<|aj @bA.eq_12<|aj @bA.eq_13<|aj @bA.eq_14<|aj @wz<|aj @wv<|aj @wK<|aj @wu<|aj @wD<|aj @wB<|aj @wA<|aj @wJ<|aj @HG<|aj @wq<|aj @wI<|aj @wC<|aj @wE<|aj @wF<|aj @wG<|aj @wH<|aj @Bs.eq_1<|aj @Bs.eq_2<|aj @dX.eq_1<|aj @dX.eq_2<|aj @jY.eq_1<|aj @ef.eq_1<|aj @gZ.eq_1<|aj @kr.eq_1<|aj @e8.eq_1<|aj @ig.eq_1<|aj @fG.eq_1<|aj @jy.eq_1<|aj @lE.eq_1<|aj @lD.eq_1<|aj @fI.eq_1<|aj @ij.eq_1<|aj @fH.eq_1<|aj @bF.eq_1<|aj @jG.eq_1<|aj @oy.eq_1<|aj @w6<|aj @w5<|aj @wZ<|aj @wY<|aj @wX<|aj @wW<|aj @wV<|aj @HJ<|aj @eq_self.{1}<|aj @DU<|aj @PE<|aj @Jb<|aj @afg<|aj @afe<|aj @afk<|aj @afj<|aj @WH<|aj @WJ<|aj @WN<|aj @WQ<|aj @WI<|aj @WK<|aj @WO<|aj @WM<|@WL
def L1:=aj @zfc<|aj @wU<|aj @uC<|aj @zo<|aj @Vv.{0}<|aj @ez.{0}<|aj @l7.{0}<|@Int.ofNat_le
def L2{g:H->List IV}{e:H->IV}(hb:b<cB.length)(hE:MB g e sz agg):(∀{c:List IV}{R:aS},(Bk cB b c++R)[b]?=some (.cells c))/\(∀{c c':List IV}{R:aS},(Bk cB b c++R).set b (.cells c')=Bk cB b c'++R)/\(∀{c:List IV}{R:aS}{vis:List Nat}{k:Nat},(bI vis (cB.length+k) (Bk cB b c++R))[b]?=some (.cells c))/\(∀ x,(e x).cells=g x)/\(∀ x,(g x).length=sz)/\(∀ x,(g x).all IV.scalar=true)/\(∀{xs:List H}{i:Nat}{x:H},i<xs.length->dS (xs.flatMap g) (i*sz) (g x)=(xs.set i x).flatMap g)/\(∀{xs:List H}{i:Nat},i<xs.length->i*sz+sz<=(xs.flatMap g).length) :=
 ⟨zfd hb,AH hb,UI hb,hE.cells,hE.len,hE.rO,hE.st,hE.fits⟩
def slotsOf:Nat->List IV->List (Nat×IV)
 |_,[]=>[]
 |k,x::xs=>(k,x)::slotsOf (k+1) xs
def V2:=aj @slotsOf.eq_1<|aj @slotsOf.eq_2<|aj @za<|aj @zb<|@eB
def V3:=aj @za<|aj @zb<|@zf
def fc(h:i<l.length):∃ x,l[i]?=some x:=⟨_,dw h⟩
theorem ym:∀{xs:List IV}{k:Nat}{p:Nat×IV},p∈slotsOf k xs->∃ j,p.1=k+j/\xs[j]?=some p.2
 |[],_,_,h=>by simp[slotsOf]at h
 |x::xs,k,p,h=>by
  simp[slotsOf,eG]at h;rcases h with rfl|h
  .grind
  .let⟨j,h1,h2⟩:=ym h;exact⟨j+1,Z,h2⟩
def Vk(d:Nat)(ah:bq)(rs:List mY)(Q:IV->List aP->Prop)(o:Out)(st:St):Prop:=(o=.normal∨o=.ret)/\∃ v,bh d ah st rs=some v/\Q v st.aa
variable {Q:IV->List aP->Prop}
section
variable {st:St}
def ya:Vk d ah rs Q .ret st=∃ v,bh d ah st rs=some v/\Q v st.aa:=xbc
def yB:Vk d ah rs Q .normal st=∃ v,bh d ah st rs=some v/\Q v st.aa:=xde
theorem Ub{i:gP}{aa:aS}(hS:S f args=none)(hi:F f=some i)(hm:i.mode=2)
  (h:Ex (aL F S m) d ah m i.body (Vk d ah i.res Q) ⟨args++List.replicate (i.ntmps-args.length) (.tuple []),aa⟩):∃ v aU,(∀ id,aL F S (m+1) d ah aJ aa id f args=some (.x,v,aU))/\Q v aU:=by
 let⟨o,st,h1,h2,v,h3,h4⟩:=h
 refine⟨v,st.aa,fun id=>?_,h4⟩
 simp[aL,hS,hi,hm,if_true,zi,h1]
 rcases h2 with rfl|rfl<;>simp[ended,h3,iJ]
end
theorem yq{i:gP}{aa:aS}(hS:S f args=none)(hi:F f=some i)(hm:i.mode=2)(hl:args.length<=i.ntmps)
  (h:∀ t,aN i.ntmps t (slotsOf 0 args)->Ex (aL F S m) d ah m i.body (Vk d ah i.res Q) ⟨t,aa⟩):∃ v aU,(∀ id,aL F S (m+1) d ah aJ aa id f args=some (.x,v,aU))/\Q v aU:=by
 refine Ub hS hi hm (h _ ⟨by grind,fun p hp=>?_⟩)
 let⟨j,h1,h2⟩:=ym hp
 rw[yc,EB,h1,eB,pN (ew.1 h2).1,h2]
 rfl
def zbi{k:Int}(h:k=n)(hn:n<9223372036854775808):aT .i64 k=(n:Int):=xem
theorem oS{k:Int}(h:k=n:=by omega)(hn:n<9223372036854775808:=by omega):aT .i64 k=(n:Int):=zbi h hn
def zA{k n:Int}(h:k=n)(h1:-9223372036854775808<=n)(h2:n<9223372036854775808):aT .i64 k=n:=xem
def Eu(S:bX)(N d:Nat)(ah:bq)(cB:aS)(b:Nat)(e:H->IV)(gf:FuncId)(caps:List IV)(r:H->H->Int):Prop :=
 ∀ m,N<=m->∀ aJ aa id x y,nU cB b aJ->aL aO S m d ah aJ aa id gf (e x::e y::caps)=some (.r,.int .i64 (r x y),aa)
theorem bS{p:Prop}(h:p:=by simp only[V0,seval, *]):p:=h
theorem zt(i:Nat)(h:i+1<9223372036854775808:=by omega):aT .i64 ((i:Int)+1)=((i+1:Nat):Int):=zbi Z Z
theorem gv(m k:Nat)(h:k<=m:=by omega):∃ q,m=q+k:=⟨m-k,Z⟩
theorem zg{i:gP}(hS:S f args=none)(hi:aO f=some i)(hm:i.mode=0)(hl:args.length<=i.ntmps)(N:Nat)(hN:1<=N)(hv:Fz 1 v)
  (h:∀ m,N<=m->∀ d ah t,aN i.ntmps t (slotsOf 0 args)->Ex (aL aO S m) d ah m i.body (Fin d ah i.res v) ⟨t,[]⟩):∀ m,N+1<=m->∀ d ah aJ aa id,aL aO S m d ah aJ aa id f args=some (.r,v,aa):=by
 intro m hm1 d ah aJ aa id
 obtain⟨m,rfl⟩:=gv m 1
 obtain ⟨o,st,h1,h2,h3⟩:=h m Z (d+1) (fun l=>if l=d then aJ else ah l) (args++List.replicate (i.ntmps - args.length) (.tuple [])) ⟨by grind,fun p hp=>by
  let⟨j,h1,h2⟩:=ym hp;rw[yc,EB,h1,eB,pN (ew.1 h2).1,h2];rfl⟩
 exact xba
theorem PA(i:gP)(hS:bk S)(N:Nat)(hv:Fz 1 v)(h:∀ m,N<=m->∀ d ah t,aN i.ntmps t (slotsOf 0 args)->Ex (aL aO S m) d ah m i.body (Fin d ah i.res v) ⟨t,[]⟩)(h0:sfq f=true:=by rfl)(hi:aO f=some i:=by rfl)(hm:i.mode=0:=by rfl)(hl:args.length<=i.ntmps:=by exact bP rfl)(hN:1<=N:=by omega):∀ m,N+1<=m->∀ d ah aJ aa id,aL aO S m d ah aJ aa id f args=some (.r,v,aa):=zg (Cz hS h0) hi hm hl N hN hv h
theorem Ty{i:gP}{az:List IV}{aa:aS}{id:Nat}(h1:S f args=none)(h2:S f az=none)(hi:aO f=some i)(hm:i.mode=3)(ha:args.mapM (bl 12 d aJ)=az.mapM (bl 12 d aJ)):aL aO S m d ah aJ aa id f args=aL aO S m d ah aJ aa id f az:=by
 cases m with
 |zero=>rfl
 |succ m=>simp[aL,h1,h2,hi,hm,b9 (show ¬ (3=2) by simp),if_true,ha]
theorem u5{i:gP}(hS:S f args=none)(hi:aO f=some i)(hm:i.mode=0∨i.mode=3)(hl:args.length<=i.ntmps)(N:Nat)(hN:1<=N)(hv:Fz 1 v)(hsc:∀ o,n5 o v=some (.r,v,o))(hc:∀ d aa,args.mapM (bl 12 d aa)=some args)
  (h:∀ m,N<=m->∀ d ah t,aN i.ntmps t (slotsOf 0 args)->Ex (aL aO S m) d ah m i.body (Fin d ah i.res v) ⟨t,[]⟩):∀ m,N+1<=m->∀ d ah aJ aa id,aL aO S m d ah aJ aa id f args=some (.r,v,aa):=by
 rcases hm with hm|hm
 .exact zg hS hi hm hl N hN hv h
 intro m hm1 d ah aJ aa id
 obtain⟨m,rfl⟩:=gv m 1
 obtain ⟨o,st,h1,h2,h3⟩:=h m Z 0 (fun _=>[]) (args++List.replicate (i.ntmps - args.length) (.tuple [])) ⟨by grind,fun p hp=>by
  let⟨j,h1,h2⟩:=ym hp;rw[yc,EB,h1,eB,pN (ew.1 h2).1,h2];rfl⟩
 simp[aL,hS,hi,hm,b9 (show ¬ (3=2) by simp),if_true,hc,iD,zi,h1]
 rcases h2 with rfl|rfl<;>simp[ended,h3,hsc]
theorem u0(hS:bk S)(x:Int):∀ m,2<=m->∀ d ah aJ aa id,aL aO S m d ah aJ aa id 184 [.int .i64 x]=some (.r,.bool false,aa):=by refine zg (hS _ _ M M M M) rfl rfl (bP rfl) 1 Z zk fun m hm d ah t af=>?_;simp[slotsOf,za,zb,i184]at af;simp[i184,V0,seval,af,(show(x != x)=false by simp)]
theorem zr{i:gP}{w:IV}(hS:S f args=none)(hi:aO f=some i)(hm:i.mode=0)(hl:args.length<=i.ntmps)(N:Nat)
  (h:∀ m,N<=m->∀ d ah t,aN i.ntmps t (slotsOf 0 args)->Ex (aL aO S m) d ah m i.body (Eo d ah i.res m w) ⟨t,[]⟩):∀ m,N+1<=m->∀ d ah aJ aa id,aL aO S m d ah aJ aa id f args=some (.r,w,aa):=by
 intro m hm1 d ah aJ aa id
 obtain⟨m,rfl⟩:=gv m 1
 obtain ⟨o,st,h1,h2,v,h3,h4⟩:=h m Z (d+1) (fun l=>if l=d then aJ else ah l) (args++List.replicate (i.ntmps - args.length) (.tuple [])) ⟨by grind,fun p hp=>by
  let⟨j,h1,h2⟩:=ym hp;rw[yc,EB,h1,eB,pN (ew.1 h2).1,h2];rfl⟩
 simp[aL,hS,hi,hm,(show ¬ (0=2) by simp),(show ¬ (0=3) by simp),(show ¬ (4<=0%7) by simp),if_false,yG (show(0:Nat)≠7 by simp),zi,h1]
 rcases h2 with rfl|rfl<;>simp[ended,h3,leave,h4]
theorem aht(i:gP){w:IV}(hS:bk S)(N:Nat)(h:∀ m,N<=m->∀ d ah t,aN i.ntmps t (slotsOf 0 args)->Ex (aL aO S m) d ah m i.body (Eo d ah i.res m w) ⟨t,[]⟩)(h0:sfq f=true:=by rfl)(hi:aO f=some i:=by rfl)(hm:i.mode=0:=by rfl)(hl:args.length<=i.ntmps:=by exact bP rfl):∀ m,N+1<=m->∀ d ah aJ aa id,aL aO S m d ah aJ aa id f args=some (.r,w,aa):=zr (Cz hS h0) hi hm hl N h
theorem Iv(hS:bk S)(p:Pn)(id:Int):j0 aO S 116 [.agg p.c,iv id] (.tuple [.agg ((p.ns.l.find? fun f=>f.id==id).getD VC).c,.bool (p.ns.l.find? fun f=>f.id==id).isSome]):=by
 refine⟨_,zr (i:=i116) (hS _ _ M M M M) rfl rfl (bP rfl) (p.ns.l.length+5) fun m hm d ah t af=>?_⟩;obtain⟨m,rfl⟩:=gv m 3;simp[V2,i116,Pn.c]at af;simp[i116,V0,seval,af];refine zm p.ns.l.length (fun i st=>∃ J,((p.ns.l.take i).find? fun f=>f.id==id)=none/\st.aa=p.o::.cells VC.c::J/\aN 22 st.t [(1,iv id),(4,.ptrM d 1 0),(5,.bool false),(9,p.ns.v),(10,iv (p.ns.l.length:Nat)),(11,iv i)]) Z ⟨[],rfl,rfl,by simp[V0,seval,af,cZ]⟩ ?_;clear af;rintro i ⟨t,aa⟩ K hi ⟨J,hc,ho,af⟩ hn he hr;dsimp only at ho af;subst ho;simp[za,zb,zf]at af;by_cases h:i<p.ns.l.length
 .obtain⟨x,hx⟩:=fc (l:=p.ns.l) (i:=i) h;have hnf:=p.ns.eZ;have hrd:bB (p.ns.l.flatMap Nd.c) (i*3) 3=some [.int .i64 x.id,.int .i64 x.at'.x,.int .i64 x.at'.y]:=(zd Nd.aV 0 3 hx Z).trans rfl;have hw:=zt i;cases hb:x.id==id
  .simp only[V0,seval,zc p.ns h,ud, *];exact xe5
  .exact xch
 .exact xdw
theorem Cr(o:Option H)(z:I){P:H->I->Prop}(h:∀ x,o=some x->∃ y,P x y):∃ y,(∀ x,o=some x->P x y)/\(o=none->y=z):=by
 cases o with
 |none=>simp
 |some x =>
  simp[*]
theorem ad6(hS:bk S)(p:Pn)(id:Int)(F0:∀ f∈p.az.l,f.via.l.length<=1073741824):∃ q',q'.l=((p.az.l.find? fun f=>f.id==id).getD Bl).via.l /\
  j0 aO S 117 [.agg p.c,iv id] (.tuple [.agg ({ (p.az.l.find? fun f=>f.id==id).getD Bl with via:=q' }:Ac).c,.bool (p.az.l.find? fun f=>f.id==id).isSome]):=by
 obtain⟨⟨q',N⟩,hP,hz⟩:=Cr (p.az.l.find? fun f=>f.id==id) (kU 2 Pt.c,0) (P:=fun x y=>y.1.l=x.via.l/\∀ m,y.2<=m->∀ d ah aJ aa i,aL aO S m d ah aJ aa i 161 [x.via.v]=some (.r,y.1.v,aa)) fun x hx=>by let⟨q,h1,N,h2⟩:=xU hS x.via (F0 x (zkc hx));exact⟨(q,N),h1,h2⟩
 dsimp only at hP
 refine⟨q',?_,_,zr (i:=i117) (hS _ _ M M M M) rfl rfl (bP rfl) (N+p.az.l.length+5) fun m hm d ah t af=>?_⟩
 .cases hf:p.az.l.find? fun f=>f.id==id with
  |none=>exact dL aR.l (Prod.mk.inj (hz hf)).1
  |some x=>grind
 obtain⟨m,rfl⟩:=gv m 4
 simp[V2,i117,Pn.c]at af
 simp[i117,V0,seval,af]
 refine zm p.az.l.length (fun i st=>∃ J,((p.az.l.take i).find? fun f=>f.id==id)=none/\st.aa=p.o::.cells Bl.c::J/\aN 26 st.t [(1,iv id),(4,.ptrM d 1 0),(5,.bool false),(9,p.az.v),(10,iv (p.az.l.length:Nat)),(11,iv i)]) Z ⟨[],rfl,rfl,by simp[V0,seval,af,cZ]⟩ ?_
 clear af
 rintro i ⟨t,aa⟩ K hi ⟨J,hc,ho,af⟩ hn he hr
 dsimp only at ho af
 subst ho
 simp[za,zb,zf]at af
 by_cases h:i<p.az.l.length
 .obtain⟨x,hx⟩:=fc (l:=p.az.l) (i:=i) h
  have hnf:=p.az.eZ
  have hrd:bB (p.az.l.flatMap Ac.c) (i*6) 6=some [.int .i64 x.id,.int .i64 x.fr,.int .i64 x.to,x.via.v,.int .i64 x.l,.int .i64 x.r]:=xa9
  cases hb:x.id==id
  .simp only[V0,seval,af,h,zc p.az h,Xl,hrd,hb,(zt i)]
   exact xe5
  .have hf:=YI (p:=fun f=>f.id==id) hc hx hb
   simp[V0,seval,af,h,zc p.az h,Xl,hrd,hb,(fun d ah aJ aa i=>(hP x hf).2 (m+4) Z d ah aJ aa i)]
   refine hr _ ?_
   simp only[V0,seval,af,hf]
   exact⟨_,rfl,zcc (zP ZH q' _ Z _ _)⟩
 .simp[V0,seval,af,h,Xl]
  refine he _ _ ?_
  obtain⟨rfl,_⟩:=Prod.mk.inj (hz (Z9 hc h))
  exact xgn
theorem wR(hS:bk S)(p:Pn)(id:Int):j0 aO S 62 [.agg p.c,iv id] (.tuple [.agg ((p.ns.l.find? fun f=>f.id==id).getD VC).c,.bool (p.ns.l.find? fun f=>f.id==id).isSome]):=by
 refine⟨_,zr (i:=i62) (hS _ _ M M M M) rfl rfl (bP rfl) (p.ns.l.length+5) fun m hm d ah t af=>?_⟩;obtain⟨m,rfl⟩:=gv m 3;simp[V2,i62,Pn.c]at af;simp[i62,V0,seval,af];refine zm p.ns.l.length (fun i st=>((p.ns.l.take i).find? fun f=>f.id==id)=none/\st.aa=[p.o,.cells VC.c]/\aN 28 st.t [(1,iv id),(2,.ptrM d 0 0),(4,.ptrM d 1 0),(5,.bool false),(6,iv i)]) Z ⟨rfl,rfl,by simp[V0,seval,af,cZ]⟩ ?_;clear af;rintro i ⟨t,aa⟩ K hi ⟨hc,ho,af⟩ hn he hr;dsimp only at ho af;subst ho;simp[za,zb,zf]at af;by_cases h:i<p.ns.l.length
 .obtain⟨x,hx⟩:=fc (l:=p.ns.l) (i:=i) h;have hnf:=p.ns.eZ;have hrd:bB (p.ns.l.flatMap Nd.c) (i*3) 3=some [.int .i64 x.id,.int .i64 x.at'.x,.int .i64 x.at'.y]:=(zd Nd.aV 0 3 hx Z).trans rfl;have TT:bB (p.ns.l.flatMap Nd.c) (i*3) 1=some [.int .i64 x.id]:=(zd Nd.aV 0 1 hx Z).trans rfl;have hw:=zt i;cases hb:x.id==id
  .simp only[V0,seval,zc p.ns h,ud, *];exact hn h _ ⟨Z8 hc hx hb,rfl,bS⟩
  .exact xch
 .exact xdw
theorem adr{g:H->List IV}(hg:∀ a,(g a).length=sz)(x:aR sz g):∃ q:aR sz g,q.l=x.l/\((x.l.length=0/\q.v=.slC [] 0 sz true)∨(x.l.length≠0/\q.v=.slC (x.l.flatMap g) x.l.length sz false)):=by
 by_cases h0:x.l.length=0
 .exact⟨⟨[],.slC [] 0 sz true,.row _ _ _ M,M⟩,(uc.1 h0).symm,.inl ⟨h0,rfl⟩⟩
 .exact⟨⟨x.l,.slC (x.l.flatMap g) x.l.length sz false,.row _ _ _ (zj hg),x.eZ⟩,rfl,.inr ⟨h0,rfl⟩⟩
theorem H6(hS:bk S)(p:Pn)(id:Int)(F0:∀ f∈p.az.l,f.via.l.length<=1073741824):∃ q',q'.l=((p.az.l.find? fun f=>f.id==id).getD Bl).via.l /\
  j0 aO S 126 [.agg p.c,iv id] (.tuple [.agg ({ (p.az.l.find? fun f=>f.id==id).getD Bl with via:=q' }:Ac).c,.bool (p.az.l.find? fun f=>f.id==id).isSome]):=by
 obtain⟨q',hP,hz⟩:=Cr (p.az.l.find? fun f=>f.id==id) (kU 2 Pt.c) fun x _=>adr Pt.aV x.via
 refine⟨q',?_,_,zr (i:=i126) (hS _ _ M M M M) rfl rfl (bP rfl) (p.az.l.length+8) fun m hm d ah t af=>?_⟩
 .cases hf:p.az.l.find? fun f=>f.id==id with
  |none=>exact dL aR.l (hz hf)
  |some x=>grind
 obtain⟨m,rfl⟩:=gv m 4
 simp[V2,i126,Pn.c]at af
 simp[i126,V0,seval,af]
 refine zm p.az.l.length (fun i st=>∃ J,((p.az.l.take i).find? fun f=>f.id==id)=none/\st.aa=p.o::.cells Bl.c::J/\aN 35 st.t [(1,iv id),(2,.ptrM d 0 0),(4,.ptrM d 1 0),(5,.bool false),(6,iv i)]) Z ⟨[],rfl,rfl,by simp[V0,seval,af,cZ]⟩ ?_
 clear af
 rintro i ⟨t,aa⟩ K hi ⟨J,hc,ho,af⟩ hn he hr
 dsimp only at ho af
 subst ho
 simp[za,zb,zf]at af
 by_cases h:i<p.az.l.length
 .obtain⟨x,hx⟩:=fc (l:=p.az.l) (i:=i) h
  have hnf:=p.az.eZ
  have hrd:bB (p.az.l.flatMap Ac.c) (i*6) 6=some [.int .i64 x.id,.int .i64 x.fr,.int .i64 x.to,x.via.v,.int .i64 x.l,.int .i64 x.r]:=xa9
  have TT:bB (p.az.l.flatMap Ac.c) (i*6) 1=some [.int .i64 x.id]:=xb2
  cases hb:x.id==id
  .simp only[V0,seval,af,h,zc p.az h,Xl,TT,hb,(zt i)]
   exact xe5
  .have hf:=YI (p:=fun f=>f.id==id) hc hx hb
   have hl:=F0 x (zkc hf)
   rcases(hP x hf).2 with⟨h0,hv⟩|⟨h0,hv⟩
   .simp[V0,seval,af,h,zc p.az h,Xl,hrd,TT,hb,rep,zh,zl,zq,zB,h0,zbg]
    refine hr _ ?_
    simp only[V0,seval,af,hf,hv]
    exact⟨_,rfl,zcc (Dl.trans (dL some hv.symm))⟩
   .simp[V0,seval,af,h,zc p.az h,Xl,hrd,TT,hb,rep,zh,zl,zq,zB,AW h0 (show 0+x.via.l.length<=1073741824 by omega)]
    refine hr _ ?_
    simp only[V0,seval,af,hf,hv]
    refine⟨_,rfl,zcc ((yo (k:=1) ZH Z rfl Pt.aV ?_).trans (dL some hv.symm))⟩
    simp
 .simp[V0,seval,af,h,Xl]
  refine he _ _ ?_
  obtain rfl:=hz (Z9 hc h)
  exact xgn
theorem Il(hS:bk S)(p:Pn)(id:Int)(hv:bL p):∃ q':aR 2 Pt.c,(cQ p id=true->q'.l=dW p id)/\j0 aO S 189 [.agg p.c,iv id] (.tuple [q'.v,iv (bif cQ p id then 0 else 7)]):=by
 obtain⟨q1,hq1,N1,h1⟩:=ad6 hS p id (fun f hf=>by have:=hv f hf;omega);have O6:q1.l=(gM p id).via.l:=hq1;have hlen:q1.l.length<=100000:=by rw[O6];exact adj hv id
 let⟨N2,h2⟩:=Iv hS p (gM p id).fr;let⟨N3,h3⟩:=Iv hS p (gM p id).to;let⟨q',tM,N4,h4⟩:=xT hS (cV p (gM p id).fr).at' (cV p (gM p id).to).at' q1 Z;have c1:=fun m (hm:N1+N2+N3+N4+5<=m) d ah aJ aa i=>h1 m Z d ah aJ aa i;have c2:=fun m (hm:N1+N2+N3+N4+5<=m) d ah aJ aa i=>h2 m Z d ah aJ aa i;have c3:=fun m (hm:N1+N2+N3+N4+5<=m) d ah aJ aa i=>h3 m Z d ah aJ aa i;have c4:=fun m (hm:N1+N2+N3+N4+5<=m) d ah aJ aa i=>h4 m Z d ah aJ aa i;have e1:(p.az.l.find? fun f=>f.id==id)=mX p id:=rfl;have e2:((mX p id).getD Bl)=gM p id:=rfl;have e3:∀ k:Int,(p.ns.l.find? fun f=>f.id==k)=cT p k:=fun k=>rfl;have e4:∀ k:Int,((cT p k).getD VC)=cV p k:=fun k=>rfl;simp[e1,e2,e3,e4,zf,Pn.c,Ac.c,Nd.c]at c1 c2 c3 c4;cases b1:(mX p id).isSome
 .refine⟨kU _ _,by simp[cQ,b1],?_⟩;refine yu (i:=i189) (hS _ _ M M M M) rfl rfl (ZI _ _) (N1+N2+N3+N4+5) Z fun m hm d ah=>?_;simp only[i189,W0,seval,Pn.c,c1 m hm,c2 m hm,c3 m hm,cQ,b1,dZ,bT];rfl
 .cases b2:(cT p (gM p id).fr).isSome
  .refine⟨kU _ _,by simp[cQ,b2],?_⟩;refine yu (i:=i189) (hS _ _ M M M M) rfl rfl (ZI _ _) (N1+N2+N3+N4+5) Z fun m hm d ah=>?_;simp only[i189,W0,seval,Pn.c,c1 m hm,c2 m hm,c3 m hm,cQ,b1,b2,dZ,nr,bT];rfl
  .cases b3:(cT p (gM p id).to).isSome
   .refine⟨kU _ _,by simp[cQ,b3],?_⟩;refine yu (i:=i189) (hS _ _ M M M M) rfl rfl (ZI _ _) (N1+N2+N3+N4+5) Z fun m hm d ah=>?_;simp[b1]at c1;simp[b2]at c2;simp[b3]at c3;simp only[i189,W0,seval,Pn.c,c1 m hm,c2 m hm,c3 m hm,cQ,b1,b2,b3,nr,bT];rfl
   .refine⟨q',fun _=>by rw[tM,O6];rfl,?_⟩;refine yu (i:=i189) (hS _ _ M M M M) rfl rfl (ZI _ _) (N1+N2+N3+N4+5) Z fun m hm d ah=>?_;simp[b1]at c1;simp[b2]at c2;simp[b3]at c3;simp[i189,W0,seval,Pn.c,rep,c1 m hm,c2 m hm,c3 m hm,c4 m hm,cQ,b1,b2,b3,bV]
theorem OH(hS:bk S)(p:Pn)(a:Ac)(hv:a.via.l.length<=100000):∃ q':aR 2 Pt.c,q'.l=(cV p a.fr).at'::(a.via.l++[(cV p a.to).at']) /\
  j0 aO S 135 [.agg p.c,.agg a.c] (.tuple [q'.v,.bool ((cT p a.fr).isSome&&(cT p a.to).isSome)]):=by
 let⟨N2,h2⟩:=wR hS p a.fr
 let⟨N3,h3⟩:=wR hS p a.to
 have hlen:((cV p a.fr).at'::(a.via.l++[(cV p a.to).at'])).length=1+a.via.l.length+1:=by grind
 refine⟨gB Pt.aV _ (1+a.via.l.length+1) false hlen Z,rfl,?_⟩
 refine ze7 (i:=i135) (hS _ _ M M M M) rfl rfl (N2+N3+5) fun m hm d ah=>?_
 have c2:=h2 m Z
 have c3:=h3 m Z
 have e3:∀ k:Int,(p.ns.l.find? fun f=>f.id==k)=cT p k:=fun k=>rfl
 have e4:∀ k:Int,((cT p k).getD VC)=cV p k:=fun k=>rfl
 simp[e3,e4,zf,Pn.c,Nd.c]at c2 c3
 have af:∀(aa:aS)(i:Nat)(b:Bool),aa[i]?=some (.cells (((cV p a.fr).at'::(a.via.l++[(cV p a.to).at'])).flatMap Pt.c))->freeze m d aa (.tuple [.slM d i 0 (1+a.via.l.length+1) (1+a.via.l.length+1) 2 false,.bool b])=some (.tuple [(gB Pt.aV _ (1+a.via.l.length+1) false hlen Z).v,.bool b]):=fun aa i b ho=>by obtain⟨k,rfl⟩:∃ k,m=k+1+1+1:=⟨m-3,Z⟩;exact zbh (yw (yo (k:=1) ZH Z hlen Pt.aV ho) (yw rfl zcb))
 by_cases h0:a.via.l.length=0
 .have e:1+a.via.l.length+1=2:=Z
  have ac4:∀(aa:aS)(i:Nat)(b:Bool),aa[i]?=some (.cells (((cV p a.fr).at'::(a.via.l++[(cV p a.to).at'])).flatMap Pt.c))->freeze m d aa (.tuple [.slM d i 0 2 2 2 false,.bool b])=some (.tuple [(gB Pt.aV _ (1+a.via.l.length+1) false hlen Z).v,.bool b]):=fun aa i b ho=>by grind
  cases b1:(cT p a.fr).isSome<;>cases b2:(cT p a.to).isSome
  all_goals
   simp[b1]at c2
   simp[b2]at c3
   simp[i135,W0,seval,Pn.c,Ac.c,rep,c2,c3,zh,zl,zq,zB,Y6,Mr h0,(fun n0 slot lk aa=>AV (d:=d) (n0:=n0) (sz:=2) (len:=1) (slot:=slot) (n:=1) Z (lk:=lk) (aa:=aa) (cs:=[.int .i64 (cV p a.fr).at'.x,.int .i64 (cV p a.fr).at'.y]) (new:=[.int .i64 (cV p a.to).at'.x,.int .i64 (cV p a.to).at'.y]) Z rfl)]
   refine⟨rfl,?_⟩
   simp only[W0,seval]
   refine⟨_,rfl,?_⟩
   exact ac4 _ _ _ (by simp[(uc.1 h0),Pt.c,zf])
 .have a2:=fun o0 o1 o2 o3 o4 o5 J slot aa=>zQ (d:=d) (n0:=6) (sz:=2) (len:=1+a.via.l.length) (slot:=slot) (n:=1) (i:=6) Z (lk:=look d ah (bI [0] 6 (o0::o1::o2::o3::o4::o5::.cells (.int .i64 (cV p a.fr).at'.x::.int .i64 (cV p a.fr).at'.y::a.via.l.flatMap Pt.c)::J))) (aa:=aa) (c:=.int .i64 (cV p a.fr).at'.x::.int .i64 (cV p a.fr).at'.y::a.via.l.flatMap Pt.c)
   (new:=[.int .i64 (cV p a.to).at'.x,.int .i64 (cV p a.to).at'.y]) Z (by rw[fB,fB,zj Pt.aV];omega) rfl (by simp[look,zu])
  cases b1:(cT p a.fr).isSome<;>cases b2:(cT p a.to).isSome
  all_goals
   simp[b1]at c2
   simp[b2]at c3
   simp[i135,W0,seval,Pn.c,Ac.c,rep,c2,c3,zh,zl,zq,zB,Y6,(fun n0 slot lk aa=>AV (d:=d) (n0:=n0) (sz:=2) (len:=1) (slot:=slot) (n:=a.via.l.length) h0 (lk:=lk) (aa:=aa) (cs:=[.int .i64 (cV p a.fr).at'.x,.int .i64 (cV p a.fr).at'.y]) (new:=a.via.l.flatMap Pt.c) Z rfl),a2,iG]
   refine⟨rfl,?_⟩
   simp only[W0,seval]
   refine⟨_,rfl,?_⟩
   exact af _ _ _ (by simp[Pt.c,zf])
theorem Fk(hS:bk S)(p:Pn)(id:Int)(hv:bL p):∃ q':aR 2 Pt.c,(cQ p id=true->q'.l=dW p id)/\j0 aO S 209 [.agg p.c,iv id] (.tuple [q'.v,iv (bif cQ p id then 0 else 7)]):=by
 obtain⟨q1,hq1,N1,h1⟩:=H6 hS p id (fun f hf=>by have:=hv f hf;omega);have O6:=hq1;obtain⟨q',tM,N4,h4⟩:=OH hS p { gM p id with via:=q1 } (by rw[O6];exact adj hv id);have c1:=fun m (hm:N1+N4+5<=m) d ah aJ aa i=>h1 m Z d ah aJ aa i;have c4:=fun m (hm:N1+N4+5<=m) d ah aJ aa i=>h4 m Z d ah aJ aa i;have e1:(p.az.l.find? fun f=>f.id==id)=mX p id:=rfl;have e2:((mX p id).getD Bl)=gM p id:=rfl;simp[e1,e2,zf,Pn.c,Ac.c]at c1 c4;cases b1:(mX p id).isSome
 .refine⟨kU _ _,by simp[cQ,b1],?_⟩;refine yu (hS _ _ M M M M) rfl rfl (ZI _ _) (N1+N4+5) Z fun m hm d ah=>?_;simp only[i209,W0,seval,Pn.c,c1 m hm,cQ,b1,dZ,bT];rfl
 .cases b2:(cT p (gM p id).fr).isSome&&(cT p (gM p id).to).isSome
  .refine⟨kU _ _,by simp[cQ,b2],?_⟩;refine yu (hS _ _ M M M M) rfl rfl (ZI _ _) (N1+N4+5) Z fun m hm d ah=>?_;simp only[i209,W0,seval,Pn.c,c1 m hm,c4 m hm,cQ,b1,b2,nr,bT];rfl
  .refine⟨q',fun _=>by rw[tM,O6];rfl,?_⟩;refine yu (hS _ _ M M M M) rfl rfl (ZI _ _) (N1+N4+5) Z fun m hm d ah=>?_;simp[i209,W0,seval,Pn.c,c1 m hm,c4 m hm,cQ,b1,b2,bV]
def aM(S:bX)(N:Nat)(f:FuncId)(args:List IV)(v:IV):Prop:=∀ m,N<=m->∀ d ah aJ aa id,aL aO S m d ah aJ aa id f args=some (.r,v,aa)
def Zm(a b:IV):rep [a,b] 3=[a,b,a,b,a,b]:=aI
def YK(a b:IV):rep [a,b] 4=[a,b,a,b,a,b,a,b]:=aI
def bg(p:Pt):Bool:=!(decide (p.x < -2097152)||decide (2097152<p.x)||decide (p.y < -2097152)||decide (2097152<p.y))
noncomputable def Kh(a b c:Pt):Int:=aT .i64 (aT .i64 (aT .i64 (b.x-a.x)*aT .i64 (c.y-a.y))-aT .i64 (aT .i64 (b.y-a.y)*aT .i64 (c.x-a.x)))
theorem zfe(hS:bk S)(a b c:Pt):aM S 2 269 [.agg a.c,.agg b.c,.agg c.c] (.int .i64 (Kh a b c)):=by refine zg (i:=i269) (hS _ _ M M M M) rfl rfl (bP rfl) 1 Z zp fun m hm d ah t af=>?_;simp[V2,Xb,i269,Pt.c]at af;simp[i269,V0,seval,af,Kh]
theorem Mf(hS:bk S)(a b:Pt):aM S 2 312 [.agg a.c,.agg b.c] (.bool (decide (a.x<b.x)||(a.x==b.x&&decide (a.y<b.y)))):=by
 refine zg (i:=i312) (hS _ _ M M M M) rfl rfl (bP rfl) 1 Z zk fun m hm d ah t af=>?_;simp[V2,i312,Pt.c]at af;cases h1:decide (a.x<b.x)
 .cases h2:a.x==b.x
  .simp only[i312,V0,seval,af,h1,h2,jg,dZ]
  .simp only[i312,V0,seval,af,h1,h2,jg]
 .simp only[i312,V0,seval,af,h1,k9]
theorem QX(hS:bk S)(a b:Pt):aM S 2 268 [.agg a.c,.agg b.c] (.bool (decide (b.y<a.y)||(b.y==a.y&&decide (b.x<a.x)))):=by
 refine zg (i:=i268) (hS _ _ M M M M) rfl rfl (bP rfl) 1 Z zk fun m hm d ah t af=>?_;simp[V2,i268,Pt.c]at af;cases h1:decide (b.y<a.y)
 .cases h2:b.y==a.y
  .simp only[i268,V0,seval,af,h1,h2,jg,dZ]
  .simp only[i268,V0,seval,af,h1,h2,jg]
 .simp only[i268,V0,seval,af,h1,k9]
theorem zdw(hS:bk S)(l:List Pt)(hl:l.length<=1000):aM S (l.length+4) 267 [.slC (l.flatMap Pt.c) l.length 2 true] (.bool (l.all bg)):=by
 refine PA i267 hS (l.length+3) zk fun m hm d ah t af=>?_;simp only[slotsOf,za,zb,i267]at af;have hE:∀ x:Pt,x.c=[.int .i64 x.x,.int .i64 x.y]:=fun x=>rfl;simp only[i267,V0,seval,af];refine zm l.length (fun i st=>∃(O:aS),(l.take i).all bg=true/\st.aa=O/\aN 30 st.t [(5,.slC (l.flatMap Pt.c) l.length 2 true),(6,iv (l.length:Nat)),(7,iv i)]) Z ⟨[],M,rfl,by simp only[V0,seval,af,cZ]⟩ ?_;rintro i ⟨t,aa⟩ KA hi ⟨O,ha,rfl,af⟩ bp bK bQ;simp only[V3]at af;by_cases h:i<l.length
 .have hx:l[i]?=some l[i]:=dw h;have hmem:l[i]∈l:=gQ h;generalize l[i]=x at hx hmem;have hrd:bB (l.flatMap Pt.c) (i*2) 2=some [.int .i64 x.x,.int .i64 x.y]:=(zd (sz:=2) (fun _=>rfl) 0 2 hx Z).trans rfl;have hw:=zt i;have fin:bg x=false->l.all bg=false:=fun hf=>by rw[zmk];exact⟨x,hmem,by rw[hf];decide⟩
  cases h1:decide (x.x < -2097152)
  .exact xaf
  .simp only[V0,seval,af,h,zC,hrd,h1];exact xf4
 .exact xb7
noncomputable def Xw(a b c:Pt):Int:=bif [a,b,c].all bg then Kh a b c else 0
theorem Ma(hS:bk S)(a b c:Pt):aM S 8 293 [.agg a.c,.agg b.c,.agg c.c] (.int .i64 (Xw a b c)):=by
 refine zg (i:=i293) (hS _ _ M M M M) rfl rfl (bP rfl) (7) Z zp fun m hm d ah t af=>?_;simp[V2,Xb,i293,Pt.c]at af;have c0:=fun d ah aJ aa i=>zdw hS [a,b,c] M m Z d ah aJ aa i;simp only[eT,jm,Pt.c,gu,fP,zf,fB,gq,eB,Xb]at c0;have c1:=zfe hS a b c m Z;simp[Pt.c,zf]at c1;unfold Xw;cases hb:[a,b,c].all bg
 .simp[hb]at c0;simp[i293,V0,seval,af,Zm,c0,bT]
 .simp[hb]at c0;simp[i293,V0,seval,af,Zm,c0,c1,bV]
noncomputable def eO(a b c:Pt):Int:=bif decide (0<Xw a b c)then 1 else bif decide (Xw a b c<0)then -1 else 0
theorem AJ(hS:bk S)(a b c:Pt):aM S 10 273 [.agg a.c,.agg b.c,.agg c.c] (.int .i64 (eO a b c)):=by
 refine zg (i:=i273) (hS _ _ M M M M) rfl rfl (bP rfl) (9) Z zp fun m hm d ah t af=>?_;simp[V2,Xb,i273,Pt.c]at af;have c1:=Ma hS a b c m Z;simp[Pt.c,zf]at c1;unfold eO;generalize Xw a b c=w at c1;cases h1:decide (0<w)
 .cases h2:decide (w<0)
  .simp[i273,V0,seval,af,c1,ez,h1,h2,bT]
  .simp[i273,V0,seval,af,c1,ez,h1,h2,bT,bV]
 .simp[i273,V0,seval,af,c1,ez,h1,bV]
def qK(a b:Int):Int:=if b<a then b else a
def rz(a b:Int):Int:=if a<b then b else a
noncomputable def mz(a b p:Pt):Bool:=([a,b,p].all bg&&Kh a b p==0)&&(decide (qK a.x b.x<=p.x)&&(decide (p.x<=rz a.x b.x)&&(decide (qK a.y b.y<=p.y)&&decide (p.y<=rz a.y b.y))))
theorem JD(hS:bk S)(a b p:Pt):aM S 8 263 [.agg a.c,.agg b.c,.agg p.c] (.bool (mz a b p)):=by
 refine zg (i:=i263) (hS _ _ M M M M) rfl rfl (bP rfl) (7) Z zk fun m hm d ah t af=>?_;simp[V2,Xb,i263,Pt.c]at af;have c0:=fun d ah aJ aa i=>zdw hS [a,b,p] M m Z d ah aJ aa i;simp only[eT,jm,Pt.c,gu,fP,zf,fB,gq,eB,Xb]at c0;have c1:=zfe hS a b p m Z;simp[Pt.c,zf]at c1;unfold mz;have hmn:∀ a b:Int,(if b<a then b else a)=qK a b:=fun _ _=>rfl
 have hmx:∀ a b:Int,(if a<b then b else a)=rz a b:=fun _ _=>rfl
 cases hb:[a,b,p].all bg
 .simp[hb]at c0;simp only[i263,V0,seval,af,Zm,c0,dZ]
 .simp[hb]at c0;have iS:∀ z:Int,(z != 0)=!(z==0):=fun z=>rfl;cases h0:Kh a b p==0
  .simp only[i263,V0,seval,Zm,nr,dZ, *]
  .cases h1:decide (qK a.x b.x<=p.x)
   .simp only[i263,V0,seval,Zm,nr,dZ, *]
   .cases h2:decide (p.x<=rz a.x b.x)
    .simp only[i263,V0,seval,Zm,ez,nr,dZ, *]
    .cases h3:decide (qK a.y b.y<=p.y)
     .simp only[i263,V0,seval,Zm,ez,nr,dZ, *]
     .simp only[i263,V0,seval,Zm,ez, *]
def zR(a b c d:Int):eR [1,1] [.int .i64 a,.int .i64 b] [.int .i64 c,.int .i64 d]=some ((a==c)&&(b==d)):=xc7
def dR(a b:Pt):Bool:=(a.x==b.x)&&(a.y==b.y)
def jk(a b:Pt):Bool:=decide (a.x<b.x)||(a.x==b.x&&decide (a.y<b.y))
def VX(a b:Pt):Bool:=decide (b.y<a.y)||(b.y==a.y&&decide (b.x<a.x))
def jC(a b:Pt):Pt×Pt:=bif jk b a then(b,a)else(a,b)
def dc(a b c d:Pt):Int :=
 let f:=bif jk (jC a b).1 (jC c d).1 then(jC c d).1 else(jC a b).1
 let l:=bif jk (jC c d).2 (jC a b).2 then(jC c d).2 else(jC a b).2
 bif dR f l then 1 else bif jk f l then 2 else 0
theorem Mc(hS:bk S)(a b c d:Pt):aM S 4 305 [.agg a.c,.agg b.c,.agg c.c,.agg d.c] (.int .i64 (dc a b c d)):=by
 refine zg (i:=i305) (hS _ _ M M M M) rfl rfl (bP rfl) (3) Z zp fun m hm dd ah t af=>?_;simp[V2,Xb,i305,Pt.c]at af;have cb:∀(u v:Pt) dd ah aJ aa i,aL aO S m dd ah aJ aa i 312 [.agg [.int .i64 u.x,.int .i64 u.y],.agg [.int .i64 v.x,.int .i64 v.y]]=some (.r,.bool (jk u v),aa):=fun u v dd ah aJ aa i=>Mf hS u v m Z dd ah aJ aa i;unfold dc;let⟨p1,p2,hp,hs1⟩:∃ p1 p2:Pt,jC a b=(p1,p2)/\True:=⟨_,_,rfl,trivial⟩;let⟨q1,q2,hq,hs2⟩:∃ q1 q2:Pt,jC c d=(q1,q2)/\True:=⟨_,_,rfl,trivial⟩;simp[hp,hq];have fin:∀(K:eU)(t:List IV),aN 39 t [(4,.ptrM dd 0 0),(5,.ptrM dd 1 0),(6,.ptrM dd 2 0),(7,.ptrM dd 3 0)] ->
   (∀ t' O',aN 39 t' [(8,.int .i64 (let f:=bif jk p1 q1 then q1 else p1;let l:=bif jk q2 p2 then q2 else p2;bif dR f l then 1 else bif jk f l then 2 else 0))]->K .ret ⟨t',O'⟩) ->
   Ex (aL aO S m) dd ah m (i305.body.sub [1,1,1]) K ⟨t,.cells [.int .i64 p1.x,.int .i64 p1.y]::.cells [.int .i64 p2.x,.int .i64 p2.y]::.cells [.int .i64 q1.x,.int .i64 q1.y]::.cells [.int .i64 q2.x,.int .i64 q2.y]::[.free,.free]⟩:=by
  intro K t af hK
  simp[za,zb]at af
  simp[i305,IC.sub,V0,seval,af]
  refine⟨by simp[comm],?_⟩
  cases h1:jk p1 q1<;>cases h2:jk q2 p2
  .cases h3:dR p1 p2
   .cases h4:jk p1 p2
    .have h3':=h3
     unfold dR at h3'
     simp only[V0,seval,zR,j4, *]
     exact hK _ _ (by simp[V0,seval,bT, *])
    .exact xaa
   .exact xax
  .cases h3:dR p1 q2
   .cases h4:jk p1 q2
    .exact xaa
    .exact xaa
   .exact xax
  .cases h3:dR q1 p2
   .cases h4:jk q1 p2
    .exact xaa
    .exact xaa
   .exact xax
  .cases h3:dR q1 q2
   .cases h4:jk q1 q2
    .exact xaa
    .exact xaa
   .have h3':=h3
    unfold dR at h3'
    simp only[V0,seval,zR,j4, *]
    exact hK _ _ (by simp[V0,seval,af,h1,h2,h3,bV])
 have hsw:∀ u v:Pt,jC u v=bif jk v u then(v,u)else(u,v):=fun _ _=>rfl
 rw[show i305.body=.seq (i305.body.sub [0]) (.seq (i305.body.sub [1,0]) (.seq (i305.body.sub [1,1,0]) (i305.body.sub [1,1,1])))from rfl];generalize hB:i305.body.sub [1,1,1]=B at fin ⊢;rw[hsw]at hp hq;cases h1:jk b a<;>cases h2:jk d c
 .rw[h1]at hp;rw[h2]at hq;simp[bT,vT]at hp hq;exact xah
 .exact xge
 .exact xge
 .rw[h1]at hp;rw[h2]at hq;simp[bV,vT]at hp hq;exact xah
noncomputable def uQ(a b c d:Pt):Int:=bif [a,b,c,d].all bg then (bif dR a b then (bif mz c d a then 1 else 0) else bif dR c d then (bif mz a b c then 1 else 0) else
 bif eO a b c==0&&eO a b d==0 then dc a b c d else
 bif decide (aT .i64 (eO a b c*eO a b d)<=0)&&decide (aT .i64 (eO c d a*eO c d b)<=0) then 1 else 0) else 0
theorem US(hS:bk S)(a b c d:Pt):aM S 14 284 [.agg a.c,.agg b.c,.agg c.c,.agg d.c] (.int .i64 (uQ a b c d)):=by
 refine zg (i:=i284) (hS _ _ M M M M) rfl rfl (bP rfl) (13) Z zp fun m hm dd ah t af=>?_;simp[V2,Xb,i284,Pt.c]at af;have c0:=fun dd ah aJ aa i=>zdw hS [a,b,c,d] M m (by grind) dd ah aJ aa i;simp only[eT,jm,Pt.c,gu,fP,zf,fB,gq,eB,Xb]at c0;have cs:∀(u v w:Pt) dd ah aJ aa i,aL aO S m dd ah aJ aa i 273 [.agg [.int .i64 u.x,.int .i64 u.y],.agg [.int .i64 v.x,.int .i64 v.y],.agg [.int .i64 w.x,.int .i64 w.y]]=some (.r,.int .i64 (eO u v w),aa):=fun u v w dd ah aJ aa i=>AJ hS u v w m Z dd ah aJ aa i;have co:∀(u v w:Pt) dd ah aJ aa i,aL aO S m dd ah aJ aa i 263 [.agg [.int .i64 u.x,.int .i64 u.y],.agg [.int .i64 v.x,.int .i64 v.y],.agg [.int .i64 w.x,.int .i64 w.y]]=some (.r,.bool (mz u v w),aa):=fun u v w dd ah aJ aa i=>JD hS u v w m Z dd ah aJ aa i;have ch:=fun dd ah aJ aa i=>Mc hS a b c d m Z dd ah aJ aa i;simp[Pt.c,zf]at ch;unfold uQ;cases hb:[a,b,c,d].all bg
 .simp[hb]at c0;simp[i284,V0,seval,af,YK,c0,bT]
 .simp[hb]at c0;cases h1:dR a b
  .have h1':(a.x==b.x&&a.y==b.y)=false:=h1;cases h2:dR c d
   .have h2':(c.x==d.x&&c.y==d.y)=false:=h2;cases h3:eO a b c==0
    .cases h5:decide (aT .i64 (eO a b c*eO a b d)<=0)
     .exact xd9
     .cases h6:decide (aT .i64 (eO c d a*eO c d b)<=0)
      .exact xd9
      .exact xd9
    .cases h4:eO a b d==0
     .cases h5:decide (aT .i64 (eO a b c*eO a b d)<=0)
      .simp only[i284,V0,seval,YK,zR,j4,bT,bV,dZ,nr, *]
      .cases h6:decide (aT .i64 (eO c d a*eO c d b)<=0)
       .simp only[i284,V0,seval,YK,zR,j4,bT,bV,nr, *]
       .simp only[i284,V0,seval,YK,zR,j4,bT,bV,nr, *]
     .simp only[i284,V0,seval,YK,zR,j4,bT,bV, *]
   .have h2':(c.x==d.x&&c.y==d.y)=true:=h2;cases h3:mz a b c
    .exact xfi
    .exact xfi
  .have h1':(a.x==b.x&&a.y==b.y)=true:=h1;cases h3:mz c d a
   .exact xfi
   .simp[i284,V0,seval,YK,zR,j4,bV, *]
noncomputable def pV(o a b:Pt):Bool:=([o,a,b].all bg&&!dR a o&&!dR b o)&&(bif (VX o a != VX o b)then VX o b else decide (0<Kh o a b))
theorem UT(hS:bk S)(o a b:Pt):aM S 8 233 [.agg o.c,.agg a.c,.agg b.c] (.bool (pV o a b)):=by
 refine zg (i:=i233) (hS _ _ M M M M) rfl rfl (bP rfl) (7) Z zk fun m hm d ah t af=>?_;simp[V2,Xb,i233,Pt.c]at af;have c0:=fun d ah aJ aa i=>zdw hS [o,a,b] M m Z d ah aJ aa i;simp only[eT,jm,Pt.c,gu,fP,zf,fB,gq,eB,Xb]at c0;have cl:∀(u v:Pt) d ah aJ aa i,aL aO S m d ah aJ aa i 268 [.agg [.int .i64 u.x,.int .i64 u.y],.agg [.int .i64 v.x,.int .i64 v.y]]=some (.r,.bool (VX u v),aa):=fun u v d ah aJ aa i=>QX hS u v m Z d ah aJ aa i;have ct:=zfe hS o a b m Z;simp[Pt.c,zf]at ct;unfold pV;cases hb:[o,a,b].all bg
 .simp[hb]at c0;simp only[i233,V0,seval,af,Zm,c0,dZ]
 .simp[hb]at c0;cases h1:dR a o
  .have h1':(a.x==o.x&&a.y==o.y)=false:=h1;cases h2:dR b o
   .have h2':(b.x==o.x&&b.y==o.y)=false:=h2;have q1:(true != (false==false))=false:=rfl;have q2:(true != (false==true))=true:=rfl;have q3:(true != (true==false))=true:=rfl;have q4:(true != (true==true))=false:=rfl;have r1:(false != false)=false:=rfl;have r2:(false != true)=true:=rfl;have r3:(true != false)=true:=rfl;have r4:(true != true)=false:=rfl;cases h3:VX o a<;>cases h4:VX o b
    .simp only[i233,V0,seval,Zm,zR,j4,Gd,jy,ct,ez,bT, *]
    .simp only[i233,V0,seval,Zm,zR,j4,Gd,jy,bV, *]
    .simp only[i233,V0,seval,Zm,zR,j4,Gd,jy,bV, *]
    .simp only[i233,V0,seval,Zm,zR,j4,Gd,jy,ct,ez,bT, *]
   .have h2':(b.x==o.x&&b.y==o.y)=true:=h2;simp only[i233,V0,seval,af,Zm,c0,zR,h1',h2',j4,nr,dZ]
  .have h1':(a.x==o.x&&a.y==o.y)=true:=h1;simp only[i233,V0,seval,af,Zm,c0,zR,h1',j4,nr,dZ]
def dz:List Int->Bool
 |a::b::t=>decide (a<b)&&dz (b::t)
 |_=>true
def qc(l:List Int)(k:Nat):Prop:=∀ i x y,i+1<k->l[i]?=some x->l[i+1]?=some y->x<y
theorem yC:∀{l:List Int},dz l=true↔qc l l.length
 |[]=>by simp[dz,qc]
 |[a]=>by simp[dz,qc]
 |a::b::t=>by
  simp only[dz,kE,pM,(yC (l:=b::t))];constructor
  .rintro⟨h1,h2⟩ i x y hi hx hy;cases i with
   |zero =>
    grind
   |succ i =>
    exact h2 i x y (by grind) hx hy
  .intro h;refine⟨h 0 a b M rfl rfl,fun i x y hi hx hy=>h (i+1) x y (by grind) ?_ ?_⟩
   .grind
   grind
def fIdx(q:H->Bool)(l:List H):Int:=match l.findIdx? q with
 |some i=>(i:Int)
 |none=>-1
variable {q:H->Bool}
theorem zdx{x:H}(hx:l[i]?=some x)(hq:q x=true)(ha:(l.take i).findIdx? q=none):fIdx q l=(i:Int):=by
 have h:l.findIdx? q=some i:=by
  rw[EW];obtain⟨h1,rfl⟩:=ew.1 hx;refine⟨h1,hq,fun j hj=>?_⟩;have hm:=zkd.1 ha (l[j]'Z) (by
   rw[RO];grind)
  grind
 simp[fIdx,h]
theorem zbj:decide (0<=fIdx q l)=l.any q:=by unfold fIdx;grind
theorem GP(hS:bk S)(l:aR 1 aK):aM S (l.l.length+4) 225 [l.v] (.bool (dz l.l)):=by
 refine zg (Cz hS) rfl rfl (bP rfl) (l.l.length+3) Z zk fun m hm d ah t af=>?_;simp only[slotsOf,za,zb,i225]at af;have hlf:=l.eZ;simp only[i225,V0,seval];refine zn (fun jj st=>∃(i:Nat)(O:aS),l.l.length-i<=jj/\(1<=i/\i<=l.l.length+1)/\qc l.l i/\st.aa=O/\aN 20 st.t [(0,l.v),(3,iv i)]) l.l.length Z ⟨1,[],Z,Z,fun i x y h _ _=>by omega,rfl,by simp only[V0,seval,af,Sh]⟩ ?_;rintro jj ⟨t,aa⟩ KA ⟨i,O,hjj,hi,ha,ho,af⟩ bp bK bQ;simp only[V3]at af;by_cases h:i<l.l.length
 .obtain⟨x,hx⟩:=fc (l:=l.l) (i:=i) h;have h0:i-1<l.l.length:=Z;obtain⟨y,hy⟩:=fc (l:=l.l) (i:=i-1) h0;have gE:bB (l.l.flatMap aK) (i*1) 1=some [.int .i64 x]:=zd ze 0 1 hx Z;have r7:bB (l.l.flatMap aK) ((i-1)*1) 1=some [.int .i64 y]:=zd ze 0 1 hy Z;have hw:=zt i;have hv:aT .i64 ((i:Int)-1)=((i-1:Nat):Int):=oS;by_cases hb:x<=y
  .simp only[V0,seval,zc l h,zc l h0,l7,hb, *];refine bQ _ ?_;have hf:dz l.l=false:=by rw[←tZ];intro hc;have:=yC.1 hc (i-1) y x Z hy (by grind);omega
   exact xev
  .simp only[V0,seval,zc l h,zc l h0,l7,hb, *];refine bp _ (l.l.length-(i+1)) Z ⟨i+1,_,Z,Z,?_,rfl,bS⟩;intro j u v hj hu hv;by_cases hj2:j+1<i
   .exact ha j u v hj2 hu hv
   .grind
 .simp only[V0,seval,af,h];refine bK _ _ ?_;have hf:=yC.2 fun j u v hj hu hv=>ha j u v Z hu hv;exact xev
theorem UW(hS:bk S)(l:aR 1 aK){α':Type}(q:Int->Bool)(gf:FuncId)(caps:List IV)(Nc:Nat)(hc:∀ m,Nc<=m->∀ d ah aJ aa id (x:Int),aL aO S m d ah aJ aa id gf (iv x::caps)=some (.r,.bool (q x),aa)) :
  aM S (Nc+l.l.length+4) 160 [l.v,.fn gf [] caps] (.int .i64 (fIdx q l.l)):=by
 refine zg (Cz hS) rfl rfl (bP rfl) (Nc+l.l.length+3) Z zp fun m hm d ah t af=>?_
 simp only[V2,i160]at af
 simp only[i160,V0,seval,af]
 have hlf:=l.eZ
 refine zm l.l.length (fun i st=>∃(O:aS),(l.l.take i).findIdx? q=none/\st.aa=O/\aN 19 st.t [(0,l.v),(1,.fn gf [] caps),(7,iv (l.l.length:Nat)),(8,iv i)]) Z ⟨[],M,rfl,by simp only[V0,seval,af,cZ]⟩ ?_
 rintro i ⟨t,aa⟩ KA hi ⟨O,ha,ho,af⟩ bp bK bQ
 simp only[V3]at af
 by_cases h:i<l.l.length
 .have hx:=dw h
  generalize l.l[i]=x at hx
  have hrd:bB (l.l.flatMap aK) (i*1) 1=some [.int .i64 x]:=xbu
  have hw:=zt i
  have cc:=fun d ah aJ aa id=>hc m Z d ah aJ aa id x
  simp only[zf]at cc
  exact xa6
 .exact xat
theorem U0(hS:bk S)(l:aR 1 aK)(q:Int->Bool)(gf:FuncId)(caps:List IV)(Nc:Nat)(hc:∀ m,Nc<=m->∀ d ah aJ aa id (x:Int),aL aO S m d ah aJ aa id gf (iv x::caps)=some (.r,.bool (q x),aa)) :
  aM S (Nc+l.l.length+6) 114 [l.v,.fn gf [] caps] (.bool (l.l.any q)):=by
 refine zg (hS _ _ M M M M) rfl rfl (bP rfl) (Nc+l.l.length+5) Z zk fun m hm d ah t af=>?_
 simp[V2,i114]at af
 simp[i114,V0,seval,af,(fun d ah aJ aa id=>UW hS l (α':=Unit) q gf caps Nc hc m Z d ah aJ aa id),l7,zbj]
theorem UU(hS:bk S)(l:aR 2 Pt.c){α':Type}(q:Pt->Bool)(gf:FuncId)(caps:List IV)(Nc:Nat)(hc:∀ m,Nc<=m->∀ d ah aJ aa id (x:Pt),aL aO S m d ah aJ aa id gf (.agg x.c::caps)=some (.r,.bool (q x),aa)) :
  aM S (Nc+l.l.length+4) 282 [l.v,.fn gf [] caps] (.int .i64 (fIdx q l.l)):=by
 refine zg (Cz hS) rfl rfl (bP rfl) (Nc+l.l.length+3) Z zp fun m hm d ah t af=>?_
 simp only[V2,i282]at af
 simp only[i282,V0,seval,af]
 have hlf:=l.eZ
 refine zm l.l.length (fun i st=>∃(O:aS),(l.l.take i).findIdx? q=none/\st.aa=O/\aN 19 st.t [(0,l.v),(1,.fn gf [] caps),(7,iv (l.l.length:Nat)),(8,iv i)]) Z ⟨[],M,rfl,by simp only[V0,seval,af,cZ]⟩ ?_
 rintro i ⟨t,aa⟩ KA hi ⟨O,ha,ho,af⟩ bp bK bQ
 simp only[V3]at af
 by_cases h:i<l.l.length
 .have hx:=dw h
  generalize l.l[i]=x at hx
  have hrd:bB (l.l.flatMap Pt.c) (i*2) 2=some [.int .i64 x.x,.int .i64 x.y]:=(zd (sz:=2) (fun _=>rfl) 0 2 hx Z).trans rfl
  have hw:=zt i
  have cc:=fun d ah aJ aa id=>hc m Z d ah aJ aa id x
  simp only[zf,Pt.c]at cc
  exact xa6
 .exact xat
theorem UZ(hS:bk S)(l:aR 2 Pt.c)(q:Pt->Bool)(gf:FuncId)(caps:List IV)(Nc:Nat)(hc:∀ m,Nc<=m->∀ d ah aJ aa id (x:Pt),aL aO S m d ah aJ aa id gf (.agg x.c::caps)=some (.r,.bool (q x),aa)) :
  aM S (Nc+l.l.length+6) 254 [l.v,.fn gf [] caps] (.bool (l.l.any q)):=by
 refine zg (hS _ _ M M M M) rfl rfl (bP rfl) (Nc+l.l.length+5) Z zk fun m hm d ah t af=>?_
 simp[V2,i254]at af
 simp[i254,V0,seval,af,(fun d ah aJ aa id=>UU hS l (α':=Unit) q gf caps Nc hc m Z d ah aJ aa id),l7,zbj]
def iO(n:Int):Bool:=decide (n<1)||decide (1073741824<n)
theorem UQ(hS:bk S)(x:Int):aM S 2 252 [iv x] (.bool (iO x)):=by
 refine zg (hS _ _ M M M M) rfl rfl (bP rfl) (1) Z zk fun m hm d ah t af=>?_;simp[slotsOf,za,zb,i252]at af;unfold iO;cases h1:decide (x<1)
 .simp only[i252,V0,seval,af,ez,h1,jg]
 .simp only[i252,V0,seval,af,h1,k9]
theorem GO(hS:bk S)(l:aR 1 aK):aM S (l.l.length+10) 226 [l.v] (.bool (!(l.l.any iO))):=by refine zg (hS _ _ M M M M) rfl rfl (bP rfl) (l.l.length+9) Z zk fun m hm d ah t af=>?_;simp[slotsOf,za,zb,i226]at af;simp[i226,V0,seval,af,(fun d ah aJ aa id=>U0 hS l iO 252 [] 2 (fun m hm d ah aJ aa id x=>UQ hS x m hm d ah aJ aa id) m Z d ah aJ aa id)]
def gj(p:Pt):Bool:=decide (p.x < -1048576)||(decide (1048576<p.x)||(decide (p.y < -1048576)||decide (1048576<p.y)))
theorem zff(hS:bk S)(p:Pt):aM S 2 253 [.agg p.c] (.bool (gj p)):=by
 refine zg (hS _ _ M M M M) rfl rfl (bP rfl) (1) Z zk fun m hm d ah t af=>?_;simp[slotsOf,za,zb,i253,Pt.c]at af;unfold gj;cases h1:decide (p.x < -1048576)
 .cases h2:decide (1048576<p.x)
  .cases h3:decide (p.y < -1048576)
   .simp only[i253,V0,seval,af,ez,h1,h2,h3,jg]
   .simp only[i253,V0,seval,af,ez,h1,h2,h3,jg,k9]
  .simp only[i253,V0,seval,af,ez,h1,h2,jg,k9]
 .simp only[i253,V0,seval,af,h1,k9]
theorem zJ{x:H}(hx:l[i]?=some x)(ha:(l.take i).any q=false)(hq:q x=false):(l.take (i+1)).any q=false:=by rw[jh,hx,oP,Vs,ha];grind
def yl{x:H}(hx:l[i]?=some x)(hq:q x=true):l.any q=true:=Bj.2 ⟨x,og hx,hq⟩
theorem DY(hS:bk S)(l:aR 1 aK)(n:Int):aM S (l.l.length+4) 196 [l.v,iv n] (.int .i64 (fIdx (fun x=>n==x) l.l)):=by
 refine PA i196 hS (l.l.length+3) zp fun m hm d ah t af=>?_;simp only[V2,i196]at af;simp only[i196,V0,seval,af];have hlf:=l.eZ;refine zm l.l.length (fun i st=>∃(O:aS),(l.l.take i).findIdx? (fun x=>n==x)=none/\st.aa=O/\aN 19 st.t [(0,l.v),(1,iv n),(7,iv (l.l.length:Nat)),(8,iv i)]) Z ⟨[],M,rfl,by simp only[V0,seval,af,cZ]⟩ ?_;rintro i ⟨t,aa⟩ KA hi ⟨O,ha,rfl,af⟩ bp bK bQ;simp only[V3]at af;by_cases h:i<l.l.length
 .obtain⟨x,hx⟩:=fc (l:=l.l) (i:=i) h;have hrd:bB (l.l.flatMap aK) (i*1) 1=some [.int .i64 x]:=zd ze 0 1 hx Z;have hw:=zt i;cases hq:n==x
  .simp only[V0,seval,zc l h, *];refine bp Z _ ⟨_,?_,rfl,bS⟩;rw[jh,hx,oP,zlc,ha];simp[Vx,hq]
  .simp only[V0,seval,af,h,zc l h,hrd,hq];refine bQ _ ?_;simp only[V0,seval,af,zdx (q:=fun x=>n==x) hx hq ha]
 .simp only[V0,seval,af,h];refine bK _ _ ?_;have hall:fIdx (fun x=>n==x) l.l=-1:=by rw[fT Z]at ha;simp only[fIdx,ha]
  simp only[V0,seval,af,hall]
theorem YL(hS:bk S)(l:aR 1 aK)(n:Int):aM S (l.l.length+6) 162 [l.v,iv n] (.bool (l.l.any fun x=>n==x)):=by refine zg (i:=i162) (hS _ _ M M M M) rfl rfl (bP rfl) (l.l.length+5) Z zk fun m hm d ah t af=>?_;simp[V2,i162]at af;have cc:=DY hS l n m Z;simp[zf]at cc;simp[i162,V0,seval,af,cc,l7,zbj]
def iE(p:Pn):Bool:=!(p.ns.l.any fun n=>gj n.at')&&!(p.az.l.any fun a=>a.via.l.any gj)
theorem ads(hS:bk S)(l:aR 1 aK)(n:Int):j0 aO S 162 [l.v,iv n] (.bool (l.l.contains n)):=⟨_,by rw[List.contains_eq_any_beq];exact YL hS l n⟩
theorem Md(hS:bk S)(p:Pn)(V:Nat)(hV:∀ a∈p.az.l,a.via.l.length<=V):aM S (p.ns.l.length+p.az.l.length+V+20) 227 [.agg p.c] (.bool (iE p)):=by
 refine PA i227 hS (p.ns.l.length+p.az.l.length+V+19) zk fun m hm d ah t af=>?_;simp only[slotsOf,za,zb,i227,Pn.c]at af;have hnf:=p.ns.eZ;have MR:=p.az.eZ;simp only[i227,V0,seval,af];refine zn (fun jj st=>∃(i:Nat)(O:aS),p.ns.l.length-i<=jj/\i<=p.ns.l.length/\(p.ns.l.take i).any (fun n=>gj n.at')=false/\st.aa=p.o::O/\aN 32 st.t [(1,.ptrM d 0 0),(3,.fn 253 [] []),(9,p.ns.v),(10,iv (p.ns.l.length:Nat)),(11,iv i)]) p.ns.l.length Z ⟨0,[],Z,Z,M,rfl,by simp only[V0,seval,af,cZ]⟩ ?_;rintro jj ⟨t,aa⟩ KA ⟨i,O,hjj,hi,ha,rfl,af⟩ bp bK bQ;simp only[V3]at af;by_cases h:i<p.ns.l.length
 .obtain⟨x,hx⟩:=fc (l:=p.ns.l) (i:=i) h;have hrd:bB (p.ns.l.flatMap Nd.c) (i*3) 3=some [.int .i64 x.id,.int .i64 x.at'.x,.int .i64 x.at'.y]:=(zd Nd.aV 0 3 hx Z).trans rfl;have hw:=zt i;have cc:=fun d ah aJ aa id=>zff hS x.at' m Z d ah aJ aa id;simp only[zf,Pt.c]at cc;cases hq:gj x.at'
  .simp only[V0,seval,zc p.ns h, *];exact bp _ (p.ns.l.length-(i+1)) Z ⟨i+1,_,Z,Z,zJ hx ha hq,rfl,bS⟩
  .simp only[V0,seval,zc p.ns h, *];refine bQ _ ?_;have hf:iE p=false:=by unfold iE;rw[yl (q:=fun n=>gj n.at') hx hq];rfl
   exact xev
 .have h1:p.ns.l.any (fun n=>gj n.at')=false:=by rw[←fT (l:=p.ns.l) (i:=i) Z];exact ha
  simp only[V0,seval,af,h];refine bK _ _ ?_;simp only[V0,seval,af];refine zm p.az.l.length (fun i st=>∃(O:aS),(p.az.l.take i).any (fun a=>a.via.l.any gj)=false/\st.aa=p.o::O/\aN 32 st.t [(1,.ptrM d 0 0),(3,.fn 253 [] []),(21,p.az.v),(22,iv (p.az.l.length:Nat)),(23,iv i)]) Z ⟨O,M,rfl,by simp only[V0,seval,af,cZ]⟩ ?_;clear ha af;rintro i ⟨t,aa⟩ K2 hi ⟨O,ha,rfl,af⟩ bp bK bQ;simp only[V3]at af;by_cases h:i<p.az.l.length
  .have hx:p.az.l[i]?=some p.az.l[i]:=dw h;have hm0:=hV _ (gQ h);generalize p.az.l[i]=x at hx hm0;have hrd:bB (p.az.l.flatMap Ac.c) (i*6) 6=some [.int .i64 x.id,.int .i64 x.fr,.int .i64 x.to,x.via.v,.int .i64 x.l,.int .i64 x.r]:=(zd Ac.aV 0 6 hx Z).trans rfl;have hw:=zt i;have cc:=fun d ah aJ aa id=>UZ hS x.via gj 253 [] 2 (fun m hm d ah aJ aa id x=>zff hS x m hm d ah aJ aa id) m Z d ah aJ aa id;cases hq:x.via.l.any gj
   .simp only[V0,seval,zc p.az h, *];exact bp Z _ ⟨_,zJ hx ha hq,rfl,bS⟩
   .simp only[V0,seval,zc p.az h, *];refine bQ _ ?_;have hf:iE p=false:=by unfold iE;rw[yl (q:=fun a=>a.via.l.any gj) hx hq];simp
    exact xev
  .have h2:p.az.l.any (fun a=>a.via.l.any gj)=false:=by rw[←fT (l:=p.az.l) (i:=i) Z];exact ha
   simp only[V0,seval,af,h];refine bK _ _ ?_;have hf:iE p=true:=by unfold iE;rw[h1,h2];rfl
   exact xev
section
variable {y z w:aP} {O R Q:aS}
theorem Ij:(O++y::(R++z::Q))[O.length+(R.length+1)]?=some z:=by simp
theorem Ii:(O++y::(R++z::Q)).set (O.length+(R.length+1)) w=O++y::(R++w::Q):=by simp
end
theorem Nw{g:H->List IV}(hg:∀ a,(g a).length=sz)(q:aR sz g)(h:i<q.l.length):∃ q2:aR sz g,q2.l=q.l.take i/\∀(t:List IV)(x:bD),ρ t x=.int .i64 (i:Int)->dA sz t q.v none (some x) none=some q2.v:=by
 have hh:∀(cs:List IV)(n:Nat)(v:IV),Sl sz cs n v->i<n->∃ tight,∀(t:List IV)(x:bD),ρ t x=.int .i64 (i:Int)->dA sz t v none (some x) none=some (.slC (cs.take (i*sz)) i sz tight):=fun cs n v hs hi=>by
  cases hs with
  |nil=>omega
  |row cs n tight hl =>
   refine⟨tight&&i==n,fun t x hx=>?_⟩
   exact xdx
 let⟨tight,h1⟩:=hh _ _ _ q.ok h;have ht:(q.l.flatMap g).take (i*sz)=(q.l.take i).flatMap g:=by
  conv=>lhs;rw[←MJ i q.l,Bh]
  rw[List.take_left' (by rw[zj hg,ER,ML Z])]
 have hli:(q.l.take i).length=i:=by grind
 refine ⟨⟨q.l.take i,.slC ((q.l.take i).flatMap g) i sz tight,by
  rw[hli];exact .row _ _ _ (by rw [zj hg,hli]),by have:=q.eZ; omega⟩,rfl,fun t x hx=>?_⟩
 grind
def ox(l:List Int)(n:Int):Bool:=l.any fun x=>n==x
def lF(l:List Nd):Bool:=l.zipIdx.any fun ni=>(l.take ni.2).any fun m=>dR ni.1.at' m.at'
def loose(nodes:List Int)(a:Ac):Bool:=!ox nodes a.fr||!ox nodes a.to
def dM(fs:List Int)(f:Int):Bool:=f != 0&&!ox fs f
def kB(p:Pn)(nodes:List Int):Int:=bif lF p.ns.l then 8 else bif p.az.l.any (loose nodes)then 7 else bif p.az.l.any (fun a=>dM p.fs.l a.l||dM p.fs.l a.r)then 12 else 0
theorem UY(hS:bk S)(p:Pn)(q:aR 1 aK):aM S (p.ns.l.length+p.az.l.length+p.fs.l.length+q.l.length+20) 228 [.agg p.c,q.v] (.int .i64 (kB p q.l)):=by
 refine zg (i:=i228) (hS _ _ M M M M) rfl rfl (bP rfl) (p.ns.l.length+p.az.l.length+p.fs.l.length+q.l.length+19) Z zp fun m hm d ah t af=>?_;simp[V2,i228,Pn.c]at af;have hnf:=p.ns.eZ;have MR:=p.az.eZ;simp[i228,V0,Xa,Xe,af];refine zn (fun jj st=>∃(i:Nat)(O:aS),p.ns.l.length-i<=jj/\i<=p.ns.l.length/\(p.ns.l.zipIdx.take i).any (fun ni=>(p.ns.l.take ni.2).any fun m=>dR ni.1.at' m.at')=false/\st.aa=p.o::O/\aN 85 st.t [(1,q.v),(2,.ptrM d 0 0),(16,p.ns.v),(17,iv (p.ns.l.length:Nat)),(18,iv i)]) p.ns.l.length Z ⟨0,[],Z,Z,M,rfl,by simp[V0,Xa,Xe,af,cZ]⟩ ?_;rintro jj ⟨t,aa⟩ KA ⟨i,O,hjj,hi,ha,rfl,af⟩ bp bK bQ;simp[za,zb,zf]at af;by_cases h:i<p.ns.l.length
 .obtain⟨x,hx⟩:=fc (l:=p.ns.l) (i:=i) h;have hxz:p.ns.l.zipIdx[i]?=some (x,i):=by grind
  have hrd:bB (p.ns.l.flatMap Nd.c) (i*3) 3=some [.int .i64 x.id,.int .i64 x.at'.x,.int .i64 x.at'.y]:=xcn;let⟨q2,lQ,hsl⟩:=Nw Nd.aV p.ns h;have ahl:q2.l.length=i:=by grind
  simp[V0,Xa,Xb,Xe,af,h,zc p.ns h,hrd,yM,hsl];refine zn (fun jj st=>∃(k:Nat)(R:aS),q2.l.length-k<=jj/\k<=q2.l.length/\(q2.l.take k).any (fun m=>dR x.at' m.at')=false/\st.aa=p.o::(O++.cells [.int .i64 x.id,.int .i64 x.at'.x,.int .i64 x.at'.y]::R)/\aN 85 st.t [(1,q.v),(2,.ptrM d 0 0),(16,p.ns.v),(17,iv (p.ns.l.length:Nat)),(18,iv i),(6,.ptrM d (O.length+1) 0),(26,q2.v),(27,iv (q2.l.length:Nat)),(28,iv k)]) q2.l.length Z ⟨0,_,Z,Z,M,rfl,by simp[V0,Xa,Xe,af,cZ]⟩ ?_;clear af;rintro jj2 ⟨t,aa⟩ KB ⟨k,R,hjk,hk,hb,rfl,af⟩ gJ jL kP;simp[za,zb,zf]at af;by_cases h2:k<q2.l.length
  .obtain⟨y,hy⟩:=fc (l:=q2.l) (i:=k) h2;have r7:bB (q2.l.flatMap Nd.c) (k*3) 3=some [.int .i64 y.id,.int .i64 y.at'.x,.int .i64 y.at'.y]:=(zd Nd.aV 0 3 hy Z).trans rfl;cases hq:dR x.at' y.at'
   .have tM:=hq;unfold dR at tM;simp only[V0,Xa,Xb,Xe,af,h2,zc q2 h2,r7,Ij,Ii,zR,tM,j4,(zt k)];exact gJ _ (q2.l.length-(k+1)) Z ⟨k+1,_,Z,Z,zJ hy hb hq,rfl,by simp[V0,Xa,Xe,af]⟩
   .have tM:=hq;unfold dR at tM;simp[V0,Xa,Xb,Xe,af,h2,zc q2 h2,r7,Ij,Ii,zR,tM,j4];refine kP _ ?_;simp[V0];refine bQ _ ?_;have hf:lF p.ns.l=true:=by refine yl hxz ?_;grind
    simp[V0,Xa,af,kB,hf,bV]
  .simp[V0,Xa,af,h2];refine jL _ _ ?_;simp only[V0,Xa,Xe,af,(zt i)];have hq0:(p.ns.l.take i).any (fun m=>dR x.at' m.at')=false:=by grind
   exact bp _ (p.ns.l.length-(i+1)) Z ⟨i+1,_,Z,Z,zJ hxz ha hq0,rfl,by simp[V0,Xa,Xe,af]⟩
 .have hdup:lF p.ns.l=false:=by unfold lF;rw[←fT (l:=p.ns.l.zipIdx) (i:=i) (by simp_all)];omega
  simp[V0,Xa,af,h];refine bK _ _ ?_;simp[V0,Xa,Xe,af];refine zn (fun jj st=>∃(i:Nat)(O:aS),p.az.l.length-i<=jj/\i<=p.az.l.length/\(p.az.l.take i).any (loose q.l)=false/\st.aa=p.o::O/\aN 85 st.t [(1,q.v),(2,.ptrM d 0 0),(40,p.az.v),(41,iv (p.az.l.length:Nat)),(42,iv i)]) p.az.l.length Z ⟨0,O,Z,Z,M,rfl,by simp[V0,Xa,Xe,af,cZ]⟩ ?_;clear af ha bp bK bQ;rintro jj ⟨t,aa⟩ KA ⟨i,O,hjj,hi,ha,rfl,af⟩ bp bK bQ;simp[za,zb,zf]at af;by_cases h:i<p.az.l.length
  .obtain⟨x,hx⟩:=fc (l:=p.az.l) (i:=i) h;have hrd:bB (p.az.l.flatMap Ac.c) (i*6) 6=some [.int .i64 x.id,.int .i64 x.fr,.int .i64 x.to,x.via.v,.int .i64 x.l,.int .i64 x.r]:=(zd Ac.aV 0 6 hx Z).trans rfl;have c1:∀ n dd oo aJ aa id,aL aO S m dd oo aJ aa id 162 [q.v,.int .i64 n]=some (.r,.bool (ox q.l n),aa):=fun n dd oo aJ aa id=>YL hS q n m Z dd oo aJ aa id;cases h1:ox q.l x.fr
   .simp only[V0,Xa,Xb,Xe,af,h,zc p.az h,hrd,c1,h1];refine bQ _ ?_;simp[V0,Xa,af,kB,hdup,(yl hx (by simp[loose,h1]):p.az.l.any (loose q.l)=true),bV,bT]
   .cases h2:ox q.l x.to
    .simp only[V0,Xa,Xb,Xe,af,h,zc p.az h,hrd,c1,h1,h2];refine bQ _ ?_;simp[V0,Xa,af,kB,hdup,(yl hx (by simp[loose,h2]):p.az.l.any (loose q.l)=true),bV,bT]
    .simp only[V0,Xa,Xb,Xe,af,h,zc p.az h,hrd,c1,h1,h2,(zt i)];exact bp _ (p.az.l.length-(i+1)) Z ⟨i+1,_,Z,Z,zJ hx ha (by simp[loose,h1,h2]),rfl,by simp[V0,Xa,Xe,af]⟩
  .have hlo:p.az.l.any (loose q.l)=false:=by grind
   simp[V0,Xa,af,h];refine bK _ _ ?_;simp[V0,Xa,Xe,af];refine zm p.az.l.length (fun i st=>∃(O:aS),(p.az.l.take i).any (fun a=>dM p.fs.l a.l||dM p.fs.l a.r)=false/\st.aa=p.o::O/\aN 85 st.t [(2,.ptrM d 0 0),(60,p.az.v),(61,iv (p.az.l.length:Nat)),(62,iv i)]) Z ⟨O,M,rfl,by simp[V0,Xa,Xe,af,cZ]⟩ ?_;clear af ha bp bK bQ;rintro i ⟨t,aa⟩ KA hi ⟨O,ha,rfl,af⟩ bp bK bQ;simp[za,zb,zf]at af;by_cases h:i<p.az.l.length
   .obtain⟨x,hx⟩:=fc (l:=p.az.l) (i:=i) h;have hrd:bB (p.az.l.flatMap Ac.c) (i*6) 6=some [.int .i64 x.id,.int .i64 x.fr,.int .i64 x.to,x.via.v,.int .i64 x.l,.int .i64 x.r]:=(zd Ac.aV 0 6 hx Z).trans rfl;have c1:∀ n dd oo aJ aa id,aL aO S m dd oo aJ aa id 162 [p.fs.v,.int .i64 n]=some (.r,.bool (ox p.fs.l n),aa):=fun n dd oo aJ aa id=>YL hS p.fs n m Z dd oo aJ aa id;have RV:rep [IV.int .i64 0] 2=[.int .i64 0,.int .i64 0]:=cU rfl rfl;simp[V0,Xa,Xb,Xd,Xe,af,h,zc p.az h,hrd];refine zn (fun jj st=>∃(k:Nat)(O:aS),2-k<=jj/\k<=2/\(1<=k->dM p.fs.l x.l=false)/\(2<=k->dM p.fs.l x.r=false)/\st.aa=p.o::O/\aN 85 st.t [(2,.ptrM d 0 0),(60,p.az.v),(61,iv (p.az.l.length:Nat)),(62,iv i),(70,.agg [.int .i64 x.l,.int .i64 x.r]),(71,iv k)]) 2 Z ⟨0,_,Z,Z,Z,Z,rfl,by simp[V0,Xa,Xe,af,cZ]⟩ ?_;clear af;rintro jj2 ⟨t,aa⟩ KB ⟨k,R,hjk,hk,hk1,hk2,rfl,af⟩ gJ jL kP;simp[za,zb,zf]at af;have bad:∀ f:Int,f=x.l∨f=x.r->dM p.fs.l f=true->p.az.l.any (fun a=>dM p.fs.l a.l||dM p.fs.l a.r)=true:=fun f hf h=>yl (q:=fun a=>dM p.fs.l a.l||dM p.fs.l a.r) hx (by
     rcases hf with rfl | rfl <;> simp [h])
    have iS:∀ z:Int,(z != 0)=!(z==0):=fun z=>rfl;rcases(show k=0∨k=1∨k=2 by omega)with rfl|rfl|rfl
    .have au:(((0:Nat):Int)<2)=True:=eq_true M;have hw0:aT .i64 (((0:Nat):Int)+1)=((1:Nat):Int):=rfl;have hn0:lg (.int .i64 ((0:Nat):Int))=some 0:=zY;have T6:(0<2)=True:=eq_true M;cases h1:x.l==0
     .cases h2:ox p.fs.l x.l
      .simp only[V0,Xa,Xe,af,au,cE,hn0,T6,qZ,iS,h1,c1,h2];refine kP _ ?_;simp[V0];refine bQ _ ?_;simp[V0,Xa,af,kB,hdup,hlo,bad x.l (.inl rfl) (by simp[dM,iS,h1,h2]),bV,bT]
      .simp only[V0,Xa,Xe,af,au,cE,hn0,T6,qZ,iS,h1,c1,h2,hw0];exact gJ _ 1 Z ⟨1,_,Z,Z,fun _=>by simp[dM,h2],Z,rfl,by simp[V0,Xa,Xe,af]⟩
     .simp only[V0,Xa,Xe,af,au,cE,hn0,T6,qZ,iS,h1,hw0];exact gJ _ 1 Z ⟨1,_,Z,Z,fun _=>by simp[dM,iS,h1],Z,rfl,by simp[V0,Xa,Xe,af]⟩
    .have au:(((1:Nat):Int)<2)=True:=eq_true M;have hw0:aT .i64 (((1:Nat):Int)+1)=((2:Nat):Int):=rfl;have hn0:lg (.int .i64 ((1:Nat):Int))=some 1:=zY;have T6:(1<2)=True:=eq_true M;cases h1:x.r==0
     .cases h2:ox p.fs.l x.r
      .simp only[V0,Xa,Xe,af,au,cE,hn0,T6,Ba,iS,h1,c1,h2];refine kP _ ?_;simp[V0];refine bQ _ ?_;simp[V0,Xa,af,kB,hdup,hlo,bad x.r (.inr rfl) (by simp[dM,iS,h1,h2]),bV,bT]
      .simp only[V0,Xa,Xe,af,au,cE,hn0,T6,Ba,iS,h1,c1,h2,hw0];exact gJ _ 0 Z ⟨2,_,Z,Z,fun _=>hk1 Z,fun _=>by simp[dM,h2],rfl,by simp[V0,Xa,Xe,af]⟩
     .simp only[V0,Xa,Xe,af,au,cE,hn0,T6,Ba,iS,h1,hw0];exact gJ _ 0 Z ⟨2,_,Z,Z,fun _=>hk1 Z,fun _=>by simp[dM,iS,h1],rfl,by simp[V0,Xa,Xe,af]⟩
    .simp[V0,Xa,af,(eq_false M:(((2:Nat):Int)<2)=False)];refine jL _ _ ?_;simp only[V0,Xa,Xe,af,(zt i)];exact bp Z _ ⟨_,zJ hx ha (by grind),rfl,by simp[V0,Xa,Xe,af]⟩
   .have hof:p.az.l.any (fun a=>dM p.fs.l a.l||dM p.fs.l a.r)=false:=by grind
    simp[V0,Xa,af,h];refine bK _ _ ?_;simp[V0,Xa,af,kB,hdup,hlo,hof,bT]
end
end Go.Proofs.YtjibdelmjcenhaaGreatDoor
