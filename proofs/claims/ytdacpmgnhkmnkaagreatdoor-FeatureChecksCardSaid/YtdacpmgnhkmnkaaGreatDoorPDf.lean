/-
  A part of the proof: the small machine, its simulation and its walks.
-/
import Derived.Lib.OthersKept
import Derived.WalkSmall
import Derived.Shelf.Small.Bits
import Derived.Shelf.Small.Wraps
import Derived.Shelf.Strconv.Itoa0
import Derived.Shelf.Strings.Search1
import Derived.Shelf.Strings.Search2
import Derived.Shelf.Strings.Search3
import Derived.Shelf.LaysM
import Derived.Shelf.Strings.Shaped
import Derived.Shelf.Sort.Plain
import Derived.Shelf.Slices.Turned
import Derived.Shelf.Slices.In.SortNone
import Derived.Ground.SlsfProg
import Derived.Shelf.SlSortCmp.Insertion
import Derived.Shelf.SlSortCmp.SiftDown1
import Derived.Shelf.SlSortCmp.HeapSort1
import Derived.Shelf.SlSortCmp.Insertion1
import Derived.Shelf.SlSortCmp.Median1
import Derived.Shelf.SlSortCmp.Pivot1
import Derived.Shelf.SlSortCmp.ReverseRange1
import Derived.Shelf.SlSortCmp.PartialInsertion1
import Derived.Shelf.SlSortCmp.PartitionEqual1
import Derived.Shelf.SlSortCmp.Partition1
import Derived.Shelf.SlSortCmp.Pdq1
import Derived.Shelf.SlSortCmp.Whole1
import Derived.Shelf.SlSortCmp.NoneTotal
import Derived.Test.YtdacpmgnhkmnkaaGreatDoorProg
import Derived.Test.YtdacpmgnhkmnkaaGreatDoorPDa
import Derived.Test.YtdacpmgnhkmnkaaGreatDoorPDb
import Derived.Test.YtdacpmgnhkmnkaaGreatDoorPDc
import Derived.Test.YtdacpmgnhkmnkaaGreatDoorPDd
import Derived.Test.YtdacpmgnhkmnkaaGreatDoorPDe
set_option linter.unusedVariables false
set_option linter.unusedSimpArgs false
set_option linter.unusedSectionVars false
set_option linter.defProp false
set_option maxRecDepth 1000000
set_option maxHeartbeats 3200000
open Nat renaming reduceLT → Xa, reduceAdd → Xb, reduceMul → Xc, reduceLeDiff → Xd, reduceEqDiff → Xe
open Go.Proofs.Tryz
open Go.Proofs.YtdacpmgnhkmnkaaGreatDoor.IV renaming int → aG
open Go.Proofs.YtdacpmgnhkmnkaaGreatDoor.aO renaming cells → aI
open Go.IntKind renaming i64 → aH
noncomputable section
namespace Go.Proofs.YtdacpmgnhkmnkaaGreatDoor
section
open Go Go.RowKit
theorem IT{l:List Pt}{q:Pt}(hl:∀ x∈l,x.near)(hq:q.near)(h:wg l.reverse q=true):wg l q=true:=by obtain⟨k,hk,h2⟩:=zd7.1 h;rw[uF]at hk;rw[Yi Ω,Yi Ω]at h2;refine zd7.2 ⟨l.length-1-1-k,Ω,?_⟩;rw[show l.length-1-(k+1)=l.length-1-1-k by omega,show l.length-1-k=l.length-1-1-k+1 by omega]at h2;rw[Lx (hl _ (zL Ω)) (hl _ (zL Ω)) hq];exact h2
theorem aay{l:List Pt}{q:Pt}(hl:∀ x∈l,x.near)(hq:q.near):wg l.reverse q=wg l q:=by rw[nU];refine⟨IT hl hq,fun h=>IT (l:=l.reverse) (fun x hx=>hl x (Sw.1 hx)) hq ?_⟩;rw[zno];exact h
theorem Ie{α:Type}{f g:α->Int}:∀{l:List α},(∀ x∈l,f x%2=g x%2)->sm f l%2=sm g l%2
 |[],_=>rfl
 |x::l,h=>by have ih:=Ie (f:=f) (g:=g) (l:=l) fun y hy=>h y (nk _ hy);have hx:=h x (kB ..);simp only[sm];omega
theorem Rr{a b:Bool}:(b2 a+b2 b)%2=(b2 a-b2 b)%2/\(b2 a+b2 b)%2=(b2 b-b2 a)%2:=by cases a<;>cases b<;>exact⟨rfl,rfl⟩
section
variable {p:Pn} (h:aV p)
include h
theorem aV.kH{a:Ac}(ha:a∈p.az.l):bJ p a.id=bu p a:=by have:=h.pid a ha;unfold bJ;rw[decide_eq_true (show 0<a.id by omega),bT,(h.nice.path ha).2]
theorem aV.lN{a:Ac}(ha:a∈p.az.l):bJ p (-a.id)=(bu p a).reverse:=by have:=h.pid a ha;unfold bJ;rw[decide_eq_false (show ¬ 0 < -a.id by omega),bL,h.ng2 ha,(h.nice.path ha).2]
theorem aV.j7{a:Ac}(ha:a∈p.az.l):∀ x∈bu p a,x.near:=fun x hx=>Yv (Yg h.nice ha x hx)
theorem aV.AM{a:Ac}(ha:a∈p.az.l){d:Int}(hd:d=a.id∨d=-a.id){q:Pt}(hq:q.near):wg (bJ p d) q=wg (bu p a) q:=by
 rcases hd with rfl|rfl
 ·rw[h.kH ha]
 ·rw[h.lN ha,aay (h.j7 ha) hq]
theorem aV.uk{a:Ac}(ha:a∈p.az.l){d:Int}(hd:d=a.id∨d=-a.id){q:Pt}(hq:q.near):um (bJ p d) q=um (bu p a) q:=by
 rcases hd with rfl|rfl
 ·rw[h.kH ha]
 ·rw[h.lN ha,U1 (h.j7 ha) hq]
theorem aV.qY{d:Int}(hd:d∈aY p):2<=(bJ p d).length:=by
 obtain⟨a,ha,rfl|rfl⟩:=h.cW.1 (h.fk.1 hd)
 ·rw[h.kH ha];exact zN
 ·rw[h.lN ha,uF];exact zN
theorem aV.aaz{c:List Int}(hs:∀ d∈c,d∈aY p){nd:Nd}(hn:nd∈p.ns.l):(c.any fun z=>wg (bJ p z) nd.at')=true↔∃ x:Dt (Ix h.bp.E.length),h.bp.drawn.gP x=nd.at'/\(c.contains (h.bp.bE x)=true∨c.contains (h.bp.bE x.rev)=true):=by
 have hq:=Yv (h.nice.Lz nd hn);rw[rR];constructor
 ·rintro⟨d,hdc,ho⟩;obtain⟨a,ha,hda⟩:=h.cW.1 (h.fk.1 (hs d hdc));rw[h.AM ha hda hq]at ho;obtain⟨k,hk,ho⟩:=zd7.1 ho;have ht:jW p a k∈eM p:=YC ha hk;have hE:(a.id,k)∈h.bp.E:=jA.2 ⟨_,ht,rfl⟩;have hR:=O9 (h.j7 ha _ (zL Ω)) (h.j7 ha _ (zL Ω)) hq ho;have Jw:(bu p a).getD k gB=nd.at'∨(bu p a).getD (k+1) gB=nd.at':=by
   rcases h.sJ ht hn (h.gL ht hn hR)with⟨_,_,e⟩|⟨_,_,e⟩
   ·exact .inl e
   ·exact .inr e
  rcases Jw with e|e
  ·obtain⟨x,x1,x2⟩:=h.bp.ex hE true;refine⟨x,?_,?_⟩
   ·rw[(h.bp.j9 x2).1,x1,h.pt ha];exact e
   ·have e3:h.bp.bE x=a.id:=by unfold Net.bE;rw[x2,bt rfl,x1]
    rw[h.bp.mV,e3,nM,nM];rcases hda with rfl|rfl
    ·exact .inl hdc
    ·exact .inr hdc
  ·obtain⟨x,x1,x2⟩:=h.bp.ex hE false;refine⟨x,?_,?_⟩
   ·rw[(h.bp.kj x2).1,x1,h.pt ha];exact e
   ·have e3:h.bp.bE x=-a.id:=by unfold Net.bE;rw[x2,bC Δ,x1]
    rw[h.bp.mV,e3,tA,nM,nM];rcases hda with rfl|rfl
    ·exact .inr hdc
    ·exact .inl hdc
 ·rintro⟨x,hx,hc⟩;obtain⟨a,ha,ea,hk⟩:=h.ofE (h.bp.get_mem x.s);have Uo:h.bp.bE x=a.id∨h.bp.bE x=-a.id:=by
   rcases h.bp.rG x with e|e
   ·left;rw[←e];exact ea.symm
   ·right;omega
  have hd:∃ d∈c,d=a.id∨d=-a.id:=by
   rw[h.bp.mV,nM,nM]at hc;rcases hc with hc|hc
   ·exact⟨_,hc,Uo⟩
   ·exact⟨_,hc,Ω⟩
  obtain⟨d,hdc,hda⟩:=hd;refine⟨d,hdc,?_⟩;rw[h.AM ha hda hq];refine zd7.2 ⟨_,hk,Pa (h.j7 ha _ (zL Ω)) (h.j7 ha _ (zL Ω)) ?_⟩;rw[←h.pt ha,←h.pt ha,ea];cases hf:h.bp.fwd x
  ·exact .inr (hx.symm.trans (h.bp.kj hf).1)
  ·exact .inl (hx.symm.trans (h.bp.j9 hf).1)
variable {PI:Int} (bK:0<PI) (hd:∀ i,((h.bp.drawn.B i).h-(h.bp.drawn.A i).h)∣PI)
theorem aV.aav{c:List Int}(hn:c.Nodup)(hs:∀ d∈c,d∈aY p){q:Pt}(hq:q.near){y:Dt (Ix h.bp.E.length)}(hy:h.bp.drawn.gP y=q):b2 (c.foldl (fun o z=>mA (bJ p z) q o) false)%2=ou (fun x=>c.contains (h.bp.bE x)) ((h.bp.drawn.bn bK hd).bk.Q q.h)%2:=by
 rw[D4 c false fun d hd=>by have:=h.qY (hs d hd);omega];have e1:sm (fun d=>um (bJ p d) q) c=sm (fun a=>(b2 (c.contains a.id)+b2 (c.contains (-a.id)))*um (bu p a) q) p.az.l:=(h.vF hn hs _).trans (zH fun a ha=>by
  rw[h.uk ha (.inl rfl) hq,h.uk ha (.inr rfl) hq];exact (Int.add_mul ..).symm)
 have e2:=h.Ia fun e=>(b2 (c.contains e.1)+b2 (c.contains (-e.1)))*b2 (fN (h.bp.pt e.1 e.2) (h.bp.pt e.1 (e.2+1)) q);have e3:sm (fun a=>sm (fun k=>(b2 (c.contains a.id)+b2 (c.contains (-a.id)))*b2 (fN (h.bp.pt a.id k) (h.bp.pt a.id (k+1)) q)) (List.range ((bu p a).length-1))) p.az.l=sm (fun a=>(b2 (c.contains a.id)+b2 (c.contains (-a.id)))*um (bu p a) q) p.az.l:=zH fun a ha=>by rw[YA];congr 1;unfold um;exact zH fun k _=>by rw[h.pt ha,h.pt ha]
 rw[e1,←e3,←e2,show b2 false=0 from rfl,Int.zero_add];have hp:((h.bp.drawn.bn bK hd).bk.Q q.h).Perm ((List.finRange h.bp.E.length).filter fun i=>decide (i∈(h.bp.drawn.bn bK hd).bk.Q q.h)):=by
  refine(VT ?_ ((List.nodup_finRange _).filter _)).2 fun i=>?_
  ·have ak:=(h.bp.drawn.bn bK hd).bk.nodup q.h;rw[(h.bp.drawn.bn bK hd).bk.above,M3]at ak;exact(M3.1 ak.2.1).2.1
  ·rw[tu,jk];exact⟨fun hi=>⟨List.mem_finRange i,hi⟩,fun hi=>hi.2⟩
 unfold ou;rw[zd6 hp,zab];refine Ie fun i _=>?_;have hcq:decide (i∈(h.bp.drawn.bn bK hd).bk.Q q.h)=fN (h.bp.pt h.bp.E[i].1 h.bp.E[i].2) (h.bp.pt h.bp.E[i].1 (h.bp.E[i].2+1)) q:=by rw[nU,jk];exact h.bp.drawn.UY bK hd hq hy
 rw[hcq];cases fN (h.bp.pt h.bp.E[i].1 h.bp.E[i].2) (h.bp.pt h.bp.E[i].1 (h.bp.E[i].2+1)) q
 ·rw[show b2 false=0 from rfl,VJ,M4]
 ·rw[show b2 true=1 from rfl,Int.mul_one,Int.one_mul];show _=(b2 (c.contains (h.bp.bE ⟨i,true⟩))-b2 (c.contains (h.bp.bE ⟨i,false⟩)))%2;have er:h.bp.bE ⟨i,false⟩=- h.bp.bE ⟨i,true⟩:=h.bp.mV ⟨i,true⟩;have ea:h.bp.E[i].1=h.bp.bE ⟨i,true⟩∨h.bp.E[i].1=- h.bp.bE ⟨i,true⟩:=h.bp.rG ⟨i,true⟩;rw[er];rcases ea with e|e
  ·rw[e];exact Rr.1
  ·rw[e,tA];exact Rr.2
theorem aV.nE{z:Int}(hz:z∈aY p)(hc:bZ (bS p) (bW p) z∈aW p)(hpos:0<h.bp.pQ (bZ (bS p) (bW p) z)){nd:Nd}(ak:nd∈p.ns.l){y:Dt (Ix h.bp.E.length)}(hy:h.bp.drawn.gP y=nd.at') :
  (bU p (bZ (bS p) (bW p) z) nd.at'=true↔(h.bp.drawn.bn bK hd).bk.p9 (fun x=>(bZ (bS p) (bW p) z).contains (h.bp.bE x)) y.s=1)/\((h.bp.drawn.bn bK hd).bk.p9 (fun x=>(bZ (bS p) (bW p) z).contains (h.bp.bE x)) y.s=1->ou (fun x=>(bZ (bS p) (bW p) z).contains (h.bp.bE x)) ((h.bp.drawn.bn bK hd).bk.Q nd.at'.h)=1):=by
 obtain⟨x0,hx0,_⟩:=h.bp.gZ (h.fk.1 hz)
 have ho:=(h.rX bK hd hz hc hx0).1 hpos
 have wD:=h.of bK hd hz hc hx0
 have hq:=Yv (h.nice.Lz nd ak)
 have hs:=(h.mm hz).1.sub
 have hpar:=h.aav bK hd (h.mm hz).1.nodup hs hq hy
 have tW:=h.aaz hs ak
 have PO:∀ x,x∈(h.bp.drawn.bn bK hd).bk.ring nd.at'.h↔h.bp.drawn.gP x=nd.at':=fun x=>(h.bp.drawn.jJ bK hd).trans ⟨fun e=>SV (h.bp.drawn.kK x).1 hq e,fun e=>by rw[e]⟩
 unfold bU
 generalize Jv:(fun x=>(bZ (bS p) (bW p) z).contains (h.bp.bE x))=f at wD ho hpar ⊢
 have Gs:∀ x,(bZ (bS p) (bW p) z).contains (h.bp.bE x)=f x:=fun x=>by rw[←Jv]
 simp only[Gs]at tW
 generalize((bZ (bS p) (bW p) z).any fun z=>wg (bJ p z) nd.at')=on at tW ⊢
 generalize(bZ (bS p) (bW p) z).foldl (fun o z=>mA (bJ p z) nd.at' o) false=od at hpar ⊢
 have hyr:=(PO y).2 hy
 have hZk:(∀ x,h.bp.drawn.gP x=nd.at'->f x=false/\f x.rev=false)->(h.bp.drawn.bn bK hd).bk.p9 f y.s=ou f ((h.bp.drawn.bn bK hd).bk.Q nd.at'.h):=fun hZ=>by
  obtain⟨A,B,e⟩:=zmc hyr;rw [zfj wD.qR e,(hZ y hy).2,ZX (f:=fun y=>b2 (f y) - b2 (f y.rev)) fun x hx=>by
   have Wp:=hZ x ((PO x).1 (by rw[e];exact SA _ hx));rw[Wp.1,Wp.2];rfl]
  simp only[show b2 false=0 from rfl,ou];omega
 have hw:ou f ((h.bp.drawn.bn bK hd).bk.Q nd.at'.h)=0∨ou f ((h.bp.drawn.bn bK hd).bk.Q nd.at'.h)=1:=xK wD ho (by rw[(h.bp.drawn.bn bK hd).bk.above,←kR])
 have hK:(h.bp.drawn.bn bK hd).bk.p9 f y.s=1->∀ x,h.bp.drawn.gP x=nd.at'->f x=false/\f x.rev=false:=fun hk x hx=>by
  have hn:¬ (h.bp.drawn.bn bK hd).bk.part x0.s x.s:=fun hp=>by have:=zcn wD ho (C9 (zb3 ((PO x).2 hx)) (zb3 hyr) hp);omega
  constructor
  ·cases e:f x
   ·rfl
   ·exact absurd (wD.part x e) hn
  ·cases e:f x.rev
   ·rfl
   ·exact absurd (wD.part x.rev e) hn
 refine⟨⟨fun hi=>?_,fun hk=>?_⟩,fun hk=>by rw[←hZk (hK hk)];exact hk⟩
 ·rw[gJ,tB]at hi
  obtain⟨h1,h2⟩:=hi
  have hZ:∀ x,h.bp.drawn.gP x=nd.at'->f x=false/\f x.rev=false:=fun x hx=>by
   have hno:¬ (f x=true∨f x.rev=true):=fun he=>by have:=tW.2 ⟨x,hx,he⟩;rw[h1]at this;cases this
   rw[not_or,sZ,sZ]at hno;exact hno
  rw[hZk hZ]
  rw[h2]at hpar
  simp only[b2,if_true]at hpar
  omega
 ·have hZ:=hK hk
  rw[hZk hZ]at hk
  rw[hk]at hpar
  rw[gJ,tB]
  constructor
  ·cases e:on
   ·rfl
   ·obtain⟨x,hx,he⟩:=tW.1 e
    rw[(hZ x hx).1,(hZ x hx).2]at he
    rcases he with he|he<;>cases he
  ·cases od
   ·simp[b2]at hpar
   ·rfl
end
section
variable {p:Pn} (h:aV p)
include h
theorem aV.UO{z:Int}(hz:z∈aY p)(hc:bZ (bS p) (bW p) z∈aW p)(hpos:0<h.bp.pQ (bZ (bS p) (bW p) z)){a:Ac}(ha:a∈p.az.l):bU p (bZ (bS p) (bW p) z) (cF p a.fr).at'=bU p (bZ (bS p) (bW p) z) (cF p a.to).at':=by obtain⟨PI,bK,hd⟩:=zco (fun i=>(h.bp.drawn.B i).h-(h.bp.drawn.A i).h) (fun i=>h.bp.drawn.hne i);obtain⟨x0,hx0,_⟩:=h.bp.gZ (h.fk.1 hz);have wD:=h.of bK hd hz hc hx0;obtain⟨y1,d1,f1⟩:=h.bp.gZ (h.cW.2 ⟨a,ha,.inl rfl⟩);obtain⟨y2,d2,f2⟩:=h.bp.gZ (h.cW.2 ⟨a,ha,.inr rfl⟩);rw[(h.qA ha).1]at f1;rw[(h.rT ha).1]at f2;have i1:=(h.nE bK hd hz hc hpos (yG (h.nice.fr a ha)).1 f1).1;have i2:=(h.nE bK hd hz hc hpos (yG (h.nice.VX a ha)).1 f2).1;have hp:=h.bp.pW bK hd (x:=y1) (y:=y2) (.inr (by rw[d1,d2,tA])) (zaa y1.s);have hk:=hp ((h.bp.drawn.bn bK hd).bk.p9 fun x=>(bZ (bS p) (bW p) z).contains (h.bp.bE x)) fun m s t hs ht=>Jf wD.qR hs ht;rw[nU,i1,i2,hk]
theorem aV.EI{z w:Int}(hz:z∈aY p)(hc:bZ (bS p) (bW p) z∈aW p)(hpos:0<h.bp.pQ (bZ (bS p) (bW p) z))(hw:w∈aY p)(mF:bZ (bS p) (bW p) w∈aW p)(Wx:0<h.bp.pQ (bZ (bS p) (bW p) w))(hap:∀ d,d∈bZ (bS p) (bW p) z->d∈bZ (bS p) (bW p) w->False){a:Ac}(ha:a∈p.az.l)(hi:bU p (bZ (bS p) (bW p) z) (cF p a.fr).at'=true)(hi2:bU p (bZ (bS p) (bW p) w) (cF p a.fr).at'=true):h.bp.pQ (bZ (bS p) (bW p) z)≠h.bp.pQ (bZ (bS p) (bW p) w):=by
 obtain⟨PI,bK,hd⟩:=zco (fun i=>(h.bp.drawn.B i).h-(h.bp.drawn.A i).h) (fun i=>h.bp.drawn.hne i);obtain⟨x0,hx0,_⟩:=h.bp.gZ (h.fk.1 hz);obtain⟨x1,hx1,_⟩:=h.bp.gZ (h.fk.1 hw);have wD:=h.of bK hd hz hc hx0;have adq:=h.of bK hd hw mF hx1;have ho:=(h.rX bK hd hz hc hx0).1 hpos;have A7:=(h.rX bK hd hw mF hx1).1 Wx;obtain⟨y1,d1,f1⟩:=h.bp.gZ (h.cW.2 ⟨a,ha,.inl rfl⟩);rw[(h.qA ha).1]at f1;have i1:=h.nE bK hd hz hc hpos (yG (h.nice.fr a ha)).1 f1;have i2:=h.nE bK hd hw mF Wx (yG (h.nice.fr a ha)).1 f1;have w1:=i1.2 (i1.1.1 hi);have w2:=i2.2 (i2.1.1 hi2);have hL:=(h.bp.drawn.bn bK hd).bk.above (cF p a.fr).at'.h;rw[←kR]at hL;obtain⟨L0,wd,LU⟩:=h.bp.drawn.cover;have a1:=h.ux bK hd hz (fun i=>(LU i).1) (fun i=>(LU i).2);have a2:=h.ux bK hd hw (fun i=>(LU i).1) (fun i=>(LU i).2);by_cases hs:∃ s,(h.bp.drawn.bn bK hd).bk.part x0.s s/\(h.bp.drawn.bn bK hd).bk.part x1.s s
 ·exfalso;obtain⟨s,s1,s2⟩:=hs;have hK:(h.bp.drawn.bn bK hd).bk.part x1.s=(h.bp.drawn.bn bK hd).bk.part x0.s:=funext fun t=>propext ⟨fun ht=>y7 (y7 s1 (zc0 s2)) ht,fun ht=>y7 (y7 s2 (zc0 s1)) ht⟩;rw[hK]at adq A7;exact SZ wD adq ho A7 (fun x hx hx2=>hap _ (nM.1 hx) (nM.1 hx2)) hL w1 w2
 ·have hne:=Vq (pos:=(h.bp.drawn.bn bK hd).key) (ms:=mQ L0 wd) (h.bp.drawn.empty bK hd (fun i=>(LU i).1)) (fun m hm=>h.bp.drawn.rows bK hd (fun i=>(LU i).1) (fun i=>(LU i).2) hm) (fun m=>(h.bp.drawn.bn bK hd).jH) wD adq ho A7 (fun s h1 h2=>hs ⟨s,h1,h2⟩) hL w1 w2;rw[a1,a2]at hne;intro e;exact hne (by rw[e])
end
theorem xd{a b:Pt}(ha:a.near)(hb:b.near):-8796093022208<=xe a b/\xe a b<=8796093022208:=by obtain⟨h1,h2,h3,h4⟩:=ha;obtain⟨g1,g2,g3,g4⟩:=hb;obtain⟨m1,m2⟩:=YS (a:=a.x) (b:=b.y) (k:=2097152) Ω Ω Ω Ω;obtain⟨m3,m4⟩:=YS (a:=b.x) (b:=a.y) (k:=2097152) Ω Ω Ω Ω;unfold xe;generalize a.x*b.y=u at *;generalize b.x*a.y=v at *;omega
theorem KG{acc:Int}{a b:Pt}(ha:a.near)(hb:b.near)(h1:-4611686018427387904<=acc)(h2:acc<=4611686018427387904):qy acc a b=acc+xe a b:=by obtain⟨q1,q2,q3,q4⟩:=ha;obtain⟨g1,g2,g3,g4⟩:=hb;obtain⟨m1,m2⟩:=YS (a:=a.x) (b:=b.y) (k:=2097152) Ω Ω Ω Ω;obtain⟨m3,m4⟩:=YS (a:=b.x) (b:=a.y) (k:=2097152) Ω Ω Ω Ω;unfold qy xe;generalize a.x*b.y=u at *;generalize b.x*a.y=v at *;rw[zK (x:=u) Ω Ω,zK (x:=v) Ω Ω,zK (x:=acc+u) Ω Ω,zK Ω Ω];omega
def tH(l:List Pt):Int:=sm (fun k=>xe (l.getD k gB) (l.getD (k+1) gB)) (List.range (l.length-1))
theorem zad{l:List Pt}(hl:∀ x∈l,x.near)(k:Nat)(hk:k+1<=l.length):-(8796093022208*(k:Int))<=sm (fun j=>xe (l.getD j gB) (l.getD (j+1) gB)) (List.range k)/\sm (fun j=>xe (l.getD j gB) (l.getD (j+1) gB)) (List.range k)<=8796093022208*(k:Int):=by
 have:=zf0 (f:=fun j=>xe (l.getD j gB) (l.getD (j+1) gB)) (B:=8796093022208) (l:=List.range k) fun j hj=>by have:=rN.1 hj;exact xd (hl _ (zL Ω)) (hl _ (zL Ω))
 rwa [XB]at this
theorem H7{l:List Pt}(hl:∀ x∈l,x.near){acc:Int}(Nh:l.length<=1000)(h1:-4600000000000000000<=acc)(h2:acc<=4600000000000000000):∀ k,k+1<=l.length->qV l acc k=acc+sm (fun j=>xe (l.getD j gB) (l.getD (j+1) gB)) (List.range k)
 |0,_=>by simp[qV,sm]
 |k+1,hk=>by
  have ih:=H7 hl Nh h1 h2 k Ω;have e1:l[k]?=some (l.getD k gB):=by rw[mN,cK Ω];rfl
  have e2:l[k+1]?=some (l.getD (k+1) gB):=by rw[mN,cK Ω];rfl
  have e:qV l acc (k+1)=qy (qV l acc k) (l.getD k gB) (l.getD (k+1) gB):=by
   show(match l[k]?,l[k+1]? with|some a,some b=>qy (qV l acc k) a b|_,_=>qV l acc k)=_
   rw[e1,e2]
  have hb:=zad hl k Ω;rw[e,ih,KG (hl _ (zL Ω)) (hl _ (zL Ω)) Ω Ω,Xw,zC];simp only[sm];omega
theorem X0{l:List Pt}(hl:∀ x∈l,x.near){acc:Int}(Nh:l.length<=1000)(h0:1<=l.length)(h1:-4600000000000000000<=acc)(h2:acc<=4600000000000000000):twP l acc=acc+tH l:=H7 hl Nh h1 h2 _ Ω
theorem S9{l:List Pt}:tH l.reverse=- tH l:=by unfold tH;rw[uF,zc1 (l.length-1),show ∀ z:Int,-z=(-1)*z from fun z=>by omega,←YA];refine zH fun k hk=>?_;have hk:=rN.1 hk;rw[Yi Ω,Yi Ω,show l.length-1-(l.length-1-1-k)=k+1 by omega,show l.length-1-(l.length-1-1-k+1)=k by omega];unfold xe;grind
section
variable {p:Pn} (h:aV p)
include h
theorem aV.rS{d:Int}(hd:d∈aY p):h.bp.lI d=tH (bJ p d):=by
 have key:∀ a∈p.az.l,h.bp.lI a.id=tH (bu p a):=fun a ha=>by have:=h.pid a ha;unfold Net.lI Net.tau tH;rw[bt Ω,h.len ha];exact zH fun k _=>by rw[h.pt ha,h.pt ha]
 obtain⟨a,ha,rfl|rfl⟩:=h.cW.1 (h.fk.1 hd)
 ·rw[h.kH ha];exact key a ha
 ·rw[h.lN ha,S9,←key a ha];exact h.xP ha
theorem aV.AI{d:Int}(hd:d∈aY p):∀ x∈bJ p d,x.near:=by
 obtain⟨a,ha,rfl|rfl⟩:=h.cW.1 (h.fk.1 hd)
 ·rw[h.kH ha];exact h.j7 ha
 ·rw[h.lN ha];exact fun x hx=>h.j7 ha x (Sw.1 hx)
theorem aV.C7(hv:∀ a∈p.az.l,a.via.l.length<=900){d:Int}(hd:d∈aY p):(bJ p d).length<=902:=by
 have key:∀ a∈p.az.l,(bu p a).length<=902:=fun a ha=>by have:=hv a ha;unfold bu;rw[cu,eR,cu,dw];omega
 obtain⟨a,ha,rfl|rfl⟩:=h.cW.1 (h.fk.1 hd)
 ·rw[h.kH ha];exact key a ha
 ·rw[h.lN ha,uF];exact key a ha
theorem aV.H6(hv:∀ a∈p.az.l,a.via.l.length<=900):∀(c:List Int)(acc:Int),(∀ d∈c,d∈aY p)->-(8000000000000000*((512:Int)-c.length))<=acc->acc<=8000000000000000*((512:Int)-c.length)->c.length<=512->c.foldl (fun acc z=>twP (bJ p z) acc) acc=acc+sm h.bp.lI c
 |[],acc,_,_,_,_=>by simp[sm]
 |d::c,acc,hs,h1,h2,hl=>by have hd:=hs d (kB ..);have hp:=h.qY hd;have hf:=h.C7 hv hd;rw[cu]at hl h1 h2;have hb:=zad (h.AI hd) ((bJ p d).length-1) Ω;have hb:-(8796093022208*(((bJ p d).length-1:Nat):Int))<=tH (bJ p d)/\tH (bJ p d)<=8796093022208*(((bJ p d).length-1:Nat):Int):=hb;have he:=X0 (acc:=acc) (h.AI hd) Ω Ω Ω Ω;rw[Xz,he,aV.H6 hv c _ (fun x hx=>hs x (nk _ hx)) Ω Ω Ω];simp only[sm];rw[h.rS hd];omega
theorem aV.acd(hv:∀ a∈p.az.l,a.via.l.length<=900){c:List Int}(hs:∀ d∈c,d∈aY p)(hl:c.length<=512):gq p c=h.bp.pQ c:=by have:=h.H6 hv c 0 hs Ω Ω hl;unfold gq Net.pQ;rw[this];omega
end
theorem xD{ins:Nat->Bool}{tw:Nat->Int}:∀ n,(fE ins tw n=-1/\∀ i,i<n->ins i=false)∨∃ k,k<n/\fE ins tw n=(k:Int)/\ins k=true/\∀ i,i<n->ins i=true->tw k<=tw i
 |0=>.inl ⟨rfl,fun i h=>by omega⟩
 |n+1=>by
  have e:fE ins tw (n+1)=if (ins n&&(decide (fE ins tw n<0)||decide (tw n<tw (fE ins tw n).toNat)))=true then(n:Int)else fE ins tw n:=rfl
  rcases xD (ins:=ins) (tw:=tw) n with⟨h1,h2⟩|⟨k,hk,h1,h2,h3⟩
  ·rw[h1]at e;cases hi:ins n
   ·rw[hi]at e;refine .inl ⟨e,fun i hi2=>?_⟩;by_cases hn:i=n
    ·rw[hn];exact hi
    ·exact h2 i Ω
   ·rw[hi]at e;refine .inr ⟨n,Ω,e,hi,fun i hi2 hx=>?_⟩;by_cases hn:i=n
    ·rw[hn];exact Fp _
    ·rw[h2 i Ω]at hx;cases hx
  ·rw[h1,decide_eq_false (show ¬ ((k:Int)<0) by omega),iS,Int.toNat_natCast]at e;by_cases c:(ins n&&decide (tw n<tw k))=true
   ·rw[bt c]at e;rw[gJ,jk]at c;refine .inr ⟨n,Ω,e,c.1,fun i hi2 hx=>?_⟩;by_cases hn:i=n
    ·rw[hn];exact Fp _
    ·have:=h3 i Ω hx;omega
   ·rw[bC c]at e;rw[gJ,jk]at c;refine .inr ⟨k,Ω,e,h2,fun i hi2 hx=>?_⟩;by_cases hn:i=n
    ·subst hn;have:¬ tw i<tw k:=fun h=>c ⟨hx,h⟩;omega
    ·exact h3 i Ω hx
def pE(p:Pn)(os:List (List Int))(q:Pt):Int:=match gp p os q with
 |0=>0
 |k+1=>qi p ((os[k]?).getD [])
def r9(p:Pn)(q:Pt)(f:Int):Prop:=(∃ c∈aW p,0<gq p c/\bU p c q=true/\(∀ c'∈aW p,0<gq p c'->bU p c' q=true->gq p c<=gq p c')/\f=qi p c)∨((∀ c∈aW p,0<gq p c->bU p c q=false)/\f=0)
theorem wR{p:Pn}{os:List (List Int)}(hos:∀ c,c∈os↔c∈aW p/\0<gq p c)(q:Pt):r9 p q (pE p os q):=by
 have fU:∀ i,i<os.length->∃ c,os[i]?=some c/\c∈os:=fun i hi=>⟨os[i],cK hi,gU hi⟩;rcases xD (ins:=fun i=>bU p ((os[i]?).getD []) q) (tw:=fun i=>gq p ((os[i]?).getD [])) os.length with⟨h1,h2⟩|⟨k,hk,h1,h2,h3⟩
 ·have e:gp p os q=0:=by unfold gp RV;rw[h1];rfl
  right;refine⟨fun c hc ht=>?_,by unfold pE;rw[e]⟩;obtain⟨i,hi⟩:=pY ((hos c).2 ⟨hc,ht⟩);have:=h2 i (cU.1 hi).1;simp only[hi,tE]at this;exact this
 ·have e:gp p os q=k+1:=by unfold gp RV;rw[h1];omega
  obtain⟨c,hc,hm⟩:=fU k hk;simp only[hc,tE]at h2 h3;left;refine⟨c,((hos c).1 hm).1,((hos c).1 hm).2,h2,fun c' ve ht' hi'=>?_,by unfold pE;rw[e];show qi p ((os[k]?).getD [])=qi p c;rw[hc];rfl⟩;obtain⟨i,hi⟩:=pY ((hos c').2 ⟨ve,ht'⟩);have:=h3 i (cU.1 hi).1;simp only[hi,tE]at this;exact this hi'
theorem F8{p:Pn}{c:List Int}:c∈bz p↔c∈aW p/\0<gq p c:=by rw[(yH p).mem_iff,tu,jk]
theorem Ma(p:Pn)(q:Pt):r9 p q (r8 p q):=wR (fun _=>F8) q
section
variable {p:Pn} (h:aV p) (hv:∀ a∈p.az.l,a.via.l.length<=900) (ha:p.az.l.length<=200)
include h
theorem aV.Bt{c:List Int}(hc:c∈aW p):∀ d∈c,d∈aY p:=by obtain⟨z,hz,rfl⟩:=aV.kJ hc;exact(h.mm hz).1.sub
include hv ha
theorem aV.xO{c:List Int}(hc:c∈aW p):gq p c=h.bp.pQ c:=h.acd hv (h.Bt hc) (h.qG ha c hc).1
theorem aV.uc{c:List Int}(hc:c∈aW p)(hpos:0<gq p c){a:Ac}(uJ:a∈p.az.l):bU p c (cF p a.fr).at'=bU p c (cF p a.to).at':=by rw[h.xO hv ha hc]at hpos;obtain⟨z,hz,rfl⟩:=aV.kJ hc;exact h.UO hz hc hpos uJ
theorem aV.L9{a:Ac}(uJ:a∈p.az.l){f:Int}(hf:r9 p (cF p a.to).at' f):r9 p (cF p a.fr).at' f:=by
 rcases hf with⟨c,h1,h2,h3,h4,h5⟩|⟨h1,h2⟩
 ·refine .inl ⟨c,h1,h2,(h.uc hv ha h1 h2 uJ).trans h3,fun c' g1 g2 g3=>h4 c' g1 g2 ((h.uc hv ha g1 g2 uJ).symm.trans g3),h5⟩
 ·exact .inr ⟨fun c g1 g2=>(h.uc hv ha g1 g2 uJ).trans (h1 c g1 g2),h2⟩
theorem aV.wQ{a:Ac}(uJ:a∈p.az.l){f g:Int}(hf:r9 p (cF p a.fr).at' f)(hg:r9 p (cF p a.fr).at' g):f=g:=by
 rcases hf with⟨c,h1,h2,h3,h4,h5⟩|⟨h1,h2⟩<;>rcases hg with⟨c',g1,g2,g3,g4,g5⟩|⟨g1,g2⟩
 ·have heq:gq p c=gq p c':=by have:=h4 c' g1 g2 g3;have:=g4 c h1 h2 h3;omega
  have key:∀(i j:Nat)(u v:List Int),i<j->(aW p)[i]?=some u->(aW p)[j]?=some v->0<gq p u->0<gq p v->bU p u (cF p a.fr).at'=true->bU p v (cF p a.fr).at'=true->gq p u=gq p v->False:=fun i j u v hij hu Nf p1 p2 i1 i2 e=>by have hap:=yk.1 h.Bs i j u v hij hu Nf;have mu:=j5 hu;have mv:=j5 Nf;rw[h.xO hv ha mu]at p1 e;rw[h.xO hv ha mv]at p2 e;obtain⟨z,hz,rfl⟩:=aV.kJ mu;obtain⟨w,hw,rfl⟩:=aV.kJ mv;exact h.EI hz mu p1 hw mv p2 hap uJ i1 i2 e
  obtain⟨i,hi⟩:=pY h1;obtain⟨j,hj⟩:=pY g1;rcases zl2 i j with hij|hij|hij
  ·exact(key i j c c' hij hi hj h2 g2 h3 g3 heq).elim
  ·subst hij;rw[hi]at hj;cases hj;rw[h5,g5]
  ·exact(key j i c' c hij hj hi g2 h2 g3 h3 heq.symm).elim
 ·rw[g1 c h1 h2]at h3;cases h3
 ·rw[h1 c' g1 g2]at g3;cases g3
 ·rw[h2,g2]
end
def eW(p:Pn)(c:List Int):Pt:=((eH p (dF ((c[0]?).getD 0)))[0]?).getD ⟨0,0⟩
structure Xp(p:Pn)(os:List (List Int)):Prop where
 outer:∀ c∈os,qi p c≠0/\cE p c (qi p c)=true
 GP:(os.map (qi p)).Nodup
 num:os.length=p.fs.l.length
 inner:∀ c∈aW p,gq p c<=0->cE p c (pE p os (eW p c))=true
section
variable {p:Pn} (h:aV p) (hv:∀ a∈p.az.l,a.via.l.length<=900) (ha:p.az.l.length<=200)
include h
theorem aV.head{c:List Int}(hc:c∈aW p):∃ a∈p.az.l,((c[0]?).getD 0=a.id∨(c[0]?).getD 0=-a.id)/\eW p c=(cF p a.fr).at'/\(startP p c=(cF p a.fr).at'∨startP p c=(cF p a.to).at'):=by
 obtain⟨z,hz,rfl⟩:=aV.kJ hc;have h0:=(h.mm hz).1.head;obtain⟨a,uJ,e⟩:=h.cW.1 (h.fk.1 hz);have hid:=h.pid a uJ;refine⟨a,uJ,by rw[h0];exact e,?_,?_⟩
 ·unfold eW;rw[h0];have aq:dF z=a.id:=by
   obtain⟨g1,_⟩:=XR (h.gd (h.fk.1 hz));have M9:jg z=-z:=(h.fT (h.fk.1 hz)).1;rcases g1 with⟨g1,g2⟩|⟨g1,g2⟩
   ·show dF z=a.id;omega
   ·show dF z=a.id;omega
  show(((eH p (dF z))[0]?).getD ⟨0,0⟩)=_;rw[aq,(h.nice.path uJ).2];rfl
 ·unfold startP;rw[h0];show((bJ p z)[0]?).getD ⟨0,0⟩=_∨((bJ p z)[0]?).getD ⟨0,0⟩=_;have h2:=zN (p:=p) (a:=a);rcases e with rfl|rfl
  ·left;rw[h.kH uJ];rfl
  ·right;rw[h.lN uJ,XN Ω,znu];have:=wv (p:=p) (a:=a);rw[mN]at this;exact this
theorem aV.KQ{d:Int}(hd:d∈aY p)(hn:e8 p d≠0):e8 p d∈p.fs.l:=by
 obtain⟨a,uJ,e⟩:=h.cW.1 (h.fk.1 hd);have hid:=h.pid a uJ;obtain⟨f1,f2⟩:=h.fac a uJ;have hA:gI p a.id=a:=by unfold gI;rw[show mH p a.id=some a from Zf h.nice.Nr uJ];rfl
 have key:∀ n,eD p n=true->n≠0->n∈p.fs.l:=fun n hn h0=>by
  unfold eD at hn;rw[nu,n9]at hn;rcases hn with hn|hn
  ·obtain⟨x,hx,e⟩:=rR.1 hn;rw[eq_of_beq e];exact hx
  ·exact absurd hn h0
 rcases e with rfl|rfl
 ·have e:e8 p a.id=a.l:=by unfold e8;rw[decide_eq_true (show 0<a.id by omega),bT,hA]
  rw[e]at hn ⊢;exact key _ f1 hn
 ·have e:e8 p (-a.id)=a.r:=by unfold e8;rw[decide_eq_false (show ¬ 0 < -a.id by omega),bL,h.ng2 uJ,decide_eq_true (show 0<a.id by omega),bT,hA]
  rw[e]at hn ⊢;exact key _ f2 hn
include hv ha
theorem aV.spec(hfs:p.fs.l.Pairwise (·<·)){os:List (List Int)}(hos:os.Perm ((aW p).filter fun c=>decide (0<gq p c))):Xp p os↔mI p:=by
 have hp:os.Perm (bz p):=hos.trans (yH p).symm;have hm:∀ c,c∈os↔c∈aW p/\0<gq p c:=fun c=>by rw[hos.mem_iff,tu,jk]
 have WJ:∀ c∈aW p,pE p os (eW p c)=r8 p (startP p c):=fun c hc=>by
  obtain⟨a,uJ,_,e1,e2⟩:=h.head hc;have f1:=wR hm (eW p c);have f2:=Ma p (startP p c);rw[e1]at f1 ⊢;rcases e2 with e2|e2
  ·rw[e2]at f2 ⊢;exact h.wQ hv ha uJ f1 f2
  ·rw[e2]at f2 ⊢;exact h.wQ hv ha uJ f1 (h.L9 hv ha uJ f2)
 have hsub:(∀ c∈os,qi p c≠0)->∀ f∈os.map (qi p),f∈p.fs.l:=fun h0 f hf=>by
  obtain⟨c,hc,rfl⟩:=jA.1 hf;have hcy:=((hm c).1 hc).1;obtain⟨z,hz,rfl⟩:=aV.kJ hcy;have e:qi p (bZ (bS p) (bW p) z)=e8 p z:=by unfold qi;rw[(h.mm hz).1.head];rfl
  have h0:=h0 _ hc;rw[e]at h0 ⊢;exact h.KQ hz h0
 have hfn:p.fs.l.Nodup:=hfs.imp fun{a b} aq e=>by omega
 constructor
 ·intro hs;have Wy:=hp.map (qi p);refine⟨fun c hc=>hs.outer c (hp.mem_iff.2 hc),Wy.nodup_iff.1 hs.GP,?_,fun c hc ht=>by rw[←WJ c hc];exact hs.inner c hc ht⟩;refine BD (AN _) hfs fun y=>?_;rw[I5,←Wy.mem_iff];refine⟨hsub (fun c hc=>(hs.outer c hc).1) y,fun hy=>?_⟩;by_cases hin:y∈os.map (qi p)
  ·exact hin
  ·exfalso;have hl:=(znr.2 ⟨hin,hs.GP⟩).length_le_of_subset (l₂:=p.fs.l) fun x hx=>by
    rcases fF.1 hx with rfl|hx
    ·exact hy
    ·exact hsub (fun c hc=>(hs.outer c hc).1) x hx
   rw[cu,ig,hs.num]at hl;omega
 ·intro hs;have Wy:=hp.map (qi p);refine⟨fun c hc=>hs.outer c (hp.mem_iff.1 hc),Wy.nodup_iff.2 hs.GP,?_,fun c hc ht=>by rw[WJ c hc];exact hs.inner c hc ht⟩;have h1:(B7 ((bz p).map (qi p))).Perm ((bz p).map (qi p)):=(VT ((AN _).imp fun{a b} aq e=>by omega) hs.GP).2 fun y=>I5;rw[hs.WW]at h1;rw[h1.length_eq,ig,hp.length_eq]
end
def Mo(a b q:Pt):Bool:=decide (a.y<=q.y)&&(decide (q.y<b.y)&&decide (0<fB a b q))
def Mn(a b q:Pt):Bool:=decide (b.y<=q.y)&&(decide (q.y<a.y)&&decide (fB a b q<0))
section
variable {S:cZ}
theorem UQ(hS:bN S){m D:Nat}{ah:bR}(hm:12<=m)(K:fP)(t:List IV)(a b q:Pt)(x1 x2:aO)(J:aU)(ja jb:Nat)(ha:J[ja]?=some (aI [aG aH a.x,aG aH a.y]))(hb:J[jb]?=some (aI [aG aH b.x,aG aH b.y]))
  (af:aN 56 t [(2,.ptrM D 0 0),(3,.ptrM D 1 0),(4,.ptrM D 2 0),(5,.ptrM D (ja+1+1+1) 0),(6,.ptrM D (jb+1+1+1) 0)])
  (hK:∀ t',aN 56 t' [(2,.ptrM D 0 0),(3,.ptrM D 1 0),(4,.ptrM D 2 0),(5,.ptrM D (ja+1+1+1) 0),(6,.ptrM D (jb+1+1+1) 0),(12,.bool (Mo a b q))]->K .normal ⟨t',aI [aG aH q.x,aG aH q.y]::x1::x2::(J++[.free])⟩) :
  Ex (aM aR S m) D ah m (i200.body.sub [1,0,1,1,0]) K ⟨t,aI [aG aH q.x,aG aH q.y]::x1::x2::J⟩:=by
 simp only[zb,zc]at af
 have fa:(J++[aO.free])[ja]?=some (aI [aG aH a.x,aG aH a.y]):=by rw[gT (cU.1 ha).1];exact ha
 have fb:(J++[aO.free])[jb]?=some (aI [aG aH b.x,aG aH b.y]):=by rw[gT (cU.1 hb).1];exact hb
 have c0:=BC hS a b q m Ω
 simp only[Pt.c,zg]at c0
 cases h1:decide (a.y<=q.y)
 ·simp only[i200,IC.sub,V0,seval,af,fa,h1]
  exact hK _ (by simp only[V0,seval,af,ew,Mo,h1])
 ·cases h2:decide (q.y<b.y)
  ·simp only[i200,IC.sub,V0,seval, *]
   exact hK _ (by simp only[V0,seval,af,ew,Mo,h1,h2])
  ·simp only[i200,IC.sub,V0,seval,eZ, *]
   exact hK _ (by simp only[V0,seval,af,Mo,h1,h2])
theorem UP(hS:bN S){m D:Nat}{ah:bR}(hm:12<=m)(K:fP)(t:List IV)(a b q:Pt)(x1 x2:aO)(J:aU)(ja jb:Nat)(ha:J[ja]?=some (aI [aG aH a.x,aG aH a.y]))(hb:J[jb]?=some (aI [aG aH b.x,aG aH b.y]))
  (af:aN 56 t [(2,.ptrM D 0 0),(3,.ptrM D 1 0),(4,.ptrM D 2 0),(5,.ptrM D (ja+1+1+1) 0),(6,.ptrM D (jb+1+1+1) 0)])
  (hK:∀ t',aN 56 t' [(2,.ptrM D 0 0),(3,.ptrM D 1 0),(4,.ptrM D 2 0),(5,.ptrM D (ja+1+1+1) 0),(6,.ptrM D (jb+1+1+1) 0),(34,.bool (Mn a b q))]->K .normal ⟨t',aI [aG aH q.x,aG aH q.y]::x1::x2::(J++[.free])⟩) :
  Ex (aM aR S m) D ah m (i200.body.sub [1,0,1,1,1,1,0]) K ⟨t,aI [aG aH q.x,aG aH q.y]::x1::x2::J⟩:=by
 simp only[zb,zc]at af
 have fa:(J++[aO.free])[ja]?=some (aI [aG aH a.x,aG aH a.y]):=by rw[gT (cU.1 ha).1];exact ha
 have fb:(J++[aO.free])[jb]?=some (aI [aG aH b.x,aG aH b.y]):=by rw[gT (cU.1 hb).1];exact hb
 have c0:=BC hS a b q m Ω
 simp only[Pt.c,zg]at c0
 cases h1:decide (b.y<=q.y)
 ·simp only[i200,IC.sub,V0,seval,af,fb,h1]
  exact hK _ (by simp only[V0,seval,af,ew,Mn,h1])
 ·cases h2:decide (q.y<a.y)
  ·simp only[i200,IC.sub,V0,seval, *]
   exact hK _ (by simp only[V0,seval,af,ew,Mn,h1,h2])
  ·simp only[i200,IC.sub,V0,seval, *]
   exact hK _ (by simp only[V0,seval,af,Mn,h1,h2])
theorem GJ(hS:bN S){m D:Nat}{ah:bR}(hm:16<=m)(a b q:Pt)(on nW:Bool)(J aK:aU):∃ J',∀ id,aM aR S m D ah aK (aI [aG aH q.x,aG aH q.y]::aI [.bool on]::aI [.bool nW]::J) id 200 [.agg [aG aH a.x,aG aH a.y],.agg [aG aH b.x,aG aH b.y],.ptrM D 0 0,.ptrM D 1 0,.ptrM D 2 0]=some (.x,.tuple [],aI [aG aH q.x,aG aH q.y]::aI [.bool (on||mZ a b q)]::aI [.bool (bif mZ a b q then nW else xor nW (Mo a b q||Mn a b q))]::J'):=by
 obtain⟨m,rfl⟩:=me m 1;have main:∃ v aX,(∀ id,aM aR S (m+1) D ah aK (aI [aG aH q.x,aG aH q.y]::aI [.bool on]::aI [.bool nW]::J) id 200 [.agg [aG aH a.x,aG aH a.y],.agg [aG aH b.x,aG aH b.y],.ptrM D 0 0,.ptrM D 1 0,.ptrM D 2 0]=some (.x,v,aX))/\(v=.tuple []/\∃ J',aX=aI [aG aH q.x,aG aH q.y]::aI [.bool (on||mZ a b q)]::aI [.bool (bif mZ a b q then nW else xor nW (Mo a b q||Mn a b q))]::J'):=by
  refine yU (i:=i200) (ns hS) rfl rfl (lb rfl) fun t af=>?_;simp only[V2,Xb,i200]at af;suffices kY:∀ K:fP,(∀ t' J',K .normal ⟨t',aI [aG aH q.x,aG aH q.y]::aI [.bool (on||mZ a b q)]::aI [.bool (bif mZ a b q then nW else xor nW (Mo a b q||Mn a b q))]::J'⟩)->Ex (aM aR S m) D ah m i200.body K ⟨t,aI [aG aH q.x,aG aH q.y]::aI [.bool on]::aI [.bool nW]::J⟩from kY _ fun t' J'=>by simp only[i200,ZV,TC];exact⟨_,rfl,rfl,_,rfl⟩
  intro K fin;have hA:=fun K t x1 x2 J ja jb ha hb af hK=>@UQ S hS m D ah Ω K t a b q x1 x2 J ja jb ha hb af hK;have hB:=fun K t x1 x2 J ja jb ha hb af hK=>@UP S hS m D ah Ω K t a b q x1 x2 J ja jb ha hb af hK;have c0:=JY hS a b q m Ω;simp only[Pt.c,zg]at c0;rw[show i200.body=.seq (i200.body.sub [0]) (.block 0 (.seq (i200.body.sub [1,0,0]) (.cond (.tmp 7) (i200.body.sub [1,0,1,0]) (.seq (i200.body.sub [1,0,1,1,0]) (.cond (.tmp 12) (i200.body.sub [1,0,1,1,1,0]) (.seq (i200.body.sub [1,0,1,1,1,1,0]) (i200.body.sub [1,0,1,1,1,1,1])))))))from rfl];generalize i200.body.sub [1,0,1,1,0]=TA at hA ⊢;generalize i200.body.sub [1,0,1,1,1,1,0]=TB at hB ⊢;have g0:∀(x:aO)(R:aU),(J++x::R)[J.length]?=some x:=fun x R=>by simp
  have g1:∀(x y:aO)(R:aU),(J++x::y::R)[J.length+1]?=some y:=fun x y R=>by simp
  have s0:∀(x y:aO)(R:aU),(J++x::R).set J.length y=J++y::R:=fun x y R=>by simp
  have s1:∀(x y z:aO)(R:aU),(J++x::y::R).set (J.length+1) z=J++x::z::R:=fun x y z R=>by simp
  have UE:∀ t' x y J',(on||mZ a b q)=x->(bif mZ a b q then nW else xor nW (Mo a b q||Mn a b q))=y->K .normal ⟨t',aI [aG aH q.x,aG aH q.y]::aI [.bool x]::aI [.bool y]::J'⟩:=fun t' x y J' h1 h2=>by subst h1;subst h2;exact fin t' J'
  cases tW:mZ a b q
  ·simp only[i200,IC.sub,V0,seval,s1, *];refine hA _ _ _ _ _ J.length (J.length+1) Ψ Ψ cD fun t' ht=>?_;clear af;simp only[zb,zc]at ht;cases hcA:Mo a b q
   ·rw[hcA]at ht;simp only[V0,seval,ht];refine hB _ _ _ _ _ J.length (J.length+1) Ψ Ψ cD fun t2 ht2=>?_;clear ht;simp only[zb,zc]at ht2;cases hcB:Mn a b q
    ·rw[hcB]at ht2;simp only[V0,seval,ht2];exact UE _ _ _ _ (by simp[tW]) (by simp[tW,hcA,hcB])
    ·rw[hcB]at ht2;simp only[V0,seval,ht2];exact UE _ _ _ _ (by simp[tW]) (by simp[tW,hcA,hcB])
   ·rw[hcA]at ht;simp only[V0,seval,ht];exact UE _ _ _ _ (by simp[tW]) (by simp[tW,hcA])
  ·simp only[i200,IC.sub,V0,seval,s1, *];exact UE _ _ _ _ (by simp[tW]) (by simp[tW])
 obtain⟨v,aX,h1,rfl,J',rfl⟩:=main;exact⟨J',h1⟩
end
section
variable {p:Pn} (h:aV p)
include h
theorem aV.rF{z:Int}(hz:z∈aY p):∃ a∈p.az.l,dF z=a.id/\((z=a.id/\0<z)∨(z=-a.id/\z<0))/\kZ p z=true/\dJ p (dF z)=true/\eH p (dF z)=bu p a:=by
 obtain⟨a,ha,e⟩:=h.cW.1 (h.fk.1 hz);have hid:=h.pid a ha;have aq:dF z=a.id:=by obtain⟨g1,_⟩:=XR (h.gd (h.fk.1 hz));have M9:jg z=-z:=(h.fT (h.fk.1 hz)).1;omega
 refine⟨a,ha,aq,Ω,?_,by rw[aq];exact(h.nice.path ha).1,by rw[aq];exact(h.nice.path ha).2⟩;unfold kZ;have e1:(z==0||z==-9223372036854775808)=false:=by rw[uQ,beq_eq_false_iff_ne,beq_eq_false_iff_ne];omega
 rw[e1,aq,show mH p a.id=some a from Zf h.nice.Nr ha];rfl
theorem aV.tI(hv:∀ a∈p.az.l,a.via.l.length<=900){d:Int}(hd:d∈aY p):-8000000000000000<=h.bp.lI d/\h.bp.lI d<=8000000000000000:=by have hp:=h.qY hd;have hf:=h.C7 hv hd;have hb:=zad (h.AI hd) ((bJ p d).length-1) Ω;have hb:-(8796093022208*(((bJ p d).length-1:Nat):Int))<=tH (bJ p d)/\tH (bJ p d)<=8796093022208*(((bJ p d).length-1:Nat):Int):=hb;rw[h.rS hd];omega
end
section
variable {S:cZ}
theorem FC(hS:bN S)(p:Pn)(h0:aV p)(hv:∀ a∈p.az.l,a.via.l.length<=900)(iz:bQ p)(c:aS 1 aL)(hcd:∀ z∈c.l,z∈aY p)(lY:c.l.length<=512):∃ N,∀ m,N<=m->∀ d ah aK aa id,aM aR S m d ah aK aa id 119 [.agg p.c,c.v]=some (.r,aG aH (h0.bp.pQ c.l),aa):=by
 obtain⟨N,hN⟩:=Fe c.l fun z _=>GU hS p iz z;refine⟨N+c.l.length+200000,fun m hm d ah aK aa id=>?_⟩;obtain⟨m,rfl⟩:=me m 2;have main:∃ v,aM aR S (m+1+1) d ah aK aa id 119 [.agg p.c,c.v]=some (.r,v,aa)/\v=aG aH (h0.bp.pQ c.l):=by
  refine ZG (i:=i119) (ns hS) rfl rfl (lb rfl) fun t af=>?_;simp only[V2,i119,Pn.c]at af;generalize(fun l=>if l=d then aK else ah l:bR)=cQ
  suffices kY:∀ K:fP,(∀ t' O,aN 84 t' [(4,aG aH (h0.bp.pQ c.l))]->K .ret ⟨t',O⟩)->Ex (aM aR S (m+1)) (d+1) cQ (m+1) i119.body K ⟨t,[]⟩from kY _ fun t' O ht=>by simp only[zb,zc]at ht;rw[yV];refine⟨aG aH (h0.bp.pQ c.l),aG aH (h0.bp.pQ c.l),?_,rfl,rfl⟩;simp only[i119,V0,seval,ht]
  intro K fin;have B9:=c.gC;have aq:∀ z:Int,(if aT .i64 (0-z)>z then aT .i64 (0-z)else z)=dF z:=fun _=>rfl
  have hb:decide ((512:Int)<(c.l.length:Int))=false:=decide_eq_false Ω;have d0:(0:Int)=sm h0.bp.lI (c.l.take 0):=by rw[xI];rfl
  simp only[i119,V0,seval,af,eZ,hb];refine ze (fun jj st=>∃(i:Nat)(n:Int)(J:aU),c.l.length-i<=jj/\i<=c.l.length/\n=sm h0.bp.lI (c.l.take i)/\st.aa=aI [p.ns.v,p.az.v,p.fs.v]::J/\aN 84 st.t [(1,c.v),(2,.ptrM (d+1) 0 0),(4,aG aH n),(16,c.v),(17,iv (c.l.length:Nat)),(18,iv i)]) c.l.length Ω ⟨0,0,[],Ω,Ω,d0,rfl,by simp only[V0,seval,af,eU]⟩ ?_;clear af;rintro jj ⟨t,aa⟩ KA ⟨i,n,J,hjj,hi,hn,ho,af⟩ bV cS dA;dsimp only at ho af;subst ho;simp only[V3]at af;by_cases h:i<c.l.length
  ·have hx:c.l[i]?=some c.l[i]:=cK h;have PD:=hcd _ (gU h);obtain⟨a,q',tU,ca,cp⟩:=hN _ (gU h) (m+1) Ω;generalize c.l[i]=z at hx ca cp tU PD;obtain⟨a0,ha0,haz,agw,hd,SG,hpl⟩:=h0.rF PD;have hrd:bM (c.l.flatMap aL) (i*1) 1=some [aG aH z]:=(zd zf 0 1 hx Ω).trans rfl;have hw:=zq i;simp only[Pn.c,Ac.c,zg]at ca cp;have hg:∀ k,J.length+(k+1)=J.length+k+1:=fun k=>rfl;have pU:=tU SG;rw[hpl]at pU;have jD:=zN (p:=p) (a:=a0);have hlf:(bu p a0).length<=902:=by have:=hv a0 ha0;unfold bu;rw[cu,eR,cu,dw];omega
   have sF:=h0.j7 ha0;rw[←pU]at jD hlf sF;have Ug:=q'.gC;have hw1:aT .i64 ((q'.l.length:Int)-1)=((q'.l.length-1:Nat):Int):=we;have hnb:=zf0 (f:=h0.bp.lI) (B:=8000000000000000) (l:=c.l.take i) fun x hx=>h0.tI hv (hcd x (zly hx));rw[k8,qu Ω,←hn]at hnb;have e0:(0:Int)=sm (fun j=>xe (q'.l.getD j gB) (q'.l.getD (j+1) gB)) (List.range 0):=rfl;simp only[V0,seval,af,h,za c h,hrd,ca,hd,aq,cp,SG,bT,show((0:Int) != 0)=false from rfl,hw1];refine ze (fun jj st=>∃(k:Nat)(s:Int)(J:aU),q'.l.length-1-k<=jj/\k<=q'.l.length-1/\s=sm (fun j=>xe (q'.l.getD j gB) (q'.l.getD (j+1) gB)) (List.range k)/\st.aa=aI [p.ns.v,p.az.v,p.fs.v]::J/\aN 84 st.t [(1,c.v),(2,.ptrM (d+1) 0 0),(4,aG aH n),(6,aG aH z),(9,q'.v),(11,aG aH s),(16,c.v),(17,iv (c.l.length:Nat)),(18,iv i),(43,iv (q'.l.length-1:Nat)),(44,iv k)]) (q'.l.length-1) Ω ⟨0,0,_,Ω,Ω,e0,rfl,by simp only[V0,seval,af,eU]⟩ ?_;clear af;rintro jj ⟨t,aa⟩ KB ⟨k,s,J,hjj2,hk,hs,ho,af⟩ jo lX mE;dsimp only at ho af;subst ho;simp only[V3]at af;have hsb:=zad sF k Ω;rw[←hs]at hsb;by_cases h2:k<q'.l.length-1
   ·have h3:k<q'.l.length:=Ω;have h4:k+1<q'.l.length:=Ω;have hx1:q'.l[k]?=some (q'.l.getD k gB):=by rw[mN,cK h3];rfl
    have hx2:q'.l[k+1]?=some (q'.l.getD (k+1) gB):=by rw[mN,cK h4];rfl
    have hsum:sm (fun j=>xe (q'.l.getD j gB) (q'.l.getD (j+1) gB)) (List.range (k+1))=s+xe (q'.l.getD k gB) (q'.l.getD (k+1) gB):=by rw[Xw,zC,←hs];simp only[sm];omega
    have n1:=sF _ (zL h3);have n2:=sF _ (zL h4);generalize q'.l.getD k gB=y1 at hx1 hsum n1;generalize q'.l.getD (k+1) gB=y2 at hx2 hsum n2;have r10:bM (q'.l.flatMap Pt.c) (k*2) 1=some [aG aH y1.x]:=(zd Pt.aZ 0 1 hx1 Ω).trans rfl;have r11:bM (q'.l.flatMap Pt.c) (k*2+1) 1=some [aG aH y1.y]:=(zd Pt.aZ 1 1 hx1 Ω).trans rfl;have r20:bM (q'.l.flatMap Pt.c) ((k+1)*2) 1=some [aG aH y2.x]:=(zd Pt.aZ 0 1 hx2 Ω).trans rfl;have r21:bM (q'.l.flatMap Pt.c) ((k+1)*2+1) 1=some [aG aH y2.y]:=(zd Pt.aZ 1 1 hx2 Ω).trans rfl;have hwk:=zq k;have hstep:aT .i64 (s+aT .i64 (aT .i64 (y1.x*y2.y)-aT .i64 (y2.x*y1.y)))=s+xe y1 y2:=by have cb:=xd n1 n2;obtain⟨q1,q2,q3,q4⟩:=n1;obtain⟨g1,g2,g3,g4⟩:=n2;obtain⟨m1,m2⟩:=YS (a:=y1.x) (b:=y2.y) (k:=2097152) Ω Ω Ω Ω;obtain⟨m3,m4⟩:=YS (a:=y2.x) (b:=y1.y) (k:=2097152) Ω Ω Ω Ω;unfold xe at cb ⊢;generalize y1.x*y2.y=u at *;generalize y2.x*y1.y=v at *;rw[zK (x:=u) Ω Ω,zK (x:=v) Ω Ω,zK (x:=u-v) Ω Ω,zK Ω Ω]
    simp only[V0,seval,af,h2,za q' h3,za q' h4,r10,r11,r20,r21,hwk];exact jo _ (q'.l.length-1-(k+1)) Ω ⟨k+1,aT .i64 (s+aT .i64 (aT .i64 (y1.x*y2.y)-aT .i64 (y2.x*y1.y))),_,Ω,Ω,by rw[hstep,hsum],rfl,by simp only[V0,seval,af]⟩
   ·simp only[V0,seval,af,h2];refine lX _ _ ?_;have hke:k=q'.l.length-1:=Ω;have hst:s=h0.bp.lI a0.id:=by rw[hs,hke,h0.rS (h0.fk.2 (h0.cW.2 ⟨a0,ha0,.inl rfl⟩)),h0.kH ha0,pU];rfl
    have sS:sm h0.bp.lI (c.l.take (i+1))=n+h0.bp.lI z:=by rw[lH,hx,rP,zC,←hn];simp only[sm];omega
    have htb:=h0.tI hv PD;have hid:=h0.pid a0 ha0;cases hz:decide (z<0)
    ·have LL:z=a0.id:=by have:=of_decide_eq_false hz;omega
     have hval:aT .i64 (n+s)=n+h0.bp.lI z:=by rw[hst,←LL];exact zD rfl Ω Ω
     simp only[V0,seval,af,hz,hw];exact bV _ (c.l.length-(i+1)) Ω ⟨i+1,aT .i64 (n+s),_,Ω,Ω,by rw[hval,sS],rfl,by simp only[V0,seval,af]⟩
    ·have LL:z=-a0.id:=by have:=of_decide_eq_true hz;omega
     have hneg:=h0.xP ha0;rw[←LL]at hneg;have hval:aT .i64 (n+aT .i64 (0-s))=n+h0.bp.lI z:=by rw[zK (x:=0-s) Ω Ω,show(0:Int)-s=h0.bp.lI z by omega];exact zD rfl Ω Ω
     simp only[V0,seval,af,hz,hw];exact bV _ (c.l.length-(i+1)) Ω ⟨i+1,aT .i64 (n+aT .i64 (0-s)),_,Ω,Ω,by rw[hval,sS],rfl,by simp only[V0,seval,af]⟩
  ·simp only[V0,seval,af,h];refine cS _ _ ?_;simp only[V0,seval,af];rw[gj Ω]at hn;have hn:n=h0.bp.pQ c.l:=hn;exact fin _ _ (by simp only[V0,seval,af,hn])
 obtain⟨v,h1,rfl⟩:=main;exact h1
end
theorem Ob{a b q:Pt}(ha:a.near)(hb:b.near)(hq:q.near):fB a b q=bif decide (0<tw a b q)then 1 else bif decide (tw a b q<0)then -1 else 0:=by
 have hall:[a,b,q].all bl=true:=by rw[qt,qt,qt,zI ha,zI hb,zI hq];rfl
 unfold fB X1;rw[hall,bT,XT (zI ha) (zI hb) (zI hq),←SC]
theorem aeh{a b q:Pt}(ha:a.near)(hb:b.near)(hq:q.near):(Mo a b q||Mn a b q)=fN a b q:=by
 rw[nU,zac ha hb hq];have hs:decide (0<fB a b q)=decide (0<tw a b q)/\decide (fB a b q<0)=decide (tw a b q<0):=by
  rw[Ob ha hb hq];by_cases h1:0<tw a b q
  ·have h2:¬ tw a b q<0:=Ω;simp[h1,h2]
  ·by_cases h2:tw a b q<0<;>simp[h1,h2]
 unfold Mo Mn;rw[hs.1,hs.2];simp only[nu,gJ,jk];omega
theorem aa0{a b q:Pt}(ha:a.near)(hb:b.near)(hq:q.near):mZ a b q=nC a b q:=by
 have hall:[a,b,q].all bl=true:=by rw[qt,qt,qt,zI ha,zI hb,zI hq];rfl
 unfold mZ nC;rw[hall,CC ha hb hq,XT (zI ha) (zI hb) (zI hq),←SC,pX];congr 1
def Sq(l:List Pt)(q:Pt)(on0 De:Bool)(k:Nat)(on nW:Bool):Prop:=on=(on0||oQ l q k)/\(on=false->nW=iU l q De k)
theorem Sq.step{l:List Pt}{q:Pt}{on0 De on nW:Bool}{k:Nat}(h:Sq l q on0 De k on nW){a b:Pt}(ha:l[k]?=some a)(hb:l[k+1]?=some b)(na:a.near)(nb:b.near)(nq:q.near):Sq l q on0 De (k+1) (on||mZ a b q) (bif mZ a b q then nW else xor nW (Mo a b q||Mn a b q)):=by
 obtain⟨h1,h2⟩:=h;have e1:oQ l q (k+1)=(oQ l q k||nC a b q):=by
  show(oQ l q k||match l[k]?,l[k+1]? with | some a,some b=>nC a b q | _,_=>false)=_
  rw[ha,hb]
 have e2:iU l q De (k+1)=xor (iU l q De k) (fN a b q):=by
  show(match l[k]?,l[k+1]? with|some a,some b=>xor (iU l q De k) (fN a b q)|_,_=>iU l q De k)=_
  rw[ha,hb]
 rw[aa0 na nb nq,aeh na nb nq];refine⟨by rw[e1,h1,Bool.or_assoc],fun h=>?_⟩;rw[uQ]at h;rw[h.2,bL,e2,h2 h.1]
theorem abu{a b:Bool}(h:b2 a%2=b2 b%2):a=b:=by cases a<;>cases b<;>first|rfl|(simp[b2]at h)
section
variable {p:Pn} (h:aV p)
include h
theorem aV.Pc{a:Ac}(ha:a∈p.az.l){d:Int}(hd:d=a.id∨d=-a.id){q:Pt}(hq:q.near)(o:Bool):mA (bJ p d) q o=mA (bu p a) q o:=by have h2:=zN (p:=p) (a:=a);have hl:2<=(bJ p d).length:=h.qY (h.fk.2 (h.cW.2 ⟨a,ha,hd⟩));refine abu ?_;rw[zf2 Ω,zf2 Ω,h.uk ha hd hq]
end
section
variable {S:cZ}
theorem GK(hS:bN S){m D:Nat}{ah:bR}(hm:16<=m)(a b q:Pt)(on nW:Bool)(J:aU):∃ J',∀ aK id,aM aR S m D ah aK (aI [aG aH q.x,aG aH q.y]::aI [.bool on]::aI [.bool nW]::J) id 200 [.agg [aG aH a.x,aG aH a.y],.agg [aG aH b.x,aG aH b.y],.ptrM D 0 0,.ptrM D 1 0,.ptrM D 2 0]=some (.x,.tuple [],aI [aG aH q.x,aG aH q.y]::aI [.bool (on||mZ a b q)]::aI [.bool (bif mZ a b q then nW else xor nW (Mo a b q||Mn a b q))]::J'):=by obtain⟨J',h⟩:=GJ (D:=D) (ah:=ah) hS hm a b q on nW J [];exact⟨J',fun aK id=>(yO (ns hS) rfl rfl).trans (h 0)⟩
theorem KV(hS:bN S)(p:Pn)(h0:aV p){m D:Nat}{ah:bR}(c:aS 1 aL)(hcd:∀ z∈c.l,z∈aY p)(L:List (Int×aS 2 Pt.c))(hL:uC p L)(B:Nat)(hB:∀ kv∈L,kv.2.l.length<=B)(hm:c.l.length+B+20<=m)(q:Pt)(hq:q.near)(J:aU):∃ on nW J',(on=(c.l.any fun z=>wg (bJ p z) q)/\(on=false->nW=c.l.foldl (fun o z=>mA (bJ p z) q o) false))/\∀ aK id,aM aR S m D ah aK (aI [aG aH q.x,aG aH q.y]::aI [.bool false]::aI [.bool false]::J) id 199 [.eF (gK L) (gR mY L),c.v,.fn 200 [] [.ptrM D 0 0,.ptrM D 1 0,.ptrM D 2 0]]=some (.x,.tuple [],aI [aG aH q.x,aG aH q.y]::aI [.bool on]::aI [.bool nW]::J'):=by
 obtain⟨m,rfl⟩:=me m 1;have main:∃ v aX,(∀ id,aM aR S (m+1) D ah [] (aI [aG aH q.x,aG aH q.y]::aI [.bool false]::aI [.bool false]::J) id 199 [.eF (gK L) (gR mY L),c.v,.fn 200 [] [.ptrM D 0 0,.ptrM D 1 0,.ptrM D 2 0]]=some (.x,v,aX))/\(v=.tuple []/\∃ on nW J',(on=(c.l.any fun z=>wg (bJ p z) q)/\(on=false->nW=c.l.foldl (fun o z=>mA (bJ p z) q o) false))/\aX=aI [aG aH q.x,aG aH q.y]::aI [.bool on]::aI [.bool nW]::J'):=by
  refine yU (i:=i199) (ns hS) rfl rfl (lb rfl) fun t af=>?_;simp only[V2,Xb,i199]at af;have B9:=c.gC;have aq:∀ z:Int,(if aT .i64 (0-z)>z then aT .i64 (0-z)else z)=dF z:=fun _=>rfl
  simp only[i199,V0,seval,af];refine ze (fun jj st=>∃(i:Nat)(on nW:Bool)(J:aU),c.l.length-i<=jj/\i<=c.l.length/\(on=((c.l.take i).any fun z=>wg (bJ p z) q)/\(on=false->nW=(c.l.take i).foldl (fun o z=>mA (bJ p z) q o) false))/\st.aa=aI [aG aH q.x,aG aH q.y]::aI [.bool on]::aI [.bool nW]::J/\aN 40 st.t [(0,.eF (gK L) (gR mY L)),(2,.fn 200 [] [.ptrM D 0 0,.ptrM D 1 0,.ptrM D 2 0]),(10,c.v),(11,iv (c.l.length:Nat)),(12,iv i)]) c.l.length Ω ⟨0,false,false,J,Ω,Ω,by rw[xI];exact⟨rfl,fun _=>rfl⟩,rfl,by simp only[V0,seval,af,eU]⟩ ?_;clear af;rintro jj ⟨t,aa⟩ KA ⟨i,on,nW,J,hjj,hi,hE,ho,af⟩ bV cS dA;dsimp only at ho af;subst ho;simp only[V3]at af;by_cases h:i<c.l.length
  ·have hx:c.l[i]?=some c.l[i]:=cK h;have PD:=hcd _ (gU h);generalize c.l[i]=z at hx PD;obtain⟨a0,ha0,haz,agw,_,SG,hpl⟩:=h0.rF PD;have hrd:bM (c.l.flatMap aL) (i*1) 1=some [aG aH z]:=(zd zf 0 1 hx Ω).trans rfl;have hw:=zq i;have UM:∀(C:Call)(n0:Nat)(aK aa:aU)(t:List IV)(a b:bG),ρ t a=.eF (gK L) (gR mY L)->ρ t b=aG aH (dF z)->cH C D ah n0 aK aa t (.lookup .nilsl (false,[1]) false a b)=some (.p,(kS rY L (dF z)).v,aa):=fun C n0 aK aa t a b h1 h2=>Ei (u:=mY) rY (dF z) rfl h1 h2;have hpB:(kS rY L (dF z)).l.length<=B:=by
    rcases TX (z:=rY) (L:=L) (id:=dF z)with h|h
    ·rw[h];exact NA _
    ·obtain⟨kv,hkv,he⟩:=jA.1 h;rw[←he];exact hB kv hkv
   have Ui:(kS rY L (dF z)).l=bu p a0:=by rw[haz];exact(hL a0 ha0).trans (h0.nice.path ha0).2
   generalize kS rY L (dF z)=pa at UM hpB Ui;have hpf:=pa.gC;have sF:=h0.j7 ha0;have h2l:=zN (p:=p) (a:=a0);rw[←Ui]at sF h2l;have hEs:Sq pa.l q on nW 0 on nW:=⟨by simp[oQ],fun _=>rfl⟩;simp only[V0,seval,af,h,za c h,hrd,aq,UM];refine ze (fun jj st=>∃(k:Nat)(on' u0:Bool)(J:aU),pa.l.length+1-k<=jj/\1<=k/\k<=pa.l.length/\Sq pa.l q on nW (k-1) on' u0/\st.aa=aI [aG aH q.x,aG aH q.y]::aI [.bool on']::aI [.bool u0]::J/\aN 40 st.t [(0,.eF (gK L) (gR mY L)),(2,.fn 200 [] [.ptrM D 0 0,.ptrM D 1 0,.ptrM D 2 0]),(8,pa.v),(9,iv k),(10,c.v),(11,iv (c.l.length:Nat)),(12,iv i)]) (pa.l.length+1) Ω ⟨1,on,nW,J,Ω,Ω,Ω,hEs,rfl,by simp only[V0,seval,af,Xx]⟩ ?_;clear af;rintro jj ⟨t,aa⟩ KB ⟨k,on',u0,J,hjj2,hk1,hk,hEn,ho,af⟩ jo lX mE;dsimp only at ho af;subst ho;simp only[V3]at af;by_cases h2:k<pa.l.length
   ·have h3:k-1<pa.l.length:=Ω;have hx1:pa.l[k-1]?=some pa.l[k-1]:=cK h3;have hx2:pa.l[k]?=some pa.l[k]:=cK h2;have n1:=sF _ (gU h3);have n2:=sF _ (gU h2);generalize pa.l[k-1]=y1 at hx1 n1;generalize pa.l[k]=y2 at hx2 n2;have r1:bM (pa.l.flatMap Pt.c) ((k-1)*2) 2=some [aG aH y1.x,aG aH y1.y]:=(zd Pt.aZ 0 2 hx1 Ω).trans rfl;have r2:bM (pa.l.flatMap Pt.c) (k*2) 2=some [aG aH y2.x,aG aH y2.y]:=(zd Pt.aZ 0 2 hx2 Ω).trans rfl;have hwk:=zq k;have PF:aT .i64 ((k:Int)-1)=((k-1:Nat):Int):=we;obtain⟨J',hc⟩:=GK (D:=D) (ah:=ah) hS (m:=m) Ω y1 y2 q on' u0 (J++[.free]);have hst:=hEn.step hx1 (by rw[show k-1+1=k by omega];exact hx2) n1 n2 hq;rw[show k-1+1=k+1-1 by omega]at hst;simp only[V0,seval,af,h2,za pa h2,za pa h3,r1,r2,PF,hc,hwk];exact jo _ (pa.l.length+1-(k+1)) Ω ⟨k+1,_,_,J',Ω,Ω,Ω,hst,rfl,cD⟩
   ·simp only[V0,seval,af,h2];refine lX _ _ ?_;simp only[V0,seval,af,hw];refine bV _ (c.l.length-(i+1)) Ω ⟨i+1,on',u0,J,Ω,Ω,?_,rfl,cD⟩;have hke:k=pa.l.length:=Ω;rw[hke]at hEn;obtain⟨g1,g2⟩:=hEn;have hzz:z=a0.id∨z=-a0.id:=Ω;have o1:wg (bJ p z) q=oQ pa.l q (pa.l.length-1):=by rw[h0.AM ha0 hzz hq,Ui];rfl
    have o2:∀ o,mA (bJ p z) q o=iU pa.l q o (pa.l.length-1):=fun o=>by rw[h0.Pc ha0 hzz hq,Ui];rfl
    have sS:c.l.take (i+1)=c.l.take i++[z]:=by rw[lH,hx];rfl
    rw[sS,SR,zmo];simp only[Xv,List.any_nil,M5,Xz,List.foldl_nil];rw[o1,o2,←hE.1];refine⟨g1,fun hf=>?_⟩;have tW:on=false:=by rw[hf]at g1;have:=(uQ.1 g1.symm).1;exact this
    rw[g2 hf,←hE.2 tW]
  ·simp only[V0,seval,af,h];refine cS _ _ ?_;simp only[V0,seval,ZV,TC];rw[gj Ω]at hE;exact⟨_,rfl,rfl,on,nW,J,hE,rfl⟩
 obtain⟨v,aX,h1,rfl,on',u0,J',hE,rfl⟩:=main;exact⟨on',u0,J',hE,fun aK id=>(yO (ns hS) rfl rfl).trans (h1 0)⟩
theorem Mb(hS:bN S)(p:Pn)(h0:aV p)(c:aS 1 aL)(hcd:∀ z∈c.l,z∈aY p)(L:List (Int×aS 2 Pt.c))(hL:uC p L)(q:Pt)(hq:q.near):∃ N,∀ m,N<=m->∀ d ah aK aa id,aM aR S m d ah aK aa id 157 [.eF (gK L) (gR mY L),c.v,.agg q.c]=some (.r,.bool (bU p c.l q),aa):=by
 obtain⟨B,hB⟩:=vZ L;refine⟨c.l.length+B+30,fun m hm d ah aK aa id=>?_⟩;obtain⟨m,rfl⟩:=me m 2;have main:∃ v,aM aR S (m+1+1) d ah aK aa id 157 [.eF (gK L) (gR mY L),c.v,.agg q.c]=some (.r,v,aa)/\v=.bool (bU p c.l q):=by
  refine ZG (i:=i157) (ns hS) rfl rfl (lb rfl) fun t af=>?_;simp only[V2,Xb,i157,Pt.c,zg]at af;generalize(fun l=>if l=d then aK else ah l:bR)=cQ
  suffices kY:∀ K:fP,(∀ t' O (b:Bool),b=bU p c.l q->aN 18 t' [(6,.bool b)]->K .ret ⟨t',O⟩)->Ex (aM aR S (m+1)) (d+1) cQ (m+1) i157.body K ⟨t,[]⟩from kY _ fun t' O b hb ht=>by simp only[zb,zc]at ht;rw[yV];refine⟨.bool b,.bool b,?_,rfl,by rw[hb]⟩;simp only[i157,V0,seval,ht]
  intro K fin;obtain⟨on',u0,J',⟨hE1,hE2⟩,hc⟩:=KV (D:=d+1) (ah:=cQ) hS p h0 (m:=m+1) c hcd L hL B hB Ω q hq [.free];have hin:bU p c.l q=(!on'&&u0):=by
   unfold bU;rw[←hE1];cases on'
   ·rw[←hE2 rfl]
   ·rfl
  cases u0
  ·simp only[i157,V0,seval,af,hc];exact fin _ _ false (by rw[hin,l8]) cD
  ·simp only[i157,V0,seval,af,hc];exact fin _ _ (!on') (by rw[hin,Kn]) cD
 obtain⟨v,h1,rfl⟩:=main;exact h1
end
def uM(p:Pn)(A:List jF)(q:Pt):Nat:=(1+fE (fun i=>bU p (((A[i+1]?).map fun a=>a.oc.l).getD []) q) (fun i=>((A[i+1]?).map jF.tw).getD 0) (A.length-1)).toNat
theorem Qt{p:Pn}{A:List jF}{q:Pt}(h:A≠[]):uM p A q<A.length:=by have h1:=Y8 (ins:=fun i=>bU p (((A[i+1]?).map fun a=>a.oc.l).getD []) q) (tw:=fun i=>((A[i+1]?).map jF.tw).getD 0) (A.length-1);have h2:0<A.length:=XK.2 h;unfold uM;omega
section
variable {S:cZ}
theorem L5(hS:bN S)(p:Pn)(hg:aV p)(U:List (aS 1 aL))(hUd:∀ c∈U,∀ z∈c.l,z∈aY p)(L:List (Int×aS 2 Pt.c))(hL:uC p L)(q:Pt)(hq:q.near):∃ N,∀(A:List jF) m,N+A.length<=m->A≠[]->A.length<=1000000->(∀ a∈A,a.oc∈U)->∀ D ah aK aa id b,aK[b]?=some (aI (A.flatMap jx)) ->
  aM aR S m D ah aK aa id 120 [.eF (gK L) (gR mY L),.slM D b 0 A.length A.length 4 false,.agg q.c]=some (.r,aG aH (uM p A q:Nat),aa):=by
 have lR:∀ c∈U,∃ N,∀ m,N<=m->∀ d ah aK aa id,aM aR S m d ah aK aa id 157 [.eF (gK L) (gR mY L),c.v,.agg q.c]=some (.r,.bool (bU p c.l q),aa):=fun c hc=>by exact Mb hS p hg c (hUd c hc) L hL q hq
 obtain⟨N,hN⟩:=Fe U lR
 refine⟨N+10,fun A m hm hA0 hAl hAU d ah aK aa id b hb=>?_⟩
 obtain⟨m,rfl⟩:=me m 2
 have hA1:1<=A.length:=by
  cases A with
  |nil=>exact absurd rfl hA0
  |cons _ _=>simp
 have main:∃ v,aM aR S (m+1+1) d ah aK aa id 120 [.eF (gK L) (gR mY L),.slM d b 0 A.length A.length 4 false,.agg q.c]=some (.r,v,aa)/\v=aG aH (uM p A q:Nat):=by
  refine ZG (i:=i120) (ns hS) rfl rfl (lb rfl) fun t af=>?_;simp only[V2,Xb,i120,Pt.c,zg]at af;have A7:(fun l=>if l=d then aK else ah l:bR) d=aK:=bt rfl
  generalize(fun l=>if l=d then aK else ah l:bR)=cQ at A7
  suffices kY:∀ K:fP,(∀ t' O,aN 42 t' [(6,iv (uM p A q:Nat))]->K .ret ⟨t',O⟩)->Ex (aM aR S (m+1)) (d+1) cQ (m+1) i120.body K ⟨t,[]⟩from kY _ fun t' O ht=>by simp only[zb,zc]at ht;rw[yV];refine⟨iv (uM p A q:Nat),iv (uM p A q:Nat),?_,rfl,rfl⟩;simp only[i120,V0,seval,ht]
  intro K fin;generalize hins:(fun i=>bU p (((A[i+1]?).map fun a=>a.oc.l).getD []) q)=ins;generalize adl:(fun i=>((A[i+1]?).map jF.tw).getD 0)=xN;have Jv:uM p A q=(1+fE ins xN (A.length-1)).toNat:=by rw[←hins,←adl];rfl
  have e1:(d=d+1)=False:=eq_false Ω;have e2:(d<d+1)=True:=eq_true Ω;simp only[i120,V0,seval,af];refine ze (fun jj st=>∃(i best:Nat)(J:aU),A.length-i<=jj/\1<=i/\i<=A.length/\(best:Int)=1+fE ins xN (i-1)/\st.aa=aI [aG aH q.x,aG aH q.y]::J/\aN 42 st.t [(0,.eF (gK L) (gR mY L)),(1,.slM d b 0 A.length A.length 4 false),(5,.ptrM (d+1) 0 0),(7,iv best),(8,iv i)]) A.length Ω ⟨1,0,[],Ω,Ω,Ω,by simp[fE],rfl,by simp only[V0,seval,af,eU,Xx]⟩ ?_;clear af;rintro jj ⟨t,aa⟩ KA ⟨i,best,J,hjj,hi1,hi,hbx,ho,af⟩ bV cS dA;dsimp only at ho af;subst ho;simp only[V3]at af;have ahw:=Y8 (ins:=ins) (tw:=xN) (i-1);have WM:best<A.length:=Ω;by_cases h:i<A.length
  ·have hx:A[i]?=some A[i]:=cK h;have hc:=hN _ (hAU _ (gU h)) (m+1) Ω;generalize A[i]=x at hx hc;obtain⟨y,hx2⟩:=gx (l:=A) (i:=best) WM;have hstep:fE ins xN (i-1+1)=if (bU p x.oc.l q&&(((best:Int)==0)||decide (x.tw<y.tw)))=true then((i-1:Nat):Int)else fE ins xN (i-1):=by
    have g1:ins (i-1)=bU p x.oc.l q:=by rw[←hins];show bU p (((A[i-1+1]?).map fun a=>a.oc.l).getD []) q=_;rw[show i-1+1=i by omega,hx];rfl
    have g2:xN (i-1)=x.tw:=by rw[←adl];show((A[i-1+1]?).map jF.tw).getD 0=_;rw[show i-1+1=i by omega,hx];rfl
    show(if (ins (i-1)&&(decide (fE ins xN (i-1)<0)||decide (xN (i-1)<xN (fE ins xN (i-1)).toNat)))=true then((i-1:Nat):Int)else fE ins xN (i-1))=_
    rw[g1,g2];by_cases hb0:best=0
    ·have c1:decide (fE ins xN (i-1)<0)=true:=decide_eq_true Ω;have c2:((best:Int)==0)=true:=by rw[hb0];rfl
     rw[c1,c2,iY,iY]
    ·have c1:decide (fE ins xN (i-1)<0)=false:=decide_eq_false Ω;have c2:((best:Int)==0)=false:=by rw[beq_eq_false_iff_ne];omega
     have g3:xN (fE ins xN (i-1)).toNat=y.tw:=by rw[show(fE ins xN (i-1)).toNat=best-1 by omega,←adl];show((A[best-1+1]?).map jF.tw).getD 0=_;rw[show best-1+1=best by omega,hx2];rfl
     rw[c1,c2,g3]
   have hsame:bU p x.oc.l q=false∨(((best:Int)==0)=false/\decide (x.tw<y.tw)=false)->(best:Int)=1+fE ins xN (i+1-1):=fun hh=>by
    rw[show i+1-1=i-1+1 by omega,hstep];rcases hh with hh|⟨h1,h2⟩
    ·rw[hh,ew,bC Δ];exact hbx
    ·rw[h1,h2,M5,l8,bC Δ];exact hbx
   have PV:bU p x.oc.l q=true->(((best:Int)==0)=true∨decide (x.tw<y.tw)=true)->(i:Int)=1+fE ins xN (i+1-1):=fun h1 h2=>by rw[show i+1-1=i-1+1 by omega,hstep,h1,pX,bt (by rw[nu];exact h2)];omega
   simp only[Pt.c,zg]at hc;have r0:bM (A.flatMap jx) (i*4) 1=some [aG aH x.tw]:=(zd ye 0 1 hx Ω).trans rfl;have r1:bM (A.flatMap jx) (i*4+1) 1=some [x.oc.v]:=(zd ye 1 1 hx Ω).trans rfl;have r2:bM (A.flatMap jx) (best*4) 1=some [aG aH y.tw]:=(zd ye 0 1 hx2 Ω).trans rfl;have i1:∀ aa,dD aa 4 (.slM d b 0 A.length A.length 4 false) (aG aH (i:Int))=some (.p,.ptrM d b (i*4),aa):=fun aa=>by have:=zm (aa:=aa) (l:=d) (b:=b) (off:=0) (cap:=A.length) (z:=4) (z':=4) (tight:=false) (k:=.i64) h;rw[fO]at this;exact this
   have i2:∀ aa,dD aa 4 (.slM d b 0 A.length A.length 4 false) (aG aH (best:Int))=some (.p,.ptrM d b (best*4),aa):=fun aa=>by have:=zm (aa:=aa) (l:=d) (b:=b) (off:=0) (cap:=A.length) (z:=4) (z':=4) (tight:=false) (k:=.i64) WM;rw[fO]at this;exact this
   have hw:=zq i;have hnext:∀ t' O (JV:Nat),(JV:Int)=1+fE ins xN (i+1-1)->aN 42 t' [(0,.eF (gK L) (gR mY L)),(1,.slM d b 0 A.length A.length 4 false),(5,.ptrM (d+1) 0 0),(7,iv JV),(8,iv (i+1:Nat))]->KA .normal ⟨t',aI [aG aH q.x,aG aH q.y]::O⟩:=fun t' O JV hb' ht=>bV _ (A.length-(i+1)) Ω ⟨i+1,JV,O,Ω,Ω,Ω,hb',rfl,ht⟩;cases h0:((best:Int)==0)
   ·cases ht:decide (x.tw<y.tw)
    ·simp only[V0,seval,af,h,i1,i2,r0,r2,e1,e2,A7,hb,h0,ht,hw];exact hnext _ _ best (hsame (.inr ⟨h0,ht⟩)) cD
    ·cases oq:bU p x.oc.l q
     ·rw[oq]at hc;simp only[V0,seval,af,h,i1,i2,r0,r1,r2,e1,e2,A7,hb,hc,h0,ht,hw];exact hnext _ _ best (hsame (.inl oq)) cD
     ·rw[oq]at hc;simp only[V0,seval,af,h,i1,i2,r0,r1,r2,e1,e2,A7,hb,hc,h0,ht,hw];exact hnext _ _ i (PV oq (.inr ht)) cD
   ·cases oq:bU p x.oc.l q
    ·rw[oq]at hc;simp only[V0,seval,af,h,i1,r1,e1,e2,A7,hb,hc,h0,hw];exact hnext _ _ best (hsame (.inl oq)) cD
    ·rw[oq]at hc;simp only[V0,seval,af,h,i1,r1,e1,e2,A7,hb,hc,h0,hw];exact hnext _ _ i (PV oq (.inl h0)) cD
  ·simp only[V0,seval,af,h];refine cS _ _ ?_;simp only[V0,seval,af];have hie:i=A.length:=Ω;have hbf:best=uM p A q:=by rw[Jv,←hie];omega
   exact fin _ _ cD
 obtain⟨v,h1,rfl⟩:=main
 exact h1
end
def p6(a:jF):Int×aS 1 aL×List (aS 1 aL):=(a.tw,a.oc,a.ic)
def qX(a:jF):Int×aS 1 aL:=(a.tw,a.oc)
theorem zf3{ins ins':Nat->Bool}{tw SE:Nat->Int}:∀ n,(∀ i,i<n->ins i=ins' i/\tw i=SE i)->fE ins tw n=fE ins' SE n
 |0,_=>rfl
 |n+1,h=>by
  have ih:=zf3 n fun i hi=>h i Ω;obtain⟨h1,h2⟩:=h n Ω;show(if (ins n&&(decide (fE ins tw n<0)||decide (tw n<tw (fE ins tw n).toNat)))=true then(n:Int)else fE ins tw n)=(if (ins' n&&(decide (fE ins' SE n<0)||decide (SE n<SE (fE ins' SE n).toNat)))=true then(n:Int)else fE ins' SE n)
  rw[ih,h1,h2];have hle:=Y8 (ins:=ins') (tw:=SE) n;by_cases hneg:fE ins' SE n<0
  ·rw[decide_eq_true hneg,iY,iY]
  ·rw[(h (fE ins' SE n).toNat Ω).2]
theorem wP{p:Pn}{A A':List jF}{q:Pt}(h:A.map qX=A'.map qX):uM p A q=uM p A' q:=by
 have hl:A.length=A'.length:=by have:=ep List.length h;simpa using this
 have hg:∀ i,(A[i]?).map qX=(A'[i]?).map qX:=fun i=>by rw[←k9,←k9,h]
 have h1:∀ i,(A[i]?).map (fun a:jF=>a.oc.l)=(A'[i]?).map (fun a:jF=>a.oc.l):=fun i=>by have:=ep (Option.map fun x:Int×aS 1 aL=>x.2.l) (hg i);rw[jv,jv]at this;exact this
 have h2:∀ i,(A[i]?).map jF.tw=(A'[i]?).map jF.tw:=fun i=>by have:=ep (Option.map fun x:Int×aS 1 aL=>x.1) (hg i);rw[jv,jv]at this;exact this
 unfold uM;simp only[hl,h1,h2]
theorem Tf{A:List jF}{k:Nat}{a:jF}{Nq:IV}{al2:List Int}(ha:A[k]?=some a):(A.set k { a with av:=Nq,al:=al2 }).map p6=A.map p6:=by
 obtain⟨hl,rfl⟩:=cU.1 ha;refine E8 fun j=>?_;rw[k9,k9];by_cases hj:k=j
 ·subst hj;rw[oa hl,ha];rfl
 ·rw[nr hj]
theorem Tg{A A':List jF}(h:A.map p6=A'.map p6):A.map qX=A'.map qX:=by have:=ep (List.map fun x:Int×aS 1 aL×List (aS 1 aL)=>(x.1,x.2.1)) h;rw[SN,SN]at this;exact this
def pO(T:aS 1 aL->Int)(l:List (aS 1 aL))(A:List jF)(rc:List (aS 1 aL)):Prop:=A.map p6=(0,lQ,[])::(l.filter fun c=>decide (0<T c)).map (fun c=>(T c,c,[]))/\rc=l.filter fun c=>!decide (0<T c)
theorem pO.zero{T:aS 1 aL->Int}:pO T [] [⟨0,lQ,.nilsl,[],.nilsl,[]⟩] []:=⟨rfl,rfl⟩
theorem pO.inner{T:aS 1 aL->Int}{l:List (aS 1 aL)}{A:List jF}{rc:List (aS 1 aL)}(h:pO T l A rc){c:aS 1 aL}(hc:¬ 0<T c):pO T (l++[c]) A (rc++[c]):=by unfold pO;rw[E9,E9,h.1,h.2];simp[hc]
theorem pO.outer{T:aS 1 aL->Int}{l:List (aS 1 aL)}{A:List jF}{rc:List (aS 1 aL)}(h:pO T l A rc){c:aS 1 aL}(hc:0<T c):pO T (l++[c]) (A++[⟨T c,c,.nilsl,[],.nilsl,[]⟩]) rc:=by unfold pO;rw[E9,E9,E6,h.1,h.2];simp[hc,p6]
def E5(p:Pn)(A0:List jF)(l:List (aS 1 aL))(A:List jF):Prop:=A.map qX=A0.map qX/\∀ k a,A[k]?=some a->a.ic=l.filter fun c=>uM p A0 (eW p c.l)==k
theorem pO.start{p:Pn}{T:aS 1 aL->Int}{l:List (aS 1 aL)}{A:List jF}{rc:List (aS 1 aL)}(h:pO T l A rc):E5 p A [] A:=⟨rfl,fun k a ha=>by
 have h1:(A.map p6)[k]?=some (p6 a):=by rw[k9,ha];rfl
 have hm:=j5 h1;rw[h.1]at hm;rcases fF.1 hm with e|hm
 ·exact ep (fun x=>x.2.2) e
 ·obtain⟨c,_,e⟩:=jA.1 hm;exact (ep (fun x=>x.2.2) e).symm⟩
theorem E5.step{p:Pn}{A0 A:List jF}{l:List (aS 1 aL)}(h:E5 p A0 l A){c:aS 1 aL}{k:Nat}{a:jF}{M8:IV}(ha:A[k]?=some a)(hk:k=uM p A (eW p c.l)):E5 p A0 (l++[c]) (A.set k { a with iv:=M8,ic:=a.ic++[c] }):=by
 obtain⟨hl,_⟩:=cU.1 ha;rw[wP h.1]at hk;refine⟨?_,fun j x hx=>?_⟩
 ·rw[←h.1];refine E8 fun j=>?_;rw[k9,k9];by_cases hj:k=j
  ·subst hj;rw[oa hl,ha];rfl
  ·rw[nr hj]
 ·rw[E9];by_cases hj:k=j
  ·subst hj;rw[oa hl]at hx;cases hx;rw[h.2 k a ha];simp[←hk]
  ·rw[nr hj]at hx;rw[h.2 j x hx];have:(uM p A0 (eW p c.l)==j)=false:=by rw[beq_eq_false_iff_ne,←hk];exact hj
   simp[this]
structure Ke(p:Pn)(As:List Ar):Prop where
 len:As.length=((aW p).filter fun c=>decide (0<gq p c)).length+1
 el:∀ i a,As[i]?=some a->(i=0->a.tw=0)/\a.oc.l=ocR ((aW p).filter fun c=>decide (0<gq p c)) i/\a.ic.l.map (·.l)=((aW p).filter fun c=>decide (gq p c<=0)&&gp p ((aW p).filter fun c=>decide (0<gq p c)) (eW p c)==i)
structure MZ(p:Pn)(N:Net)(cs:List (aS 1 aL))(A:List jF):Prop where
 shape:A.map qX=(0,lQ)::(cs.filter fun c=>decide (0<N.pQ c.l)).map (fun c=>(N.pQ c.l,c))
 inner:∀ k a,A[k]?=some a->a.ic=(cs.filter fun c=>!decide (0<N.pQ c.l)).filter fun c=>uM p A (eW p c.l)==k
theorem MZ.of{p:Pn}{N:Net}{cs:List (aS 1 aL)}{A1 A2 A3:List jF}{rc:List (aS 1 aL)}(h1:pO (fun c=>N.pQ c.l) cs A1 rc)(h2:E5 p A1 rc A2)(h3:A3.map p6=A2.map p6):MZ p N cs A3:=by
 have e1:A3.map qX=A1.map qX:=(Tg h3).trans h2.1;have e2:A1.map qX=(0,lQ)::(cs.filter fun c=>decide (0<N.pQ c.l)).map (fun c=>(N.pQ c.l,c)):=by have:=ep (List.map fun x:Int×aS 1 aL×List (aS 1 aL)=>(x.1,x.2.1)) h1.1;rw[SN,nK,SN]at this;exact this
 refine⟨e1.trans e2,fun k a ha=>?_⟩;have hm:(A2.map p6)[k]?=some (p6 a):=by rw[←h3,k9,ha];rfl
 rw[k9]at hm;cases hk:A2[k]? with
 |none=>rw[hk]at hm;cases hm
 |some b =>
  rw[hk]at hm
  have hb:b.ic=a.ic:=ep (fun x:Int×aS 1 aL×List (aS 1 aL)=>x.2.2) (kT hm)
  rw[←hb,h2.2 k b hk,h1.2]
  simp only[wP e1]
theorem Z1{β γ:Type}(f:β->γ)(q:γ->Bool):∀ l:List β,(l.filter fun x=>q (f x)).map f=(l.map f).filter q
 |[]=>rfl
 |x::l=>by
  rw[nK,BX,BX];split
  ·rw[nK,Z1 f q l]
  ·exact Z1 f q l
theorem MZ.agk{p:Pn}(hg:aV p)(hv:∀ a∈p.az.l,a.via.l.length<=900)(hal:p.az.l.length<=200){cs:List (aS 1 aL)}(hcs:cs.map (·.l)=aW p){A:List jF}(h:MZ p hg.bp cs A){As:List Ar}(hl:As.length=A.length)(hq:∀(i:Nat)(a:jF),A[i]?=some a->∃ a':Ar,As[i]?=some a'/\a'.oc=a.oc/\a'.ic.l=a.ic/\a'.tw=a.tw):Ke p As:=by
 have u9:∀ c∈cs,hg.bp.pQ c.l=gq p c.l:=fun c hc=>(hg.xO hv hal (by rw[←hcs];exact HJ hc)).symm;have hos:(cs.filter fun c=>decide (0<hg.bp.pQ c.l)).map (·.l)=(aW p).filter fun c=>decide (0<gq p c):=by rw[←hcs,←Z1 (fun c:aS 1 aL=>c.l) (fun c=>decide (0<gq p c))];congr 1;exact List.filter_congr fun c hc=>by rw[u9 c hc]
 have hlen:A.length=((aW p).filter fun c=>decide (0<gq p c)).length+1:=by have:=ep List.length h.shape;rw[ig,cu,ig]at this;rw[this,←hos,ig]
 have fU:∀ i a,A[i]?=some a->(i=0->a.tw=0)/\a.oc.l=ocR ((aW p).filter fun c=>decide (0<gq p c)) i/\∀ j,i=j+1->a.tw=gq p ((((aW p).filter fun c=>decide (0<gq p c))[j]?).getD []):=fun i a ha=>by
  have hm:(A.map qX)[i]?=some (qX a):=by rw[k9,ha];rfl
  rw[h.shape]at hm;rcases i with -|j
  ·have e:=kT hm;have e1:a.tw=0:=(ep Prod.fst e).symm;have e2:a.oc=lQ:=(ep Prod.snd e).symm;exact⟨fun _=>e1,by rw[e2];rfl,fun j hj=>by omega⟩
  ·rw[jP,k9]at hm;cases hc:(cs.filter fun c=>decide (0<hg.bp.pQ c.l))[j]? with
   |none=>rw[hc]at hm;cases hm
   |some c =>
    rw[hc]at hm
    have e:=kT hm
    have e1:a.tw=hg.bp.pQ c.l:=(ep Prod.fst e).symm
    have e2:a.oc=c:=(ep Prod.snd e).symm
    have qo:c∈cs:=(tu.1 (j5 hc)).1
    have hj:((aW p).filter fun c=>decide (0<gq p c))[j]?=some c.l:=by rw[←hos,k9,hc];rfl
    refine⟨fun h=>by omega,?_,fun k hk=>?_⟩
    ·show a.oc.l=(((aW p).filter fun c=>decide (0<gq p c))[j]?).getD []
     rw[hj,e2]
     rfl
    ·have:k=j:=Ω
     rw[this,hj,e1,u9 c qo]
     rfl
 have Jv:∀ q,uM p A q=gp p ((aW p).filter fun c=>decide (0<gq p c)) q:=fun q=>by
  unfold uM gp RV;rw[hlen,zm5];congr 2;refine zf3 _ fun i hi=>?_;have hx:A[i+1]?=some A[i+1]:=cK Ω;obtain⟨_,g2,g3⟩:=fU (i+1) _ hx;have g3:=g3 i rfl;rw[hx];constructor
  ·show bU p (A[i+1]).oc.l q=_;rw[g2];rfl
  ·exact g3
 refine⟨hl.trans hlen,fun i a' ha'=>?_⟩;have hi:i<A.length:=by rw[←hl];exact(cU.1 ha').1
 have hx:A[i]?=some A[i]:=cK hi;obtain⟨a2,q1,q2,q3,q4⟩:=hq i _ hx;rw[ha']at q1;cases q1;obtain⟨g1,g2,_⟩:=fU i _ hx;refine⟨fun h0=>by rw[q4];exact g1 h0,by rw[q2];exact g2,?_⟩;rw[q3,h.inner i _ hx,←hcs,←Z1 (fun c:aS 1 aL=>c.l) (fun c=>decide (gq p c<=0)&&gp p (((cs.map fun c=>c.l)).filter fun c=>decide (0<gq p c)) (eW p c)==i),List.filter_filter];congr 1;refine List.filter_congr fun c hc=>?_;rw[Jv,hcs,u9 c hc,zoo];congr 1;by_cases h0:0<gq p c.l
 ·rw[decide_eq_true h0,decide_eq_false Ω];rfl
 ·rw[decide_eq_false h0,decide_eq_true Ω];rfl
def EZ(S:cZ)(p:Pn)(m n:Nat)(U:List (aS 1 aL))(L:List (Int×aS 2 Pt.c))(q:Pt):Prop:=∀(A:List jF),A≠[]->A.length<=n->(∀ a∈A,a.oc∈lQ::U)->∀ D ah aK aa id b,aK[b]?=some (aI (A.flatMap jx)) ->
  aM aR S m D ah aK aa id 120 [.eF (gK L) (gR mY L),.slM D b 0 A.length A.length 4 false,.agg q.c]=some (.r,aG aH (uM p A q:Nat),aa)
section
variable {S:cZ}
theorem QW(hS:bN S)(T:aS 1 aL->Int){m D:Nat}{ah:bR}{K:fP}(p:Pn)(cs:aS 1 ia)(lY:cs.l.length<=65536)(hm:cs.l.length+20<=m)(mv:IV)(J0:aU)(B0:Nat->Nat)(sP:IV)(A0:List jF)(h0:jr D cs.l 0 0 0 J0 B0 sP A0 .nilsl [])(h1:pO T [] A0 [])
  (u9:∀ c∈cs.l,∀ d ah aK aa id,aM aR S m d ah aK aa id 119 [.agg p.c,c.v]=some (.r,aG aH (T c),aa))
  (t:List IV) (af:aN 110 t [(1,cs.v),(2,mv),(3,.ptrM D 0 0),(7,sP),(8,.nilsl)])
  (hK:∀ t' J B lv A rv rc,jr D cs.l cs.l.length 0 0 J B lv A rv rc->pO T cs.l A rc->aN 110 t' [(2,mv),(3,.ptrM D 0 0),(7,lv),(8,rv)]->K .normal ⟨t',aI [p.ns.v,p.az.v,p.fs.v]::J⟩) :
  Ex (aM aR S m) D ah m (i75.body.sub [1,1,1,0]) K ⟨t,aI [p.ns.v,p.az.v,p.fs.v]::J0⟩:=by
 simp only[zb,zc]at af
 have B9:=cs.gC
 simp only[i75,IC.sub,V0,seval,af]
 refine ze (fun jj st=>∃(i:Nat)(J:aU)(B:Nat->Nat)(lv:IV)(A:List jF)(rv:IV)(rc:List (aS 1 aL)),cs.l.length-i<=jj/\i<=cs.l.length/\jr D cs.l i 0 0 J B lv A rv rc/\pO T (cs.l.take i) A rc/\st.aa=aI [p.ns.v,p.az.v,p.fs.v]::J/\aN 110 st.t [(2,mv),(3,.ptrM D 0 0),(7,lv),(8,rv),(21,cs.v),(22,iv (cs.l.length:Nat)),(23,iv i)]) cs.l.length Ω ⟨0,J0,B0,sP,A0,.nilsl,[],Ω,Ω,h0,by rw[xI];exact h1,rfl,by simp only[V0,seval,af,eU]⟩ ?_
 clear af h0 h1
 rintro jj ⟨t,aa⟩ KA ⟨i,J,B,lv,A,rv,rc,hjj,hi,hD,hX,ho,af⟩ bV cS dA
 dsimp only at ho af
 subst ho
 simp only[V3]at af
 by_cases h:i<cs.l.length
 ·have hx:cs.l[i]?=some cs.l[i]:=cK h
  have hmem:=gU h
  have hz:=u9 _ hmem
  generalize cs.l[i]=c at hx hmem hz
  have sS:cs.l.take (i+1)=cs.l.take i++[c]:=by rw[lH,hx];rfl
  have hXi:=fun hp=>hX.inner (c:=c) hp
  have hXo:=fun hp=>hX.outer (c:=c) hp
  rw[←sS]at hXi hXo
  generalize T c=z at hz hXi hXo
  have hrd:bM (cs.l.flatMap ia) (i*1) 1=some [c.v]:=(zd zr 0 1 hx Ω).trans rfl
  have hw:=zq i
  simp only[Pn.c]at hz
  have hlen:=hD.len
  have hrl:=hD.rl
  cases hp:decide (0<z)
  ·obtain⟨e,rv2,J2,b9,_,dX,jD,iK⟩:=yB (k0:=1) (Pre:=[aI [p.ns.v,p.az.v,p.fs.v]]) (n0:=J.length+1+1) (slot:=0) (k:=1) (R:=[.free,.free]) zr rfl hD.r (ys:=[c]) Ψ (by simp only[cu,dw];omega) Ω rfl (by simp[ia,Zp])
   have b9:=b9 (look D ah (aI [p.ns.v,p.az.v,p.fs.v]::(J++[.free,.free]))) (fun j x hj hx=>by simp only[look,if_true];exact hx)
   simp only[gQ,gM,fJ,lz,ia,cu,dw,iL,fO]at b9
   simp only[V0,seval,za cs h,eZ,rep,zh,zk,zo,Zv, *]
   refine bV _ (cs.l.length-(i+1)) Ω ⟨i+1,J2,_,lv,A,rv2,rc++[c],Ω,Ω,⟨iK Ω hD.l,hD.ne,Ω,dX,by simp only[eR,cu,dw];omega,fun y hy=>?_,fun j a ha=>?_⟩,hXi (of_decide_eq_false hp),rfl,cD⟩
   ·rcases og.1 hy with hy|hy
    ·exact hD.rU y hy
    ·rw[qx.1 hy];exact hmem
   ·obtain⟨g1,g2,g3⟩:=hD.el j a ha
    exact⟨iK Ω g1,iK Ω g2,g3⟩
  ·obtain⟨e,uH,J2,b9,_,dX,jD,iK⟩:=yB (k0:=1) (Pre:=[aI [p.ns.v,p.az.v,p.fs.v]]) (n0:=J.length+1+1) (slot:=1) (k:=2) (R:=[.free,aI [aG aH z,c.v,.nilsl,.nilsl],.free]) ye rfl hD.l (ys:=[⟨z,c,.nilsl,[],.nilsl,[]⟩]) Ψ (by simp only[cu,dw];omega) Ω rfl (by simp only[fJ,lz,iL,jx,qt,VK,Zp,zbi,Yo,HH])
   have b9:=b9 (look D ah (aI [p.ns.v,p.az.v,p.fs.v]::(J++[.free,aI [aG aH z,c.v,.nilsl,.nilsl],.free]))) (fun j x hj hx=>by simp only[look,if_true];exact hx)
   simp only[gQ,gM,fJ,lz,jx,cu,dw,iL,fO]at b9
   have Nj:cB (look D ah (aI [p.ns.v,p.az.v,p.fs.v]::(J++[.free,aI [aG aH z,c.v,.nilsl,.nilsl],.free]))) 4 (.slM D (J.length+1+1) 0 1 1 4 false)=some ([aG aH z,c.v,.nilsl,.nilsl],1):=by simp[cB,look,seg,zi]
   simp only[V0,seval,za cs h,eZ,rep,Y3,gW,zh,zk,zo, *]
   refine bV _ (cs.l.length-(i+1)) Ω ⟨i+1,J2,_,uH,_,rv,rc,Ω,Ω,⟨dX,Ψ,by simp only[eR,cu,dw];omega,iK Ω hD.r,Ω,hD.rU,fun j a ha=>?_⟩,hXo (of_decide_eq_true hp),rfl,cD⟩
   by_cases hj:j<A.length
   ·rw[gT hj]at ha
    obtain⟨g1,g2,g3⟩:=hD.el j a ha
    exact⟨iK Ω g1,iK Ω g2,g3⟩
   ·rw[jd Ω]at ha
    have hj0:j-A.length=0:=by have:=(cU.1 ha).1;simp at this;omega
    rw[hj0]at ha
    cases ha
    exact⟨.inl ⟨rfl,rfl⟩,.inl ⟨rfl,rfl⟩,dz _,dz _,fun _ h=>by simp at h,fun _=>hmem,nk _ hmem⟩
 ·simp only[V0,seval,af,h]
  refine cS _ _ ?_
  simp only[V0,seval]
  have hii:i=cs.l.length:=Ω
  subst hii
  rw[E7]at hX
  exact hK _ _ _ _ _ _ _ hD hX cD
theorem QV(hS:bN S){m D:Nat}{ah:bR}{K:fP}(p:Pn)(cs:aS 1 ia)(lY:cs.l.length<=65536)(hm:cs.l.length+20<=m)(L:List (Int×aS 2 Pt.c))(J0:aU)(B0:Nat->Nat)(lv:IV)(A0:List jF)(rv:IV)(rc:List (aS 1 aL))(h0:jr D cs.l cs.l.length 0 0 J0 B0 lv A0 rv rc)(h1:E5 p A0 [] A0)
  (Jv:∀ c∈cs.l,∃(y:Pt)(h:Int)(r:List Int),c.l=h::r/\(kS rY L (dF h)).l[0]?=some y/\y=eW p c.l/\EZ S p m (cs.l.length+1) cs.l L y)
  (t:List IV) (af:aN 110 t [(2,.eF (gK L) (gR mY L)),(3,.ptrM D 0 0),(7,lv),(8,rv)])
  (hK:∀ t' J B A,jr D cs.l cs.l.length cs.l.length 0 J B lv A rv rc->E5 p A0 rc A->aN 110 t' [(2,.eF (gK L) (gR mY L)),(3,.ptrM D 0 0),(7,lv)]->K .normal ⟨t',aI [p.ns.v,p.az.v,p.fs.v]::J⟩) :
  Ex (aM aR S m) D ah m (i75.body.sub [1,1,1,1,0]) K ⟨t,aI [p.ns.v,p.az.v,p.fs.v]::J0⟩:=by
 simp only[zb,zc]at af
 have hrl:=h0.rl
 have adv:=fun aK aa=>eC.len h0.r (D:=D) (ah:=ah) (aK:=aK) (aa:=aa)
 have aq:∀ z:Int,(if aT .i64 (0-z)>z then aT .i64 (0-z)else z)=dF z:=fun _=>rfl
 simp only[i75,IC.sub,V0,seval,af,adv]
 refine ze (fun jj st=>∃(i:Nat)(J:aU)(B:Nat->Nat)(A:List jF),rc.length-i<=jj/\i<=rc.length/\jr D cs.l cs.l.length i 0 J B lv A rv rc/\E5 p A0 (rc.take i) A/\st.aa=aI [p.ns.v,p.az.v,p.fs.v]::J/\aN 110 st.t [(2,.eF (gK L) (gR mY L)),(3,.ptrM D 0 0),(7,lv),(43,rv),(44,iv (rc.length:Nat)),(45,iv i)]) rc.length Ω ⟨0,J0,B0,A0,Ω,Ω,h0,by rw[xI];exact h1,rfl,by simp only[V0,seval,af,eU]⟩ ?_
 clear af h0 h1
 rintro jj ⟨t,aa⟩ KA ⟨i,J,B,A,hjj,hi,hD,hX,ho,af⟩ bV cS dA
 dsimp only at ho af
 subst ho
 simp only[V3]at af
 by_cases h:i<rc.length
 ·have hx:rc[i]?=some rc[i]:=cK h
  have hmem:=hD.rU _ (gU h)
  generalize rc[i]=c at hx hmem
  obtain⟨y,hh,r,Qc,hy,hys,hfy⟩:=Jv c hmem
  generalize hpa:kS rY L (dF hh)=pa at hy
  obtain⟨br,hrv,hrb⟩:∃ br,rv=.slM D (1+br) 0 rc.length rc.length 1 false/\J[br]?=some (aI (rc.flatMap ia)):=by
   rcases hD.r with⟨h1,_⟩|⟨b,_,h1,h2,_⟩
   ·rw[h1]at h;simp at h
   ·exact⟨b,h1,h2⟩
  obtain⟨b,hlv,hb,hB⟩:=hD.blk
  have gr:∀ x:aO,(x::J)[1+br]?=some (aI (rc.flatMap ia)):=fun x=>by rw[qv 1 br,jP];exact hrb
  have gl:∀(x:aO)(R:aU),(x::(J++R))[1+b]?=some (aI (A.flatMap jx)):=fun x R=>by rw[qv 1 b,jP,gT (cU.1 hb).1];exact hb
  have hlA:A.length<=cs.l.length+1:=hD.len
  obtain⟨k,hk,hkf,hfind⟩:∃ k:Nat,k<A.length/\k=uM p A y/\∀ id,aM aR S m D ah (aI [p.ns.v,p.az.v,p.fs.v]::(J++[.free])) (aI [p.ns.v,p.az.v,p.fs.v]::(J++[.free])) id 120 [.eF (gK L) (gR mY L),lv,.agg [aG aH y.x,aG aH y.y]]=some (.r,aG aH (k:Nat),aI [p.ns.v,p.az.v,p.fs.v]::(J++[.free])):=by have hc:=hfy A hD.ne hlA hD.oc D ah (aI [p.ns.v,p.az.v,p.fs.v]::(J++[.free])) (aI [p.ns.v,p.az.v,p.fs.v]::(J++[.free])) 0 (1+b) (gl _ _);refine⟨uM p A y,Qt hD.ne,rfl,fun id=>?_⟩;rw[hlv];simp only[Pt.c,zg]at hc;rw[←hc];exact Di (ns hS) rfl rfl
  obtain⟨a,ha⟩:=gx (l:=A) (i:=k) hk
  have hX2:=fun M8=>hX.step (c:=c) (M8:=M8) ha (by rw[hkf,hys])
  have sS:rc.take (i+1)=rc.take i++[c]:=by rw[lH,hx];rfl
  rw[←sS]at hX2
  obtain⟨g1,g2,g3,g4,g5,g6,g7⟩:=hD.el k a ha
  have hrd:bM (rc.flatMap ia) (i*1) 1=some [c.v]:=(zd zr 0 1 hx Ω).trans rfl
  have Ww:bM (A.flatMap jx) (k*4+2) 1=some [a.iv]:=(BJ ha Ω).trans rfl
  have hw:=zq i
  have hir:∀ aa,dD aa 1 (.slM D (1+br) 0 rc.length rc.length 1 false) (aG aH (i:Int))=some (.p,.ptrM D (1+br) (i*1),aa):=fun aa=>by have:=zm (aa:=aa) (l:=D) (b:=1+br) (off:=0) (cap:=rc.length) (z:=1) (z':=1) (tight:=false) (k:=.i64) h;rw[fO]at this;exact this
  have hil:∀ aa,dD aa 4 (.slM D (1+b) 0 A.length A.length 4 false) (aG aH (k:Int))=some (.p,.ptrM D (1+b) (k*4),aa):=fun aa=>by have:=zm (aa:=aa) (l:=D) (b:=1+b) (off:=0) (cap:=A.length) (z:=4) (z':=4) (tight:=false) (k:=.i64) hk;rw[fO]at this;exact this
  have hc0:0<c.l.length:=by rw[Qc];simp
  have hic:∀ aa,dD aa 1 c.v (aG aH 0)=some (.p,.ptrC (c.l.flatMap aL) (0*1),aa):=fun aa=>za c (i:=0) hc0
  have hp0:0<pa.l.length:=(cU.1 hy).1
  have hip:∀ aa,dD aa 2 pa.v (aG aH 0)=some (.p,.ptrC (pa.l.flatMap Pt.c) (0*2),aa):=fun aa=>za pa (i:=0) hp0
  have hrc:bM (c.l.flatMap aL) (0*1) 1=some [aG aH hh]:=(zd (l:=c.l) (i:=0) (x:=hh) zf 0 1 (by rw[Qc];rfl) Ω).trans rfl
  have hrp:bM (pa.l.flatMap Pt.c) (0*2) 2=some [aG aH y.x,aG aH y.y]:=(zd Pt.aZ 0 2 hy Ω).trans rfl
  have UM:∀(C:Call)(n0:Nat)(aK aa:aU)(t:List IV)(a b:bG),ρ t a=.eF (gK L) (gR mY L)->ρ t b=aG aH (dF hh)->cH C D ah n0 aK aa t (.lookup .nilsl (false,[1]) false a b)=some (.p,pa.v,aa):=fun C n0 aK aa t a b h1 h2=>(Ei (u:=mY) rY (dF hh) rfl h1 h2).trans (by rw[hpa];rfl)
  obtain⟨e,M8,J2,b9,_,dX,jD,iK⟩:=yB (k0:=1) (Pre:=[aI [p.ns.v,p.az.v,p.fs.v]]) (n0:=J.length+1+1) (slot:=0) (k:=1) (R:=[.free,.free]) zr rfl g1 (ys:=[c]) Ψ (by simp only[cu,dw];omega) Ω rfl (by simp[ia,Zp])
  have b9:=b9 (look D ah (aI [p.ns.v,p.az.v,p.fs.v]::(J++[.free,.free]))) (fun j x hj hx=>by simp only[look,if_true];exact hx)
  simp only[gQ,gM,fJ,lz,ia,cu,dw,iL,fO]at b9
  have fG:J2[b]?=some (aI (A.flatMap jx))/\C4 B (J.length+1) (2+2*k) b=0:=by
   rcases iK Ω hD.l with⟨h1,_⟩|⟨b',_,h1,h2,h3⟩
   ·exact absurd h1 hD.ne
   ·rw[hlv]at h1;injection h1 with _ oq;have:b'=b:=Ω;subst this;exact⟨h2,h3⟩
  have sU:=hD.set hlv fG.1 fG.2 ha (a':={ a with iv:=M8,ic:=a.ic++[c] }) rfl (iK Ω hD.r) (m2:=i+1) (m3:=0) Ω Ω (fun j x hx hj=>by
   obtain⟨q1,q2,_⟩:=hD.el j x hx;exact⟨iK Ω q1,iK Ω q2⟩) dX (iK Ω g2) (by simp only[eR,cu,dw];omega) g4 (fun z hz=>by
   rcases og.1 hz with hz|hz
   ·exact g5 z hz
   ·rw [qx.1 hz]; exact hmem)
  have gl2:∀ x:aO,(x::J2)[1+b]?=some (aI (A.flatMap jx)):=fun x=>by rw[qv 1 b,jP];exact fG.1
  have X8:∀(x y:aO),(x::J2).set (1+b) y=x::J2.set b y:=fun x y=>by rw[qv 1 b,HI]
  have hfit:k*4+2+1<=(A.flatMap jx).length:=by rw[zl ye];omega
  have hwr:gV (A.flatMap jx) (k*4+2) [M8]=(A.set k { a with iv:=M8,ic:=a.ic++[c] }).flatMap jx:=ZH ye ha Ψ rfl
  have sc2:=dX.tJ
  have cl2:=dX.cells
  have glx:∀(x:aO)(u v:aO),(x::(J++[u,v]))[1+b]?=some (aI (A.flatMap jx)):=fun x u v=>gl x _
  simp only[V0,seval,af,h,hrv,hir,gr,hrd,hic,hrc,aq,UM]
  rw[hlv]at hfind
  simp only[V0,seval,af,hlv,hip,hrp,hfind,hil,glx,Ww,rep,zh,zk,zo,Zv,b9,gl2,X8,hfit,hwr,sc2,cl2,hw]
  exact bV _ (rc.length-(i+1)) Ω ⟨i+1,_,_,_,Ω,Ω,sU,hX2 _,rfl,by simp only[V0,seval,af,hlv,hrv]⟩
 ·simp only[V0,seval,af,h]
  refine cS _ _ ?_
  simp only[V0,seval]
  rw[gj Ω]at hX
  refine hK _ _ _ _ ⟨hD.l,hD.ne,hD.len,hD.r,hD.rl,hD.rU,fun j x hx=>by
   obtain⟨q1,q2,q3,q4⟩:=hD.el j x hx;exact ⟨q1,q2,Ω,q4⟩⟩ hX (by simp only [V0,sevalprocAttr,af])
theorem GO(hS:bN S){m D:Nat}{ah:bR}{K:fP}(p:Pn)(hpa:p.az.l.length<=1000000)(hpn:p.ns.l.length<=1000000)(cs:aS 1 ia)(lY:cs.l.length<=65536)(hm:p.ns.l.length+p.az.l.length+20<=m)(L:List (Int×aS 2 Pt.c))(J0:aU)(B0:Nat->Nat)(lv:IV)(A0:List jF)(rv:IV)(rc:List (aS 1 aL))(h0:jr D cs.l cs.l.length cs.l.length 0 J0 B0 lv A0 rv rc)
  (Jv:∀ n∈p.ns.l,EZ S p m (cs.l.length+1) cs.l L n.at')
  (t:List IV) (af:aN 110 t [(2,.eF (gK L) (gR mY L)),(3,.ptrM D 0 0),(7,lv)])
  (hK:∀ t' J B A,jr D cs.l cs.l.length cs.l.length p.ns.l.length J B lv A rv rc->A.map p6=A0.map p6->aN 110 t' [(7,lv)]->K .normal ⟨t',aI [p.ns.v,p.az.v,p.fs.v]::J⟩) :
  Ex (aM aR S m) D ah m (i75.body.sub [1,1,1,1,1,0]) K ⟨t,aI [p.ns.v,p.az.v,p.fs.v]::J0⟩:=by
 simp only[zb,zc]at af
 simp only[i75,IC.sub,V0,seval,af]
 refine ze (fun jj st=>∃(i:Nat)(J:aU)(B:Nat->Nat)(A:List jF),p.ns.l.length-i<=jj/\i<=p.ns.l.length/\jr D cs.l cs.l.length cs.l.length i J B lv A rv rc/\A.map p6=A0.map p6/\st.aa=aI [p.ns.v,p.az.v,p.fs.v]::J/\aN 110 st.t [(2,.eF (gK L) (gR mY L)),(3,.ptrM D 0 0),(7,lv),(79,p.ns.v),(80,iv (p.ns.l.length:Nat)),(81,iv i)]) p.ns.l.length Ω ⟨0,J0,B0,A0,Ω,Ω,h0,rfl,rfl,by simp only[V0,seval,af,eU]⟩ ?_
 clear af h0
 rintro jj ⟨t,aa⟩ KA ⟨i,J,B,A,hjj,hi,hD,hX,ho,af⟩ bV cS dA
 dsimp only at ho af
 subst ho
 simp only[V3]at af
 by_cases h:i<p.ns.l.length
 ·have hx:p.ns.l[i]?=some p.ns.l[i]:=cK h
  have hfy:=Jv _ (gU h)
  generalize p.ns.l[i]=nd at hx hfy
  have hrd:bM (p.ns.l.flatMap Nd.c) (i*3) 3=some [aG aH nd.id,aG aH nd.at'.x,aG aH nd.at'.y]:=(zd Nd.aZ 0 3 hx Ω).trans rfl
  have hw:=zq i
  have cd:=MB hS p nd.id hpa m Ω
  simp only[Pn.c,zg]at cd
  cases hdz:(((nY p.az.l nd.id:Nat):Int)==0)
  ·simp only[V0,seval,af,h,za p.ns h,hrd,cd,hdz,hw]
   refine bV _ (p.ns.l.length-(i+1)) Ω ⟨i+1,_,B,A,Ω,Ω,?_,hX,rfl,cD⟩
   have:=hD.more [aI [aG aH nd.id,aG aH nd.at'.x,aG aH nd.at'.y],.free]
   exact ⟨this.l,this.ne,this.len,this.r,this.rl,this.rU,fun j x hx=>by
    obtain⟨q1,q2,q3,q4,q5⟩:=this.el j x hx;exact ⟨q1,q2,q3,Ω,q5⟩⟩
  ·obtain⟨b,hlv,hb,hB⟩:=hD.blk
   have gl:∀(x:aO)(R:aU),(x::(J++R))[1+b]?=some (aI (A.flatMap jx)):=fun x R=>by rw[qv 1 b,jP,gT (cU.1 hb).1];exact hb
   have hlA:A.length<=cs.l.length+1:=hD.len
   have sW:=(cU.1 hb).1
   obtain⟨k,hk,hfind⟩:∃ k:Nat,k<A.length/\∀ id,aM aR S m D ah (aI [p.ns.v,p.az.v,p.fs.v]::(J++[aI [aG aH nd.id,aG aH nd.at'.x,aG aH nd.at'.y],.free,.free])) (aI [p.ns.v,p.az.v,p.fs.v]::(J++[aI [aG aH nd.id,aG aH nd.at'.x,aG aH nd.at'.y],.free,.free])) id 120 [.eF (gK L) (gR mY L),lv,.agg [aG aH nd.at'.x,aG aH nd.at'.y]]=some (.r,aG aH (k:Nat),aI [p.ns.v,p.az.v,p.fs.v]::(J++[aI [aG aH nd.id,aG aH nd.at'.x,aG aH nd.at'.y],.free,.free])):=by have hk:=Qt (p:=p) (q:=nd.at') hD.ne;have hc:=hfy A hD.ne hlA hD.oc D ah (aI [p.ns.v,p.az.v,p.fs.v]::(J++[aI [aG aH nd.id,aG aH nd.at'.x,aG aH nd.at'.y],.free,.free])) (aI [p.ns.v,p.az.v,p.fs.v]::(J++[aI [aG aH nd.id,aG aH nd.at'.x,aG aH nd.at'.y],.free,.free])) 0 (1+b) (gl _ _);refine⟨uM p A nd.at',hk,fun id=>?_⟩;rw[hlv];simp only[Pt.c,zg]at hc;rw[←hc];exact Di (ns hS) rfl rfl
   obtain⟨a,ha⟩:=gx (l:=A) (i:=k) hk
   have hX2:=fun Nq=>(Tf (Nq:=Nq) (al2:=a.al++[nd.id]) ha).trans hX
   obtain⟨g1,g2,g3,g4,g5,g6,g7⟩:=hD.el k a ha
   have Ww:bM (A.flatMap jx) (k*4+3) 1=some [a.av]:=(BJ ha Ω).trans rfl
   have hil:∀ aa,dD aa 4 (.slM D (1+b) 0 A.length A.length 4 false) (aG aH (k:Int))=some (.p,.ptrM D (1+b) (k*4),aa):=fun aa=>by have:=zm (aa:=aa) (l:=D) (b:=1+b) (off:=0) (cap:=A.length) (z:=4) (z':=4) (tight:=false) (k:=.i64) hk;rw[fO]at this;exact this
   obtain⟨e,Nq,J2,b9,hee,dX,jD,iK⟩:=yB (k0:=1) (Pre:=[aI [p.ns.v,p.az.v,p.fs.v]]) (n0:=J.length+3+1) (slot:=0) (k:=3) (R:=[aI [aG aH nd.id,aG aH nd.at'.x,aG aH nd.at'.y],.free,.free,.free]) zf rfl g2 (ys:=[nd.id]) Ψ (by simp only[cu,dw];omega) Ω rfl rfl
   have adw:∀(j:Nat)(x:aO),j<J.length+3+1->(aO.cells [p.ns.v,p.az.v,p.fs.v]::(J++[aI [aG aH nd.id,aG aH nd.at'.x,aG aH nd.at'.y],.free,.free,.free]))[j]?=some x->(b7 [] (J.length+3+1) (aO.cells [p.ns.v,p.az.v,p.fs.v]::(J++[aI [aG aH nd.id,aG aH nd.at'.x,aG aH nd.at'.y],.free,.free,.free])))[j]?=some x:=fun j x hj hx=>by rw[zp,hx];simp[hj]
   have b9:=b9 (look D ah (b7 [] (J.length+3+1) (aI [p.ns.v,p.az.v,p.fs.v]::(J++[aI [aG aH nd.id,aG aH nd.at'.x,aG aH nd.at'.y],.free,.free,.free])))) (fun j x hj hx=>by simp only[look,if_true];exact adw j x Ω hx)
   simp only[gQ,gM,fJ,lz,aL,zg,cu,dw,iL,fO]at b9
   have hg1:=adw (1+b) _ Ω (gl _ _)
   have hg2:=adw (J.length+1) (aI [aG aH nd.id,aG aH nd.at'.x,aG aH nd.at'.y]) Ω Ψ
   have fG:J2[b]?=some (aI (A.flatMap jx))/\C4 B (J.length+3) (3+2*k) b=0:=by
    rcases iK Ω hD.l with⟨h1,_⟩|⟨b',_,h1,h2,h3⟩
    ·exact absurd h1 hD.ne
    ·rw[hlv]at h1;injection h1 with _ oq;have:b'=b:=Ω;subst this;exact⟨h2,h3⟩
   have sU:=hD.set hlv fG.1 fG.2 ha (a':={ a with av:=Nq,al:=a.al++[nd.id] }) rfl (iK Ω hD.r) (m2:=cs.l.length) (m3:=i+1) Ω Ω (fun j x hx hj=>by
    obtain⟨q1,q2,_⟩:=hD.el j x hx;exact ⟨iK Ω q1,iK Ω q2⟩) (iK Ω g1) dX g3 (by simp only [eR,cu,dw]; omega) g5
   have gl2:∀ x:aO,(x::J2)[1+b]?=some (aI (A.flatMap jx)):=fun x=>by rw[qv 1 b,jP];exact fG.1
   have X8:∀(x y:aO),(x::J2).set (1+b) y=x::J2.set b y:=fun x y=>by rw[qv 1 b,HI]
   have hfit:k*4+3+1<=(A.flatMap jx).length:=by rw[zl ye];omega
   have hwr:gV (A.flatMap jx) (k*4+3) [Nq]=(A.set k { a with av:=Nq,al:=a.al++[nd.id] }).flatMap jx:=ZH ye ha Ψ rfl
   have sc2:=dX.tJ
   have cl2:=dX.cells
   rw[hlv]at hfind
   simp only[V0,seval,af,h,za p.ns h,hrd,cd,hdz,hlv,hfind,hil,hg1,hg2,Ww,rep,zh,zk,zo,zu,b9,gl2,X8,hfit,hwr,sc2,cl2]
   simp only[V0,seval,af,hw]
   exact bV _ (p.ns.l.length-(i+1)) Ω ⟨i+1,_,_,_,Ω,Ω,sU,hX2 _,rfl,cD⟩
 ·simp only[V0,seval,af,h]
  refine cS _ _ ?_
  simp only[V0,seval]
  refine hK _ _ _ _ ⟨hD.l,hD.ne,hD.len,hD.r,hD.rl,hD.rU,fun j x hx=>by
   obtain⟨q1,q2,q3,q4,q5⟩:=hD.el j x hx;exact ⟨q1,q2,q3,Ω,q5⟩⟩ hX cD
theorem Et(hS:bN S)(p:Pn)(hg:aV p)(hv:∀ a∈p.az.l,a.via.l.length<=900)(iz:bQ p)(hal:p.az.l.length<=200)(hpn:p.ns.l.length<=1000000)(cs:aS 1 ia)(hcs:cs.l.map (·.l)=aW p)(L:List (Int×aS 2 Pt.c))(hL:uC p L) :
  ∃ N,∀ m,N<=m->∀ d ah aK aa id,∃ As:aS 4 lq,aM aR S m d ah aK aa id 75 [.agg p.c,cs.v,.eF (gK L) (gR mY L)]=some (.r,As.v,aa)/\BT cs.l As.l/\Ke p As.l:=by
 have hpa:p.az.l.length<=1000000:=Ω
 have qo:∀ c∈cs.l,c.l∈aW p:=fun c hc=>by rw[←hcs];exact HJ hc
 have hcd:∀ c∈cs.l,∀ z∈c.l,z∈aY p:=fun c hc=>hg.Bt (qo c hc)
 have lY:cs.l.length<=65536:=by
  have h1:cs.l.length=(aW p).length:=by rw[←hcs,ig]
  have h2:=yP (bZ (bS p) (bW p)) id (aY p) [] [];have h3:(aY p).length=2*p.az.l.length:=by unfold aY;rw[eR,ig,ig,uF];omega
  rw[h1];unfold aW;simp only[dw]at h2;omega
 have u9:∀ c∈cs.l,∃ N,∀ m,N<=m->∀ d ah aK aa id,aM aR S m d ah aK aa id 119 [.agg p.c,c.v]=some (.r,aG aH (hg.bp.pQ c.l),aa):=fun c hc=>FC hS p hg hv iz c (hcd c hc) (hg.qG hal c.l (qo c hc)).1
 have ak:∀ c∈lQ::cs.l,∀ z∈c.l,z∈aY p:=fun c hc=>by
  rcases fF.1 hc with rfl|hc
  ·exact fun z hz=>absurd hz j4
  ·exact hcd c hc
 have Gs:∀ q:Pt,q.near->∃ N,∀ m,N<=m->EZ S p m (cs.l.length+1) cs.l L q:=fun q hq=>by obtain⟨N,hN⟩:=L5 hS p hg (lQ::cs.l) ak L hL q hq;exact⟨N+cs.l.length+1,fun m hm A hA hl hU' D ah aK aa id b hb=>hN A m Ω hA Ω hU' D ah aK aa id b hb⟩
 have hfc:∀ c∈cs.l,∃ N,∀ m,N<=m->∃(y:Pt)(h:Int)(r:List Int),c.l=h::r/\(kS rY L (dF h)).l[0]?=some y/\y=eW p c.l/\EZ S p m (cs.l.length+1) cs.l L y:=fun c hc=>by
  obtain⟨z,hz,e⟩:=aV.kJ (qo c hc);obtain⟨h,r,h1⟩:∃ h r,c.l=h::r:=by
   cases qE:c.l with
   |nil=>exact absurd qE (hg.qG hal c.l (qo c hc)).2.1
   |cons h r=>exact⟨h,r,rfl⟩
  have hhD:=hcd c hc h (by rw[h1];exact kB ..);obtain⟨a,ha,aq,_,_,_,hpl⟩:=hg.rF hhD;have h2:(kS rY L (dF h)).l=bu p a:=by rw[aq];exact(hL a ha).trans (hg.nice.path ha).2
  have h3:eW p c.l=(cF p a.fr).at':=by unfold eW;rw[h1];show((eH p (dF h))[0]?).getD ⟨0,0⟩=_;rw[hpl];rfl
  obtain⟨N,hN⟩:=Gs (eW p c.l) (by rw[h3];exact Yv (hg.nice.Lz _ (yG (hg.nice.fr a ha)).1));exact⟨N,fun m hm=>⟨_,h,r,h1,by rw[h2,h3];rfl,rfl,hN m hm⟩⟩
 have hfn:∀ n∈p.ns.l,∃ N,∀ m,N<=m->EZ S p m (cs.l.length+1) cs.l L n.at':=fun n hn=>Gs n.at' (Yv (hg.nice.Lz n hn))
 obtain⟨N1,vf⟩:=Fe cs.l u9
 obtain⟨N2,Us⟩:=Fe cs.l hfc
 obtain⟨N3,hN3⟩:=Fe p.ns.l hfn
 refine⟨N1+N2+N3+cs.l.length+p.ns.l.length+p.az.l.length+40,fun m hm d ah aK aa id=>?_⟩
 obtain⟨m,rfl⟩:=me m 6
 have main:∃ v,aM aR S (m+5+1) d ah aK aa id 75 [.agg p.c,cs.v,.eF (gK L) (gR mY L)]=some (.r,v,aa)/\∃ As:aS 4 lq,v=As.v/\BT cs.l As.l/\Ke p As.l:=by
  refine ZG (i:=i75) (ns hS) rfl rfl (lb rfl) fun t af=>?_;simp only[V2,Xb,i75,Pn.c]at af;generalize(fun l=>if l=d then aK else ah l:bR)=cQ
  suffices kY:∀ K:fP,(∀ t' J B lv A rv rc,jr (d+1) cs.l cs.l.length cs.l.length p.ns.l.length J B lv A rv rc->MZ p hg.bp cs.l A->aN 110 t' [(6,lv)]->K .ret ⟨t',aI [p.ns.v,p.az.v,p.fs.v]::J⟩)->Ex (aM aR S (m+5)) (d+1) cQ (m+5) i75.body K ⟨t,[]⟩from kY _ fun t' J B lv A rv rc hD hX ht=>by
   simp only[zb,zc]at ht;rw[yV];obtain⟨b,hlv,hb,hB⟩:=hD.blk;obtain⟨As,h1,h2,h3⟩:=EH (A:=A) (f:=freeze (m+4) (d+1) (aI [p.ns.v,p.az.v,p.fs.v]::J)) (Q:=fun a a'=>a'.oc=a.oc/\a'.ic.l=a.ic/\a'.tw=a.tw) fun a ha=>by
    obtain⟨i,hi⟩:=pY ha;obtain⟨q1,q2,q3,q4,q5⟩:=hD.el i a hi;have f1:=ZW (Pre:=[aI [p.ns.v,p.az.v,p.fs.v]]) (n:=m+3) zr rfl (fun c x hx=>by
     simp only[ia,fF,j4,k7]at hx;subst hx;exact (z7 (fun a x hx=>by
      simp only[aL,fF,j4,k7]at hx;subst hx;exact zn) c).le Ω) Ω q1
    have f2:=ZW (Pre:=[aI [p.ns.v,p.az.v,p.fs.v]]) (n:=m+3) zf rfl (fun c x hx=>by
     simp only[aL,fF,j4,k7]at hx;subst hx;exact zn.le Ω) Ω q2
    simp only[gQ,gM]at f1 f2;have f3:freeze (m+4) (d+1) (aI [p.ns.v,p.az.v,p.fs.v]::J) a.oc.v=some a.oc.v:=z7 (fun a x hx=>by
      simp only[aL,fF,j4,k7]at hx;subst hx;exact zn) a.oc _ Ω _ _
    refine⟨⟨a.tw,a.oc,eX zr a.ic Ω,eX zf a.al Ω⟩,⟨rfl,yg _ _ _,rfl⟩,?_⟩;have f0:freeze (m+4) (d+1) (aI [p.ns.v,p.az.v,p.fs.v]::J) (aG aH a.tw)=some (aG aH a.tw):=rfl;simp only[jx,lq,rO,Cc,f0,f1,f2,f3,tC,uG,jG]
   have hne:As≠[]:=fun he=>hD.ne (by rw[he]at h1;exact sr.1 h1.symm);have hlen:=hD.len;refine⟨lv,(eX Zs As Ω).v,by simp only[i75,V0,seval,ht],?_,eX Zs As Ω,rfl,?_⟩
   ·rw[hlv,zfg ye h3 (by rw[qv 1 b,jP];exact hb)];rw[←h1];cases As with
    |nil=>exact absurd rfl hne
    |cons _ _=>rfl
   ·rw[yg];refine⟨⟨hne,Ω,fun i a' ha'=>?_⟩,hX.agk hg hv hal hcs h1 fun i a ha=>h2 i a ha⟩;have hi:i<A.length:=by rw[←h1];exact(cU.1 ha').1
    obtain⟨a2,hx,hq1,lG,_⟩:=h2 i A[i] (cK hi);rw[ha']at hx;cases hx;obtain⟨_,_,q3,q4,q5,q6,q7⟩:=hD.el i _ (cK hi);rw[hq1,lG];exact⟨q3,q5,q6,q7⟩
  intro K fin;rw[show i75.body=.seq (i75.body.sub [0]) (.seq (i75.body.sub [1,0]) (.seq (i75.body.sub [1,1,0]) (.seq (i75.body.sub [1,1,1,0]) (.seq (i75.body.sub [1,1,1,1,0]) (.seq (i75.body.sub [1,1,1,1,1,0]) (i75.body.sub [1,1,1,1,1,1]))))))from rfl];have hL1:=fun{K:fP} mv J0 B0 sP A0 h0 h1 u9 t af hK=>@QW S hS (fun c=>hg.bp.pQ c.l) (m+5) (d+1) cQ K p cs lY Ω mv J0 B0 sP A0 h0 h1 u9 t af hK;have hL2:=fun{K:fP} J0 B0 lv A0 rv rc h0 h1 Jv t af hK=>@QV S hS (m+5) (d+1) cQ K p cs lY Ω L J0 B0 lv A0 rv rc h0 h1 Jv t af hK;have hL3:=fun{K:fP} J0 B0 lv A0 rv rc h0 Jv t af hK=>@GO S hS (m+5) (d+1) cQ K p hpa hpn cs lY Ω L J0 B0 lv A0 rv rc h0 Jv t af hK;generalize i75.body.sub [1,1,1,0]=T1 at hL1 ⊢;generalize i75.body.sub [1,1,1,1,0]=T2 at hL2 ⊢;generalize i75.body.sub [1,1,1,1,1,0]=T3 at hL3 ⊢;simp only[i75,IC.sub,V0,seval,af,rep,Y3,gW,dU];refine hL1 (.eF (gK L) (gR mY L)) [aI [aG aH 0,.nilsl,.nilsl,.nilsl]] (fun _=>0) (.slM (d+1) 1 0 1 1 4 false) [⟨0,lQ,.nilsl,[],.nilsl,[]⟩] ⟨.inr ⟨0,Ψ,rfl,rfl,rfl⟩,Ψ,Ψ,.inl ⟨rfl,rfl⟩,dz _,fun _ h=>by simp at h,fun i a ha=>?_⟩ pO.zero (fun c hc=>vf c hc (m+5) Ω) _ cD fun t1 J1 B1 lv1 A1 rv rc hD1 hX1 ht1=>?_
  ·cases i with
   |succ i=>simp at ha
   |zero =>
    simp only[qU,fZ]at ha
    subst ha
    exact⟨.inl ⟨rfl,rfl⟩,.inl ⟨rfl,rfl⟩,dz _,dz _,fun _ h=>by simp at h,fun h=>by omega,kB ..⟩
  simp only[V0,seval];refine hL2 J1 B1 lv1 A1 rv rc hD1 hX1.start (fun c hc=>Us c hc (m+5) Ω) t1 ht1 fun t2 J2 B2 A2 hD2 hX2 ht2=>?_;simp only[V0,seval];refine hL3 J2 B2 lv1 A2 rv rc hD2 (fun n hn=>hN3 n hn (m+5) Ω) t2 ht2 fun t3 J3 B3 A3 Qi hX3 ht3=>?_;simp only[zb,zc]at ht3;simp only[V0,seval,ht3];exact fin _ _ _ _ _ _ _ Qi (MZ.of hX1 hX2 hX3) cD
 obtain⟨v,h1,As,rfl,h2⟩:=main
 exact⟨As,h1,h2⟩
end
theorem zau{α:Type}{f g:α->Bool}:∀{l:List α},(∀ x∈l,f x=g x)->l.all f=l.all g
 |[],_=>rfl
 |x::l,h=>by rw[qt,qt,h x (kB ..),zau fun y hy=>h y (nk _ hy)]
def iT(fs:List Int):List (Int×Bool):=fs.map fun k=>(k,true)
theorem KY{fs:List Int}:(iT fs).length=fs.length:=ig ..
theorem zf4{k:Int}:∀{fs:List Int},kS false (iT fs) k=fs.contains k
 |[]=>rfl
 |f::fs=>by
  have ih:=zf4 (k:=k) (fs:=fs);unfold kS iT at ih ⊢;rw[nK,Ca,List.contains_cons];cases h:k==f
  ·simp only[h];rw[ih];rfl
  ·simp only[h];rfl
theorem Ln{f:Int}{fs:List Int}(h:fs.contains f=false):oP (iT fs) f true=iT (fs++[f]):=by
 have hn:((iT fs).findIdx? fun kv=>f==kv.1)=none:=by
  rw[Ks];intro kv hkv;obtain⟨k,hk,rfl⟩:=jA.1 hkv;cases e:f==k
  ·rfl
  ·rw[eq_of_beq e,nM.2 hk]at h;cases h
 unfold oP;rw[hn];unfold iT;rw[E6];rfl
def fcP(p:Pn):Option (List Int)->Bool
 |none=>false
 |some fs=>((fs.length:Int)==(p.fs.l.length:Int))
section
variable {S:cZ}
theorem L8(hS:bN S){m D:Nat}{ah:bR}{K:fP}(p:Pn)(q:aS 1 ia)(hq:q.l.length<=1000000)(hm:q.l.length+200010<=m)(lY:∀ c∈q.l,c.l.length<=200000)(DE:∀ c∈q.l,∀ z∈c.l,∀ d ah aK aa id,aM aR S m d ah aK aa id 122 [.agg p.c,iv z]=some (.r,aG aH (eN p z),aa))
  (t:List IV) (lD:Int) (i n:Nat) (lv SJ:IV) (x1:aO) (J:aU)
  (af:aN 71 t [(2,.ptrM D 0 0),(4,lv),(6,.mapM D 1),(9,aG aH lD),(15,SJ),(16,iv n),(17,iv i),(40,q.v),(41,iv (q.l.length:Nat)),(42,aG aH 0)])
  (hK:∀ t' R,aN 71 t' [(2,.ptrM D 0 0),(4,lv),(6,.mapM D 1),(9,aG aH lD),(15,SJ),(16,iv n),(17,iv i)]->(q.l.all fun c=>c.l.all fun z=>eN p z==lD)=true->K .normal ⟨t',aI [p.ns.v,p.az.v,p.fs.v]::x1::(J++R)⟩)
  (hR:∀ t' O,aN 71 t' [(4,.nilsl),(5,.bool false)]->(q.l.all fun c=>c.l.all fun z=>eN p z==lD)=false->K .ret ⟨t',O⟩) :
  Ex (aM aR S m) D ah m (i76.body.sub [1,1,0,1,0,0,1,1,0,0,1,1,1,0,1]) K ⟨t,aI [p.ns.v,p.az.v,p.fs.v]::x1::J⟩:=by
 simp only[V3]at af
 have Ug:=q.gC
 simp only[i76,IC.sub,V0,seval]
 refine ze (fun jj st=>∃(k:Nat)(R:aU),q.l.length-k<=jj/\k<=q.l.length/\((q.l.take k).all fun c=>c.l.all fun z=>eN p z==lD)=true/\st.aa=aI [p.ns.v,p.az.v,p.fs.v]::x1::(J++R)/\aN 71 st.t [(2,.ptrM D 0 0),(4,lv),(6,.mapM D 1),(9,aG aH lD),(15,SJ),(16,iv n),(17,iv i),(40,q.v),(41,iv (q.l.length:Nat)),(42,iv k)]) q.l.length Ω ⟨0,[],Ω,Ω,rfl,by rw[iL],by simp only[V0,seval,af,eU]⟩ ?_
 clear af
 rintro jj ⟨t,aa⟩ KA ⟨k,R,hjj,hk,hA1,ho,af⟩ bV cS dA
 dsimp only at ho af
 subst ho
 simp only[V3]at af
 by_cases h:k<q.l.length
 ·have hx:q.l[k]?=some q.l[k]:=cK h
  have hc:=lY _ (gU h)
  have qo:=gU h
  have hsd:=DE _ (gU h)
  generalize q.l[k]=c at hx hc hsd qo
  have hrd:bM (q.l.flatMap ia) (k*1) 1=some [c.v]:=(zd zr 0 1 hx Ω).trans rfl
  have hw:=zq k
  have B9:=c.gC
  simp only[V0,seval,af,h,za q h,hrd]
  refine ze (fun jj st=>∃(l:Nat)(R:aU),c.l.length-l<=jj/\l<=c.l.length/\((c.l.take l).all fun z=>eN p z==lD)=true/\st.aa=aI [p.ns.v,p.az.v,p.fs.v]::x1::(J++R)/\aN 71 st.t [(2,.ptrM D 0 0),(4,lv),(6,.mapM D 1),(9,aG aH lD),(15,SJ),(16,iv n),(17,iv i),(40,q.v),(41,iv (q.l.length:Nat)),(42,iv k),(46,c.v),(47,iv (c.l.length:Nat)),(48,iv l)]) c.l.length Ω ⟨0,R,Ω,Ω,rfl,rfl,by simp only[V0,seval,af,eU]⟩ ?_
  clear af
  rintro jj ⟨t,aa⟩ KB ⟨l,R,hjj2,hl,hA2,ho,af⟩ jo lX mE
  dsimp only at ho af
  subst ho
  simp only[V3]at af
  by_cases h2:l<c.l.length
  ·have hx2:c.l[l]?=some c.l[l]:=cK h2
   have hz:=hsd _ (gU h2)
   have hzm:=gU h2
   generalize c.l[l]=z at hx2 hz hzm
   have afi:bM (c.l.flatMap aL) (l*1) 1=some [aG aH z]:=(zd zf 0 1 hx2 Ω).trans rfl
   have hw2:=zq l
   simp only[Pn.c,zg]at hz
   cases hb:(eN p z != lD)
   ·simp only[V0,seval,za c h2,hb, *]
    exact jo _ (c.l.length-(l+1)) Ω ⟨l+1,R++[.free],Ω,Ω,by rw[lH,hx2,rP,Xy,hA2];simpa[bne]using hb,rfl,cD⟩
   ·simp only[V0,seval,af,h2,za c h2,afi,hz,hb]
    refine mE _ ?_
    simp only[V0,seval]
    refine dA _ ?_
    simp only[V0,seval]
    refine hR _ _ cD ?_
    rw[zlz]
    refine⟨c,qo,?_⟩
    rw[sZ,zlz]
    exact⟨z,hzm,by simpa[bne]using hb⟩
  ·simp only[V0,seval,af,h2]
   refine lX _ _ ?_
   simp only[V0,seval,af,hw]
   exact bV _ (q.l.length-(k+1)) Ω ⟨k+1,R,Ω,Ω,by rw[lH,hx,rP,Xy,hA1];rw[gj Ω]at hA2;simp[hA2],rfl,cD⟩
 ·simp only[V0,seval,af,h]
  refine cS _ _ ?_
  simp only[V0,seval]
  rw[gj Ω]at hA1
  exact hK _ _ cD hA1
theorem Qu(hS:bN S){m D:Nat}{ah:bR}{K:fP}(p:Pn)(a:Ar)(q:aS 1 ia)(hq:q.l.length<=1000000)(hm:q.l.length+200010<=m)(lY:∀ c∈q.l,c.l.length<=200000)(r5:∀ d ah aK aa id,aM aR S m d ah aK aa id 123 [.agg (lq a)]=some (.r,q.v,aa))(DE:∀ c∈q.l,∀ z∈c.l,∀ d ah aK aa id,aM aR S m d ah aK aa id 122 [.agg p.c,iv z]=some (.r,aG aH (eN p z),aa))
  (t:List IV) (lD:Int) (i n ja:Nat) (lv SJ:IV) (x1:aO) (J:aU) (xs:List Int) (hO:cg aL 1 D 2 J lv xs) (hx:xs.length<=1000000) (hja:J[ja]?=some (aI [aG aH a.tw,a.oc.v,a.ic.v,a.al.v]))
  (af:aN 71 t [(2,.ptrM D 0 0),(4,lv),(6,.mapM D 1),(8,.ptrM D (ja+1+1) 0),(9,aG aH lD),(15,SJ),(16,iv n),(17,iv i)])
  (hK:∀ t' dR J',cg aL 1 D 2 J' dR (xs++[lD])->aN 71 t' [(2,.ptrM D 0 0),(4,dR),(6,.mapM D 1),(15,SJ),(16,iv n),(17,iv i)]->(q.l.all fun c=>c.l.all fun z=>eN p z==lD)=true->K .normal ⟨t',aI [p.ns.v,p.az.v,p.fs.v]::x1::J'⟩)
  (hR:∀ t' O,aN 71 t' [(4,.nilsl),(5,.bool false)]->(q.l.all fun c=>c.l.all fun z=>eN p z==lD)=false->K .ret ⟨t',O⟩) :
  Ex (aM aR S m) D ah m (i76.body.sub [1,1,0,1,0,0,1,1,0,0,1,1,1]) K ⟨t,aI [p.ns.v,p.az.v,p.fs.v]::x1::J⟩:=by
 simp only[V3]at af
 rw[show i76.body.sub [1,1,0,1,0,0,1,1,0,0,1,1,1]=.seq (.seq (i76.body.sub [1,1,0,1,0,0,1,1,0,0,1,1,1,0,0]) (i76.body.sub [1,1,0,1,0,0,1,1,0,0,1,1,1,0,1])) (i76.body.sub [1,1,0,1,0,0,1,1,0,0,1,1,1,1])from rfl]
 have hI:=fun{K:fP} t lv x1 J af hK hR=>@L8 S hS m D ah K p q hq hm lY DE t lD i n lv SJ x1 J af hK hR
 generalize i76.body.sub [1,1,0,1,0,0,1,1,0,0,1,1,1,0,1]=T at hI ⊢
 have fa:(J++[aO.free])[ja]?=some (aI [aG aH a.tw,a.oc.v,a.ic.v,a.al.v]):=by rw[gT (cU.1 hja).1];exact hja
 simp only[lq]at r5
 simp only[i76,IC.sub,V0,seval,af,fa,r5]
 refine hI _ lv _ _ cD (fun t' R ht hall=>?_) (fun t' O ht hall=>?_)
 ·clear af
  simp only[zb,zc]at ht
  obtain⟨e,dR,J2,b9,dX⟩:=zM (Pre:=[aI [p.ns.v,p.az.v,p.fs.v],x1]) (J:=J++[aO.free]++R) (n0:=(J++[aO.free]++R).length+1+1) (slot:=0) (k:=0) (ah:=ah) (R:=[.free]) zf ((hO.more [.free]).more R) (ys:=[lD]) Ψ (by simp only[cu,dw];omega) (by simp only[cu,dw];omega) rfl rfl
  simp only[gQ,gM,fJ,lz,aL,zg,cu,dw,iL,fO,kR]at b9
  simp only[V0,seval,ht,rep,zh,zk,zo,zu]
  have hn0:(J++.free::R).length=J.length+(R.length+1):=by simp
  simp only[hn0]at b9
  simp only[V0,seval,b9,ht]
  exact hK _ _ _ dX cD hall
 ·simp only[V0,seval]
  exact hR _ _ ht hall
theorem GC(hS:bN S)(p:Pn)(iz:bQ p)(U:List (aS 1 aL))(hU:U.length<=65536)(hUc:∀ c∈U,c.l.length<=200000)(ahj:∀ c∈U,c.l≠[])(hsR:∀ c∈U,∀ z∈c.l,eN p z=e8 p z):∃ N,∀ As:aS 4 lq,BT U As.l->(∀ a,As.l[0]?=some a->a.tw=0)->∀ m,N<=m->∀ d ah aK aa id,∃(xs:aS 1 aL)(ok:Bool),aM aR S m d ah aK aa id 76 [.agg p.c,As.v]=some (.r,.tuple [xs.v,.bool ok],aa)/\ok=fcP p (dS p 0 As.l []):=by
 have hsd:∀ c∈lQ::U,∃ N,∀ m,N<=m->∀ z∈c.l,∀ d ah aK aa id,aM aR S m d ah aK aa id 122 [.agg p.c,iv z]=some (.r,aG aH (eN p z),aa):=fun c _=>by have h1:∀ z∈c.l,∃ N,∀ m,N<=m->∀ d ah aK aa id,aM aR S m d ah aK aa id 122 [.agg p.c,iv z]=some (.r,aG aH (eN p z),aa):=fun z _=>Ru hS p z iz;obtain⟨N,hN⟩:=Fe c.l h1;exact⟨N,fun m hm z hz=>hN z hz m hm⟩
 obtain⟨N1,vf⟩:=Fe (lQ::U) hsd;refine⟨N1+400010,fun As hA hA0 m hm d ah aK aa id=>?_⟩;have Us:∀ a∈As.l,∀ m,10<=m->∃ q:aS 1 ia,q.l=a.oc::a.ic.l/\∀ d ah aK aa id,aM aR S m d ah aK aa id 123 [.agg (lq a)]=some (.r,q.v,aa):=fun a ha m hm=>by obtain⟨i,hi⟩:=pY ha;obtain⟨q,h1,h2⟩:=Hx hS a (by have:=(hA.2.2 i a hi).1;omega);exact⟨q,h1,h2 m hm⟩
 have hAl:=hA.2.1;obtain⟨m,rfl⟩:=me m 6;have main:∃ v,aM aR S (m+5+1) d ah aK aa id 76 [.agg p.c,As.v]=some (.r,v,aa)/\∃(xs:aS 1 aL)(ok:Bool),v=.tuple [xs.v,.bool ok]/\ok=fcP p (dS p 0 As.l []):=by
  refine ZG (i:=i76) (ns hS) rfl rfl (lb rfl) fun t af=>?_;simp only[V2,i76,Pn.c]at af;generalize(fun l=>if l=d then aK else ah l:bR)=cQ
  suffices kY:∀ K:fP,(∀ t' x0 x1 J lv xs ok,cg aL 1 (d+1) 2 J lv xs->xs.length<=1000000->ok=fcP p (dS p 0 As.l [])->aN 71 t' [(4,lv),(5,.bool ok)]->K .ret ⟨t',x0::x1::J⟩)->(∀ t' O,aN 71 t' [(4,.nilsl),(5,.bool false)]->dS p 0 As.l []=none->K .ret ⟨t',O⟩)->Ex (aM aR S (m+5)) (d+1) cQ (m+5) i76.body K ⟨t,[]⟩ from kY _ (fun t' x0 x1 J lv xs ok hO hx hok ht=>by
   simp only[zb,zc]at ht;rw[yV];have hf:=yK (Pre:=[x0,x1]) (m:=m+4) zf (fun a x hx=>by
    simp only[aL,fF,j4,k7]at hx;subst hx;exact zn) Ω (show xs.length<9223372036854775808 by omega) hO
   refine⟨.tuple [lv,.bool ok],.tuple [(eX zf xs Ω).v,.bool ok],by simp only[i76,V0,seval,ht],?_,_,ok,rfl,hok⟩;have h2:freeze (m+4) (d+1) (x0::x1::J) (.bool ok)=some (.bool ok):=rfl;simp only[gQ,gM]at hf;rw[show m+5=(m+4)+1 from rfl];unfold freeze;simp only[rO,Cc,hf,h2,tC,uG,jG,gH]) (fun t' O ht hno=>by
   simp only[zb,zc]at ht;rw[yV];exact ⟨.tuple [.nilsl,.bool false],.tuple [lQ.v,.bool false],by simp only [i76,V0,sevalprocAttr,ht],rfl,lQ,false,rfl,by rw [hno]; rfl⟩)
  intro K fin UD;have Qf:=As.gC;rw[show i76.body=.seq (i76.body.sub [0]) (.seq (i76.body.sub [1,0]) (.seq (.seq (i76.body.sub [1,1,0,0]) (.block 0 (.loop (.seq (i76.body.sub [1,1,0,1,0,0,0]) (.seq (i76.body.sub [1,1,0,1,0,0,1,0]) (.seq (.block 1 (.seq (i76.body.sub [1,1,0,1,0,0,1,1,0,0,0]) (.seq (i76.body.sub [1,1,0,1,0,0,1,1,0,0,1,0]) (.seq (i76.body.sub [1,1,0,1,0,0,1,1,0,0,1,1,0]) (i76.body.sub [1,1,0,1,0,0,1,1,0,0,1,1,1]))))) (i76.body.sub [1,1,0,1,0,0,1,1,1]))))))) (.seq (i76.body.sub [1,1,1,0]) (i76.body.sub [1,1,1,1]))))from rfl];have hT:=fun{K:fP} a q hq hm lY r5 DE t lD i n ja lv SJ x1 J xs hO hx hja af hK hR=>@Qu S hS (m+5) (d+1) cQ K p a q hq hm lY r5 DE t lD i n ja lv SJ x1 J xs hO hx hja af hK hR;generalize i76.body.sub [1,1,0,1,0,0,1,1,0,0,1,1,1]=T at hT ⊢;simp only[i76,IC.sub,V0,seval,af];refine ze (fun jj st=>∃(i:Nat)(lv:IV)(J:aU)(Ls:List (Int×Bool))(bs:List Nat)(ck:Nat)(xs:List Int),As.l.length-i<=jj/\i<=As.l.length/\cg aL 1 (d+1) 2 J lv xs/\xs.length<=i/\(∃ fs:List Int,Ls=iT fs/\dS p i (As.l.drop i) fs=dS p 0 As.l [])/\st.aa=aI [p.ns.v,p.az.v,p.fs.v]::.map (gK Ls) (gR IV.bool Ls) bs ck::J/\aN 71 st.t [(2,.ptrM (d+1) 0 0),(4,lv),(6,.mapM (d+1) 1),(15,As.v),(16,iv (As.l.length:Nat)),(17,iv i)]) As.l.length Ω ⟨0,.nilsl,[],[],[],0,[],Ω,Ω,.inl ⟨rfl,rfl⟩,Ψ,⟨[],rfl,by rw[BV]⟩,rfl,by simp only[V0,seval,af,eU]⟩ ?_;clear af;rintro jj ⟨t,aa⟩ KA ⟨i,lv,J,Ls,bs,ck,xs,hjj,hi,hO,hxl,⟨fs,rfl,hG⟩,ho,af⟩ bV cS dA;dsimp only at ho af;subst ho;simp only[V3]at af;by_cases h:i<As.l.length
  ·have hx:As.l[i]?=some As.l[i]:=cK h;obtain⟨q,hq1,lG⟩:=Us _ (gU h) (m+5) Ω;rw[HM h]at hG;generalize As.l[i]=a at hx hq1 lG hG;obtain⟨a1,a2,a3,a4⟩:=hA.2.2 i a hx;have hqU:∀ c∈q.l,c∈lQ::U:=fun c hc=>by
    rw[hq1]at hc;rcases fF.1 hc with rfl|hc
    ·exact a4
    ·exact nk _ (a2 c hc)
   have hqc:∀ c∈q.l,c.l.length<=200000:=fun c hc=>by
    rcases fF.1 (hqU c hc)with rfl|h
    ·exact NA _
    ·exact hUc c h
   have hqs:∀ c∈q.l,∀ z∈c.l,∀ d ah aK aa id,aM aR S (m+5) d ah aK aa id 122 [.agg p.c,iv z]=some (.r,aG aH (eN p z),aa):=fun c hc=>vf c (hqU c hc) (m+5) Ω;have pU:q.l.length<=65537:=by rw[hq1,cu];omega
   have hrd:bM (As.l.flatMap lq) (i*4) 4=some [aG aH a.tw,a.oc.v,a.ic.v,a.al.v]:=(zd Zs 0 4 hx Ω).trans rfl;have hw:=zq i;have hall:∀ lD,(q.l.all fun c=>c.l.all fun z=>eN p z==lD)=jS p { a with tw:=lD }:=fun lD=>by
    have e1:∀ c∈lQ::U,(c.l.all fun z=>eN p z==lD)=cE p c.l lD:=fun c hc=>by
     rcases fF.1 hc with rfl|hc
     ·rfl
     ·exact zau fun z hz=>by rw[hsR c hc z hz]
    rw[hq1,qt,e1 a.oc a4];unfold jS;congr 1;exact zau fun c hc=>e1 c (nk _ (a2 c hc))
   rw[yW]at hG;cases hp:decide ((0:Int)<(i:Int))
   ·have WG:i=0:=by have:=of_decide_eq_false hp;omega
    have Un:jY p i a=0:=by rw[WG];exact hA0 a (by rw[←WG];exact hx)
    rw[Un,decide_eq_false (show ¬ 0<i by omega),ew,bC Δ,bC (show ¬ 0<i by omega)]at hG;simp only[V0,seval,af,h,za As h,hrd,eZ,hp];refine hT a q Ω Ω hqc lG hqs _ 0 i As.l.length J.length lv As.v _ _ xs (hO.more _) Ω Ψ cD (fun t' dR J' wG ht hok=>?_) (fun t' O ht hok=>?_)
    ·simp only[V3]at ht;simp only[V0,seval,ht,hw];exact bV _ (As.l.length-(i+1)) Ω ⟨i+1,dR,J',iT fs,bs,ck,_,Ω,Ω,wG,by simp only[eR,cu,dw];omega,⟨fs,rfl,by rw[bt (by rw[←hall 0];exact hok)]at hG;exact hG⟩,rfl,cD⟩
    ·simp only[V0,seval];refine dA _ ?_;simp only[V0,seval];exact UD _ _ ht (by rw[bC (by rw[←hall 0,hok];decide)]at hG;exact hG.symm)
   ·have WG:0<i:=by have:=of_decide_eq_true hp;omega
    have hoU:=a3 WG;obtain⟨z,r,Gm⟩:∃ z r,a.oc.l=z::r:=by
     cases hl:a.oc.l with
     |nil=>exact absurd hl (ahj _ hoU)
     |cons z r=>exact⟨z,r,rfl⟩
    have hz:=vf a.oc (nk _ hoU) (m+5) Ω z (by rw[Gm];exact kB ..);have hfz:jY p i a=eN p z:=by obtain⟨j,rfl⟩:∃ j,i=j+1:=⟨i-1,Ω⟩;show e8 p ((a.oc.l[0]?).getD 0)=_;rw[Gm];exact(hsR a.oc hoU z (by rw[Gm];exact kB ..)).symm
    rw[hfz,decide_eq_true WG,pX,bt WG]at hG;have WE:∀ aa,dD aa 1 a.oc.v (aG aH 0)=some (.p,.ptrC (a.oc.l.flatMap aL) (0*1),aa):=fun aa=>za a.oc (i:=0) (by rw[Gm];simp);have hrz:bM (a.oc.l.flatMap aL) (0*1) 1=some [aG aH z]:=(zd (l:=a.oc.l) (i:=0) (x:=z) zf 0 1 (by rw[Gm];rfl) Ω).trans rfl;simp only[Pn.c,zg]at hz;have hdA:∀(x y w z:aO),(b7 [] (J.length+1+1+1) (x::y::(J++[w,z])))[J.length+1+1]?=some w:=fun x y w z=>by rw[zp];simp
    cases Un:(eN p z==0)
    ·cases hs:kS false (iT fs) (eN p z)
     ·have evS:∀(R:aU)(C:Call)(n0:Nat)(aa:aU)(t:List IV)(a b:bG),ρ t a=.mapM (d+1) 1->ρ t b=aG aH (eN p z)->cH C (d+1) cQ n0 (aI [p.ns.v,p.az.v,p.fs.v]::.map (gK (iT fs)) (gR IV.bool (iT fs)) bs ck::R) aa t (.lookup (.bool false) (false,[1]) false a b)=some (.r,.bool (kS false (iT fs) (eN p z)),aa):=fun R C n0 aa t a b h1 h2=>YQ (bs:=bs) (ck:=ck) false (eN p z) rfl h1 h2 (by simp only[look,if_true,jP,qU]);have o8:fs.contains (eN p z)=false:=by rw[←zf4];exact hs
      have hput:=Ln o8;rw[Un,o8,iS,bC Δ]at hG;obtain⟨bs',iO,DC⟩:=HY (u:=IV.bool) (iT fs) bs ck (eN p z) true;have u7:=fun C n0 aK aa t a b c=>DC C (d+1) cQ n0 1 aK aa t a b c;simp only[V0,seval,af,h,za As h,hrd,eZ,hp,WE,hrz,hz,hdA,evS,hs,Un,u7];refine hT a q Ω Ω hqc lG hqs _ (eN p z) i As.l.length J.length lv As.v _ _ xs (hO.more _) Ω Ψ cD (fun t' dR J' wG ht hok=>?_) (fun t' O ht hok=>?_)
      ·simp only[V3]at ht;simp only[V0,seval,ht,hw];exact bV _ (As.l.length-(i+1)) Ω ⟨i+1,dR,J',_,bs',iO,_,Ω,Ω,wG,by simp only[eR,cu,dw];omega,⟨fs++[eN p z],hput,by rw[bt (by rw[←hall (eN p z)];exact hok)]at hG;exact hG⟩,rfl,cD⟩
      ·simp only[V0,seval];refine dA _ ?_;simp only[V0,seval];exact UD _ _ ht (by rw[bC (by rw[←hall (eN p z),hok];decide)]at hG;exact hG.symm)
     ·have evS:∀(R:aU)(C:Call)(n0:Nat)(aa:aU)(t:List IV)(a b:bG),ρ t a=.mapM (d+1) 1->ρ t b=aG aH (eN p z)->cH C (d+1) cQ n0 (aI [p.ns.v,p.az.v,p.fs.v]::.map (gK (iT fs)) (gR IV.bool (iT fs)) bs ck::R) aa t (.lookup (.bool false) (false,[1]) false a b)=some (.r,.bool (kS false (iT fs) (eN p z)),aa):=fun R C n0 aa t a b h1 h2=>YQ (bs:=bs) (ck:=ck) false (eN p z) rfl h1 h2 (by simp only[look,if_true,jP,qU]);simp only[V0,seval,af,h,za As h,hrd,eZ,hp,WE,hrz,hz,hdA,evS,hs,Un];refine dA _ ?_;simp only[V0,seval];exact UD _ _ cD (by rw[bt (by rw[←zf4,hs,Kq])]at hG;exact hG.symm)
    ·simp only[V0,seval,af,h,za As h,hrd,eZ,hp,WE,hrz,hz,hdA,Un];refine dA _ ?_;simp only[V0,seval];exact UD _ _ cD (by rw[bt (by rw[Un,iY])]at hG;exact hG.symm)
  ·simp only[V0,seval,af,h];refine cS _ _ ?_;have hlen:∀(aa:aU),jL (d+1) cQ (b7 [] (J.length+1+1) (aI [p.ns.v,p.az.v,p.fs.v]::.map (gK (iT fs)) (gR IV.bool (iT fs)) bs ck::J)) aa 2 (.mapM (d+1) 1)=some (.r,aG aH ((iT fs).length:Nat),aa):=fun aa=>by simp[jL,look,zp,gK]
   simp only[V0,seval,af,hlen];rw[VP Ω]at hG;refine fin _ _ _ _ _ _ (((iT fs).length:Int)==(p.fs.l.length:Int)) hO Ω ?_ cD;rw[←hG,KY];rfl
 obtain⟨v,h1,xs,ok,rfl,h2⟩:=main;exact⟨xs,ok,h1,h2⟩
end
theorem TQ{p:Pn}(h2:q8 p=true)(h3:uX p=true)(h4:(lp p (p.ns.l.map Nd.id)==0)=true):mJ p:=by
 rw[xg]at h4;cases h5:p.az.l.any (fun a=>!jK p a)
 ·unfold q8 at h2;simp only[gJ]at h2;unfold uX jc at h3;simp only[gJ,tB]at h3;have hlo:∀ a∈p.az.l,(dN p a.fr).isSome=true/\(dN p a.to).isSome=true:=fun a ha=>by have:=qT.1 h5 a ha;simp only[sZ,zm7,jK,gJ]at this;exact this
  refine⟨y6.1 h2.1,y6.1 h2.2.1,fun x hx=>Yy ?_,fun a ha q hq=>Yy ?_,fun a ha=>(hlo a ha).1,fun a ha=>(hlo a ha).2⟩
  ·have:=qT.1 h3.2.2.2.1 x hx;simpa using this
  ·have:=qT.1 h3.2.2.2.2 a ha;have h9:a.via.l.any fC=false:=by simpa only[sZ]using this
   have:=qT.1 h9 q hq;simpa using this
 ·rw[h5]at h4;cases h6:kP p.ns.l<;>rw[h6]at h4<;>simp at h4
theorem Lq(p:Pn):tL p (kG p.ns.l (mz p))=jf p:=by unfold tL jf Lc CO;rw[CI,xg];cases(mU p||nX p) <;> cases q8 p <;> cases uX p <;> cases kP p.ns.l <;> cases p.az.l.any (fun a=>!jK p a) <;> cases p.az.l.any (fun a=>!eD p a.l||!eD p a.r) <;> rfl
section
variable {S:cZ}
theorem C6(hS:bN S)(p:Pn)(hv:∀ a∈p.az.l,a.via.l.length<=64)(ha:p.az.l.length<=600)(hN:mJ p):∃ N,aP S N 66 [.agg p.c] (.bool (kG p.ns.l (mz p))):=by obtain⟨N,h⟩:=F6 hS p hv ha;refine⟨N,fun m hm d ah aK aa id=>?_⟩;obtain⟨v,hpv,h1⟩:=h m hm d ah aK aa id;rw[←C5 hN hpv];exact h1
theorem G6(hS:bN S)(Fl:∀ args,S 36 args=none)(p:Pn)(h1:p.ns.l.length<=1000000)(h2:p.az.l.length<=1000000)(h3:∀ a∈p.az.l,a.via.l.length<=1000000):∃ N,aP S N 36 [.agg p.c] (aG aH (jf p)):=by
 have hpl:∃ N,mU p=false->nX p=false->mJ p->aP S N 66 [.agg p.c] (.bool (kG p.ns.l (mz p))):=by
  by_cases hb:(mU p=false/\nX p=false)/\mJ p
  ·obtain⟨⟨h4,h5⟩,hN⟩:=hb;simp only[mU,uQ,vB]at h4;have h6:∀ a∈p.az.l,a.via.l.length<=64:=fun a ha=>by have:=qT.1 h5 a ha;simp only[jk]at this;omega
   obtain⟨N,h⟩:=C6 hS p h6 Ω hN;exact⟨N,fun _ _ _=>h⟩
  ·exact⟨0,fun h4 h5 h6=>absurd ⟨⟨h4,h5⟩,h6⟩ hb⟩
 obtain⟨Np,hp⟩:=hpl;rw[←Lq];generalize kG p.ns.l (mz p)=v at hp ⊢;refine⟨Np+p.ns.l.length+p.az.l.length+p.fs.l.length+1000100+1,?_⟩;refine ZF (i:=i36) (Fl _) rfl rfl (M6 rfl) (Np+p.ns.l.length+p.az.l.length+p.fs.l.length+1000100) Ω zn fun m hm d ah t af=>?_;simp only[slotsOf,zb,zc,i36,Pn.c]at af;have Qf:=p.az.gC;cases hl:mU p
 ·simp only[mU,uQ]at hl;obtain⟨l1,l2,l3⟩:=hl;have hl:mU p=false:=by simp only[mU,l1,l2,l3,Sr]
  simp only[i36,V0,seval,af,eZ,l1,l2,l3];refine ze (fun jj st=>∃(i:Nat)(O:aU),p.az.l.length-i<=jj/\i<=p.az.l.length/\(p.az.l.take i).any (fun a=>decide ((64:Int)<(a.via.l.length:Int)))=false/\st.aa=aI [p.ns.v,p.az.v,p.fs.v]::O/\aN 82 st.t [(1,.ptrM d 0 0),(24,p.az.v),(25,iv (p.az.l.length:Nat)),(26,iv i)]) p.az.l.length Ω ⟨0,[],Ω,Ω,Ψ,rfl,by simp only[V0,seval,af,eU]⟩ ?_;clear af;rintro jj ⟨t,aa⟩ KA ⟨i,O,hjj,hi,ha,ho,af⟩ bV cS dA;dsimp only at ho af;subst ho;simp only[zb,zc,zg]at af;by_cases h:i<p.az.l.length
  ·have hx:p.az.l[i]?=some p.az.l[i]:=cK h;generalize p.az.l[i]=x at hx;have hrd:bM (p.az.l.flatMap Ac.c) (i*6) 6=some [aG aH x.id,aG aH x.fr,aG aH x.to,x.via.v,aG aH x.l,aG aH x.r]:=(zd Ac.aZ 0 6 hx Ω).trans rfl;have hw:=zq i;cases hq:decide ((64:Int)<(x.via.l.length:Int))
   ·simp only[V0,seval,za p.az h,eZ, *];exact bV _ (p.az.l.length-(i+1)) Ω ⟨i+1,_,Ω,Ω,zF hx ha hq,rfl,cD⟩
   ·have hlv:nX p=true:=zZ (q:=fun a:Ac=>decide ((64:Int)<(a.via.l.length:Int))) hx hq;simp only[V0,seval,af,h,za p.az h,hrd,eZ,hq];refine dA _ ?_;simp only[V0,seval,af,tL,hlv,Kq,bT]
  ·have hlv:nX p=false:=by unfold nX;rw[←gj (l:=p.az.l) (i:=i) Ω];exact ha
   have hpl:=hp hl hlv;simp only[V0,seval,af,h];refine cS _ _ ?_;have c0:=fun dd oo aK aa id=>Rx hS p h1 h2 m Ω dd oo aK aa id;have qm:=yg zf (p.ns.l.map Nd.id) (YP h1);have hr2:=yg zf (p.az.l.map Ac.id) (YP h2);generalize eX zf (p.ns.l.map Nd.id) (YP h1)=q1 at c0 qm;generalize eX zf (p.az.l.map Ac.id) (YP h2)=q2 at c0 hr2;have n1:q1.l.length=p.ns.l.length:=by rw[qm,ig]
   have n2:q2.l.length=p.az.l.length:=by rw[hr2,ig]
   have a1:=fun dd oo aK aa id=>G8 hS q1 m Ω dd oo aK aa id;have a2:=fun dd oo aK aa id=>G8 hS q2 m Ω dd oo aK aa id;have a3:=fun dd oo aK aa id=>G8 hS p.fs m Ω dd oo aK aa id;have b1:=fun dd oo aK aa id=>G7 hS q1 m Ω dd oo aK aa id;have b2:=fun dd oo aK aa id=>G7 hS q2 m Ω dd oo aK aa id;have b3:=fun dd oo aK aa id=>G7 hS p.fs m Ω dd oo aK aa id;have b4:=fun dd oo aK aa id=>MA hS p 1000000 h3 m Ω dd oo aK aa id;have cc:=fun dd oo aK aa id=>Vl hS p q1 m Ω dd oo aK aa id;rw[qm]at a1 b1 cc;rw[hr2]at a2 b2;simp only[Pn.c]at c0 b4 cc;have hni:q8 p=true->uX p=true->(lp p (p.ns.l.map Nd.id)==0)=true->mJ p:=TQ;have hpe:tL p v=bif !q8 p then 10 else bif !uX p then 2 else bif lp p (p.ns.l.map Nd.id)==0 then(bif v then 0 else 11)else lp p (p.ns.l.map Nd.id):=by simp only[tL,hl,hlv,Sr,bL]
   rw[hpe];unfold q8 uX at hni ⊢;generalize dP (p.ns.l.map Nd.id)=u1 at a1 hni ⊢;generalize dP (p.az.l.map Ac.id)=u2 at a2 hni ⊢;generalize dP p.fs.l=u3 at a3 hni ⊢;generalize(p.ns.l.map Nd.id).any iG=w1 at b1 hni ⊢;generalize(p.az.l.map Ac.id).any iG=w2 at b2 hni ⊢;generalize p.fs.l.any iG=w3 at b3 hni ⊢;generalize jc p=w4 at b4 hni ⊢;generalize lp p (p.ns.l.map Nd.id)=ce at cc hni ⊢;have jw:∀ z:Int,(z != 0)=!(z==0):=fun z=>rfl;cases u1
   ·simp only[V0,seval,af,c0,a1,ew,bT]
   ·cases u2
    ·simp only[V0,seval,af,c0,a1,a2,ew,bT]
    ·cases u3
     ·simp only[V0,seval,bT, *]
     ·cases w1
      ·cases w2
       ·cases w3
        ·cases w4
         ·simp only[V0,seval,b2,l8,bT,bL, *]
         ·cases hce:ce==0
          ·simp only[V0,seval,b2,bL, *]
          ·have cp:=fun dd oo aK aa id=>hpl (hni rfl rfl hce) m Ω dd oo aK aa id;simp only[Pn.c]at cp;cases v
           ·simp only[V0,seval,b2,bT,bL, *]
           ·simp only[V0,seval,b2,bT,bL, *]
        ·simp only[V0,seval,b2,ew,l8,bT,bL, *]
       ·simp only[V0,seval,b2,ew,l8,bT,bL, *]
      ·simp only[V0,seval,ew,bT,bL, *]
 ·have hpe:tL p v=3:=by simp only[tL,hl,iY,bT]
  rw[hpe];simp only[mU]at hl;cases l1:decide ((256:Int)<(p.ns.l.length:Int))
  ·cases l2:decide ((256:Int)<(p.az.l.length:Int))
   ·have l3:decide ((64:Int)<(p.fs.l.length:Int))=true:=by simpa[l1,l2]using hl
    simp only[i36,V0,seval,af,eZ,l1,l2,l3]
   ·simp only[i36,V0,seval,af,eZ,l1,l2]
  ·simp only[i36,V0,seval,af,eZ,l1]
end
theorem I7(o a:Pt):Wk o a=B8 o a:=by unfold Wk B8;rfl
theorem wz{o p q:Pt}(ho:o.near)(hp:p.near)(hq:q.near)(SG:p≠o)(hqo:q≠o):rj o p q=lss o p q:=by
 have n1:eO p o=false:=Sy.2 fun h=>SG (ZY.1 h);have n2:eO q o=false:=Sy.2 fun h=>hqo (ZY.1 h);have hall:[o,p,q].all bl=true:=by rw[qt,qt,qt,zI ho,zI hp,zI hq];rfl
 unfold rj lss;rw[hall,n1,n2,XT (zI ho) (zI hp) (zI hq),←SC,I7,I7];simp
section
variable {p:Pn} (h:aV p)
include h
theorem aV.Gd{x:Nd}(hx:x∈p.ns.l){i j:Nat}{a b:Int}(ha:(bD p x.id)[i]?=some a)(hb:(bD p x.id)[j]?=some b):lss x.at' (h.bp.sc a) (h.bp.sc b)=true↔i<j:=by
 have hp:=yk.1 (h.around hx).2;constructor
 ·intro hl;rcases zl2 i j with hij|hij|hij
  ·exact hij
  ·subst hij;rw[ha]at hb;cases hb;rw[AX]at hl;cases hl
  ·exact(Zw hl (hp j i b a hij hb ha)).elim
 ·intro hij;exact hp i j a b hij ha hb
theorem aV.JM{x:Nd}(hx:x∈p.ns.l){L:List (Int×Pt)}(hL:∀ z∈bB p x.id,jB L z=fS p z){a b:Int}(ha:a∈bB p x.id)(hb:b∈bB p x.id):Ew x.at' L a b<0↔lss x.at' (h.bp.sc a) (h.bp.sc b)=true:=by
 have key:∀ z∈bB p x.id,fS p z=h.bp.sc z/\(fS p z).near/\fS p z≠x.at':=fun z hz=>by
  obtain⟨d1,d2⟩:=(h.qK hx).2 hz;have e:fS p z=h.bp.sc z:=by
   obtain⟨a,ha,rfl|rfl⟩:=h.cW.1 d1
   ·exact(h.qA ha).2.symm
   ·exact(h.rT ha).2.symm
  have hn:=h.V5 d1;rw[d2]at hn;exact⟨e,by rw[e];exact hn.2,by rw[e];exact hn.1⟩
 obtain⟨a1,a2,a3⟩:=key a ha;obtain⟨b1,b2,b3⟩:=key b hb;have ho:=Yv (h.nice.Lz x hx);unfold Ew;rw[hL a ha,hL b hb,wz ho a2 b2 a3 b3,wz ho b2 a2 b3 a3,a1,b1];cases lss x.at' (h.bp.sc a) (h.bp.sc b)<;>cases lss x.at' (h.bp.sc b) (h.bp.sc a)<;>simp
theorem aV.Ev{x:Nd}(hx:x∈p.ns.l){L:List (Int×Pt)}(hL:∀ z∈bB p x.id,jB L z=fS p z):Orders (fun a b:{ z // z∈bB p x.id }=>Ew x.at' L a.1 b.1):=by
 have ix:∀ a:{ z // z∈bB p x.id },∃ i,(bD p x.id)[i]?=some a.1:=fun a=>pY ((h.around hx).1.mem_iff.2 a.2);have lt:∀(a b:{ z // z∈bB p x.id }){i j:Nat},(bD p x.id)[i]?=some a.1->(bD p x.id)[j]?=some b.1->(Ew x.at' L a.1 b.1<0↔i<j):=fun a b i j hi hj=>(h.JM hx hL a.2 b.2).trans (h.Gd hx hi hj);refine⟨fun a b=>?_,fun a b c h1 h2=>?_⟩
 ·obtain⟨i,hi⟩:=ix a;obtain⟨j,hj⟩:=ix b;unfold up;rw[lt b a hj hi,lt a b hi hj];omega
 ·obtain⟨i,hi⟩:=ix a;obtain⟨j,hj⟩:=ix b;obtain⟨k,hk⟩:=ix c;unfold up at h1 h2 ⊢;rw[lt b a hj hi]at h1;rw[lt c b hk hj]at h2;rw[lt c a hk hi];omega
end
section
variable {S:cZ}
theorem zdi(hS:bN S){m d:Nat}{ah:bR}(hm:4<=m)(z:Int)(y:Pt)(x0 x2 x3:aO)(L:List (Int×Pt))(bs:List Nat)(ck:Nat)(J:aU)(lv:IV)(xs:List Int)(hO:cg aL 1 d 6 J lv xs)(hx:xs.length<=1000000)(aK:aU) :
  ∃(dR:IV)(J':aU)(L':List (Int×Pt))(bs':List Nat)(iO:Nat),(∀ id,aM aR S m d ah aK (x0::aI [lv]::x2::x3::.map (eE L) (eG L) bs ck::aI [.mapM d 4]::J) id 151 [aG aH z,.agg [aG aH y.x,aG aH y.y],.ptrM d 1 0,.ptrM d 5 0]=some (.x,.tuple [],x0::aI [dR]::x2::x3::.map (eE L') (eG L') bs' iO::aI [.mapM d 4]::J'))/\cg aL 1 d 6 J' dR (xs++[z])/\(∀ k,jB L' k=if k=z then y else jB L k)/\∀(j:Nat)(x:aO),J[j]?=some x->x≠aO.cells (xs.flatMap aL)->J'[j]?=some x:=by
 obtain⟨m,rfl⟩:=me m 1
 obtain⟨L',bs',iO,hlk,DC⟩:=AV L bs ck z y
 obtain⟨e,dR,J2,b9,dX,hkeep⟩:=zcm (Pre:=[x0,aI [lv],x2,x3,.map (eE L) (eG L) bs ck,aI [.mapM d 4]]) (n0:=J.length+1+1+1+1+1+1+1) (slot:=0) (k:=1) (ah:=ah) (R:=[aI [aG aH y.x,aG aH y.y],.free]) zf hO (ys:=[z]) Ψ (by simp only[cu,dw];omega) (by simp only[cu,dw];omega) rfl rfl
 simp only[gQ,gM,fJ,lz,aL,zg,cu,dw,iL,fO]at b9
 obtain⟨v1,v2⟩:=dX.one
 have hy:J2[J.length]?=some (aI [aG aH y.x,aG aH y.y]):=hkeep J.length _ Ω Ψ (.inl (dz _))
 have main:∃ v aX,(∀ id,aM aR S (m+1) d ah aK (x0::aI [lv]::x2::x3::.map (eE L) (eG L) bs ck::aI [.mapM d 4]::J) id 151 [aG aH z,.agg [aG aH y.x,aG aH y.y],.ptrM d 1 0,.ptrM d 5 0]=some (.x,v,aX))/\(v=.tuple []/\aX=x0::aI [dR]::x2::x3::.map (eE L') (eG L') bs' iO::aI [.mapM d 4]::J2):=by refine yU (i:=i151) (ns hS) rfl rfl (lb rfl) fun t af=>?_;simp only[V2,Xb,i151]at af;have u7:=fun C n0 aK aa t a b c=>DC C d ah n0 4 aK aa t a b c;simp only[i151,V0,seval,rep,zh,zk,zo,zu,ZV,TC, *];exact⟨_,rfl,rfl⟩
 obtain⟨v,aX,h1,rfl,rfl⟩:=main
 refine⟨dR,J2,L',bs',iO,h1,dX,hlk,fun j x hj hne=>?_⟩
 have au:=(cU.1 hj).1
 exact hkeep j x Ω (by rw[gT au];exact hj) (.inr hne)
end
section
variable {S:cZ}
theorem He(hS:bN S)(p:Pn){m D:Nat}{ah:bR}(hm:4<=m)(K:fP)(t:List IV)(node:Int)(x:Ac)(j i:Nat)(q':aS 2 Pt.c)(hq:2<=q'.l.length)(O0 x2 x3:aO)(lv:IV)(J:aU)(L:List (Int×Pt))(bs:List Nat)(ck:Nat)(xs:List Int)
  (hj:J[j]?=some (aI [aG aH x.id,aG aH x.fr,aG aH x.to,x.via.v,aG aH x.l,aG aH x.r])) (hO:cg aL 1 D 6 J lv xs) (hx:xs.length<=1000000)
  (af:aN 80 t [(1,aG aH node),(2,.ptrM D 0 0),(4,.ptrM D 1 0),(5,.ptrM D 3 0),(7,.ptrM D 5 0),(8,.fn 151 [] [.ptrM D 1 0,.ptrM D 5 0]),(10,.ptrM D (j+1+1+1+1+1+1) 0),(11,q'.v),(24,p.az.v),(25,iv (p.az.l.length:Nat)),(26,iv i)])
  (hK:∀ t' lv J L' bs ck xs',J[j]?=some (aI [aG aH x.id,aG aH x.fr,aG aH x.to,x.via.v,aG aH x.l,aG aH x.r])->cg aL 1 D 6 J lv xs'->(xs'=xs++(if (x.fr==node)=true then[x.id]else[])/\∀ k,jB L' k=if (x.fr==node)=true/\k=x.id then(q'.l[1]?).getD ⟨0,0⟩else jB L k)->aN 80 t' [(1,aG aH node),(2,.ptrM D 0 0),(4,.ptrM D 1 0),(5,.ptrM D 3 0),(7,.ptrM D 5 0),(8,.fn 151 [] [.ptrM D 1 0,.ptrM D 5 0]),(10,.ptrM D (j+1+1+1+1+1+1) 0),(11,q'.v),(24,p.az.v),(25,iv (p.az.l.length:Nat)),(26,iv i)]->K .normal ⟨t',O0::aI [lv]::x2::x3::.map (eE L') (eG L') bs ck::aI [.mapM D 4]::J⟩) :
  Ex (aM aR S m) D ah m (i115.body.sub [1,1,1,1,1,0,1,0,0,1,1,0,0,1,1,1,1,0]) K ⟨t,O0::aI [lv]::x2::x3::.map (eE L) (eG L) bs ck::aI [.mapM D 4]::J⟩:=by
 have ahe:=af
 simp only[V3]at af
 cases hf:x.fr==node
 ·simp only[i115,IC.sub,V0,seval,af,hj,hf]
  exact hK _ _ _ _ _ _ _ hj hO ⟨by simp[hf],fun k=>by simp[hf]⟩ cD
 ·obtain⟨y,hy⟩:∃ y,q'.l[1]?=some y:=⟨_,cK Ω⟩
  have hr:bM (q'.l.flatMap Pt.c) (1*2) 2=some [aG aH y.x,aG aH y.y]:=(zd Pt.aZ 0 2 hy Ω).trans rfl
  have ha:∀ aa,dD aa 2 q'.v (aG aH 1)=some (.p,.ptrC (q'.l.flatMap Pt.c) (1*2),aa):=fun aa=>za q' (i:=1) Ω
  have hj2:(J++[aO.free])[j]?=some (aI [aG aH x.id,aG aH x.fr,aG aH x.to,x.via.v,aG aH x.l,aG aH x.r]):=by rw[gT (cU.1 hj).1];exact hj
  obtain⟨dR,J',L',bs',iO,hc,Ur,hlk,hkeep⟩:=zdi (ah:=ah) hS hm x.id y O0 x2 x3 L bs ck (J++[aO.free]) lv xs (hO.more _) hx (b7 [] (J.length+1+1+1+1+1+1) (O0::aI [lv]::x2::x3::.map (eE L) (eG L) bs ck::aI [.mapM D 4]::(J++[aO.free])))
  have hh:(b7 [] (J.length+1+1+1+1+1+1) (O0::aI [lv]::x2::x3::.map (eE L) (eG L) bs ck::aI [.mapM D 4]::(J++[aO.free])))[j+1+1+1+1+1+1]?=some (aI [aG aH x.id,aG aH x.fr,aG aH x.to,x.via.v,aG aH x.l,aG aH x.r]):=by rw[zp];simp only[jP,hj2,gH];have:=(cU.1 hj).1;simp only[show j+1+1+1+1+1+1<J.length+1+1+1+1+1+1 by omega,decide_true,iY,if_true]
  simp only[i115,IC.sub,V0,seval,hc, *]
  exact hK _ _ _ _ _ _ _ (hkeep j _ hj2 RC) Ur ⟨by simp[hf],fun k=>by rw[hlk k];simp[hf,hy]⟩ cD
theorem G9(hS:bN S)(p:Pn){m D:Nat}{ah:bR}(hm:4<=m)(K:fP)(t:List IV)(node:Int)(x:Ac)(j i:Nat)(q':aS 2 Pt.c)(hq:2<=q'.l.length)(O0 x2 x3:aO)(lv:IV)(J:aU)(L:List (Int×Pt))(bs:List Nat)(ck:Nat)(xs:List Int)
  (hj:J[j]?=some (aI [aG aH x.id,aG aH x.fr,aG aH x.to,x.via.v,aG aH x.l,aG aH x.r])) (hO:cg aL 1 D 6 J lv xs) (hx:xs.length<=1000000)
  (af:aN 80 t [(1,aG aH node),(2,.ptrM D 0 0),(4,.ptrM D 1 0),(5,.ptrM D 3 0),(7,.ptrM D 5 0),(8,.fn 151 [] [.ptrM D 1 0,.ptrM D 5 0]),(10,.ptrM D (j+1+1+1+1+1+1) 0),(11,q'.v),(24,p.az.v),(25,iv (p.az.l.length:Nat)),(26,iv i)])
  (hK:∀ t' lv J L' bs ck xs',J[j]?=some (aI [aG aH x.id,aG aH x.fr,aG aH x.to,x.via.v,aG aH x.l,aG aH x.r])->cg aL 1 D 6 J lv xs'->(xs'=xs++(if (x.to==node)=true then[aT .i64 (0-x.id)]else[])/\∀ k,jB L' k=if (x.to==node)=true/\k=aT .i64 (0-x.id)then(q'.l[q'.l.length-2]?).getD ⟨0,0⟩else jB L k)->aN 80 t' [(1,aG aH node),(2,.ptrM D 0 0),(4,.ptrM D 1 0),(5,.ptrM D 3 0),(7,.ptrM D 5 0),(8,.fn 151 [] [.ptrM D 1 0,.ptrM D 5 0]),(10,.ptrM D (j+1+1+1+1+1+1) 0),(11,q'.v),(24,p.az.v),(25,iv (p.az.l.length:Nat)),(26,iv i)]->K .normal ⟨t',O0::aI [lv]::x2::x3::.map (eE L') (eG L') bs ck::aI [.mapM D 4]::J⟩) :
  Ex (aM aR S m) D ah m (i115.body.sub [1,1,1,1,1,0,1,0,0,1,1,0,0,1,1,1,1,1]) K ⟨t,O0::aI [lv]::x2::x3::.map (eE L) (eG L) bs ck::aI [.mapM D 4]::J⟩:=by
 have ahe:=af
 simp only[V3]at af
 cases hf:x.to==node
 ·simp only[i115,IC.sub,V0,seval,af,hj,hf]
  exact hK _ _ _ _ _ _ _ hj hO ⟨by simp[hf],fun k=>by simp[hf]⟩ cD
 ·obtain⟨y,hy⟩:∃ y,q'.l[q'.l.length-2]?=some y:=⟨_,cK Ω⟩
  have hr:bM (q'.l.flatMap Pt.c) ((q'.l.length-2)*2) 2=some [aG aH y.x,aG aH y.y]:=(zd Pt.aZ 0 2 hy Ω).trans rfl
  have pU:=q'.gC
  have hw:aT .i64 ((q'.l.length:Int)-2)=((q'.l.length-2:Nat):Int):=we
  have ha:∀ aa,dD aa 2 q'.v (aG aH ((q'.l.length-2:Nat):Int))=some (.p,.ptrC (q'.l.flatMap Pt.c) ((q'.l.length-2)*2),aa):=fun aa=>za q' (i:=q'.l.length-2) Ω
  have hj2:(J++[aO.free])[j]?=some (aI [aG aH x.id,aG aH x.fr,aG aH x.to,x.via.v,aG aH x.l,aG aH x.r]):=by rw[gT (cU.1 hj).1];exact hj
  obtain⟨dR,J',L',bs',iO,hc,Ur,hlk,hkeep⟩:=zdi (ah:=ah) hS hm (aT .i64 (0-x.id)) y O0 x2 x3 L bs ck (J++[aO.free]) lv xs (hO.more _) hx (b7 [] (J.length+1+1+1+1+1+1) (O0::aI [lv]::x2::x3::.map (eE L) (eG L) bs ck::aI [.mapM D 4]::(J++[aO.free])))
  have hh:(b7 [] (J.length+1+1+1+1+1+1) (O0::aI [lv]::x2::x3::.map (eE L) (eG L) bs ck::aI [.mapM D 4]::(J++[aO.free])))[j+1+1+1+1+1+1]?=some (aI [aG aH x.id,aG aH x.fr,aG aH x.to,x.via.v,aG aH x.l,aG aH x.r]):=by rw[zp];simp only[jP,hj2,gH];have:=(cU.1 hj).1;simp only[show j+1+1+1+1+1+1<J.length+1+1+1+1+1+1 by omega,decide_true,iY,if_true]
  simp only[i115,IC.sub,V0,seval,hc, *]
  exact hK _ _ _ _ _ _ _ (hkeep j _ hj2 RC) Ur ⟨by simp[hf],fun k=>by rw[hlk k];simp[hf,hy]⟩ cD
end
section
variable {S:cZ}
theorem BE(hS:bN S)(p:Pn){m D:Nat}{ah:bR}(hm:4<=m)(K:fP)(t:List IV)(node:Int)(x:Ac)(j i:Nat)(q':aS 2 Pt.c)(hq:2<=q'.l.length)(O0 x2 x3:aO)(lv:IV)(J:aU)(L:List (Int×Pt))(bs:List Nat)(ck:Nat)(xs:List Int)
  (hj:J[j]?=some (aI [aG aH x.id,aG aH x.fr,aG aH x.to,x.via.v,aG aH x.l,aG aH x.r])) (hO:cg aL 1 D 6 J lv xs) (hx:xs.length+1<=1000000)
  (af:aN 80 t [(1,aG aH node),(2,.ptrM D 0 0),(4,.ptrM D 1 0),(5,.ptrM D 3 0),(7,.ptrM D 5 0),(8,.fn 151 [] [.ptrM D 1 0,.ptrM D 5 0]),(10,.ptrM D (j+1+1+1+1+1+1) 0),(11,q'.v),(24,p.az.v),(25,iv (p.az.l.length:Nat)),(26,iv i)])
  (hK:∀ t' lv J L' bs ck xs',cg aL 1 D 6 J lv xs'->(xs'=xs++cV node x/\∀ k,jB L' k=if (x.to==node)=true/\k=jg x.id then(q'.l[q'.l.length-2]?).getD ⟨0,0⟩else if (x.fr==node)=true/\k=x.id then(q'.l[1]?).getD ⟨0,0⟩else jB L k)->aN 80 t' [(1,aG aH node),(2,.ptrM D 0 0),(4,.ptrM D 1 0),(5,.ptrM D 3 0),(7,.ptrM D 5 0),(8,.fn 151 [] [.ptrM D 1 0,.ptrM D 5 0]),(10,.ptrM D (j+1+1+1+1+1+1) 0),(11,q'.v),(24,p.az.v),(25,iv (p.az.l.length:Nat)),(26,iv i)]->K .normal ⟨t',O0::aI [lv]::x2::x3::.map (eE L') (eG L') bs ck::aI [.mapM D 4]::J⟩) :
  Ex (aM aR S m) D ah m (i115.body.sub [1,1,1,1,1,0,1,0,0,1,1,0,0,1,1,1,1]) K ⟨t,O0::aI [lv]::x2::x3::.map (eE L) (eG L) bs ck::aI [.mapM D 4]::J⟩:=by
 rw[show i115.body.sub [1,1,1,1,1,0,1,0,0,1,1,0,0,1,1,1,1]=.seq (i115.body.sub [1,1,1,1,1,0,1,0,0,1,1,0,0,1,1,1,1,0]) (i115.body.sub [1,1,1,1,1,0,1,0,0,1,1,0,0,1,1,1,1,1])from rfl,zez]
 refine He hS p hm _ t node x j i q' hq O0 x2 x3 lv J L bs ck xs hj hO Ω af fun t1 lv1 J1 L1 bs1 ck1 xs1 hj1 Fm hx1 ahd=>?_
 rw[yt]
 obtain⟨e1,g1⟩:=hx1
 have om:xs1.length<=xs.length+1:=by rw[e1,eR];split<;>simp
 refine G9 hS p hm _ t1 node x j i q' hq O0 x2 x3 lv1 J1 L1 bs1 ck1 xs1 hj1 Fm Ω ahd fun t2 uH J2 L2 bs2 ck2 XV hj2 dX hx2 adz=>?_
 obtain⟨e2,g2⟩:=hx2
 refine hK _ _ _ _ _ _ _ dX ⟨?_,fun k=>?_⟩ adz
 ·rw[e2,e1,kR]
  rfl
 ·rw[g2 k,g1 k]
  rfl
end
structure fW(p:Pn)(node:Int)(L:List (Int×Pt))(xs:List Int)(i:Nat):Prop where
 list:xs=(p.az.l.take i).flatMap (cV node)
 look:∀ a∈p.az.l.take i,∀ z∈cV node a,jB L z=fS p z
theorem zf5{node:Int}{a:Ac}{z:Int}:z∈cV node a↔((a.fr==node)=true/\z=a.id)∨((a.to==node)=true/\z=jg a.id):=by unfold cV;cases h1:a.fr==node<;>cases h2:a.to==node<;>simp
theorem GS{node:Int}(l:List Ac):(l.flatMap (cV node)).length<=2*l.length:=by
 induction l with
 |nil=>simp
 |cons a l ih =>
  have:(cV node a).length<=2:=by unfold cV;cases h1:a.fr==node<;>cases h2:a.to==node<;>simp
  rw[fJ,eR,cu]
  omega
section
variable {p:Pn} {node:Int} {L:List (Int×Pt)} {xs:List Int} {i:Nat}
theorem fW.zero:fW p node L [] 0:=⟨by rw[xI];rfl,fun a ha=>by simp at ha⟩
theorem fW.len(h:fW p node L xs i)(hi:i<=p.az.l.length):xs.length<=2*i:=by have:=GS (node:=node) (p.az.l.take i);rw[←h.list,k8,qu hi]at this;exact this
theorem fW.all(h:fW p node L xs i)(hi:p.az.l.length<=i):xs=bB p node/\∀ z∈bB p node,jB L z=fS p z:=by obtain⟨h1,h2⟩:=h;rw[gj hi]at h1 h2;refine⟨h1,fun z hz=>?_⟩;obtain⟨a,ha,hz⟩:=qS.1 hz;exact h2 a ha z hz
theorem fW.skip(h:fW p node L xs i){x:Ac}(hx:p.az.l[i]?=some x)(hf:(x.fr==node)=false)(ht:(x.to==node)=false):fW p node L xs (i+1):=by
 have e:cV node x=[]:=by unfold cV;rw[hf,ht];rfl
 refine⟨?_,fun a ha z hz=>?_⟩
 ·rw[lH,hx,rP,B6,←h.list,fJ,e];simp
 ·rw[lH,hx,rP,og,qx]at ha;rcases ha with ha|rfl
  ·exact h.look a ha z hz
  ·rw[e]at hz;cases hz
theorem fW.step(h:fW p node L xs i)(h0:aV p){x:Ac}(hx:p.az.l[i]?=some x)(tS:x∈p.az.l){q':List Pt}(hq:q'=eH p x.id){L':List (Int×Pt)}{xs':List Int}(e1:xs'=xs++cV node x)(e2:∀ k,jB L' k=if (x.to==node)=true/\k=jg x.id then(q'[q'.length-2]?).getD ⟨0,0⟩else if (x.fr==node)=true/\k=x.id then(q'[1]?).getD ⟨0,0⟩else jB L k):fW p node L' xs' (i+1):=by
 have hid:=h0.pid x tS;have hng:=h0.ng tS;have h2:=zN (p:=p) (a:=x);have hp:=(h0.nice.path tS).2;rw[hp]at hq;have s1:fS p x.id=(q'[1]?).getD ⟨0,0⟩:=by unfold fS bJ;rw[decide_eq_true (show 0<x.id by omega),bT,hp,hq]
 have s2:fS p (-x.id)=(q'[q'.length-2]?).getD ⟨0,0⟩:=by unfold fS bJ;rw[decide_eq_false (show ¬ 0 < -x.id by omega),bL,h0.ng2 tS,hp,XN Ω,hq];rfl
 refine⟨?_,fun a ha z hz=>?_⟩
 ·rw[lH,hx,rP,B6,←h.list,fJ,e1];simp
 ·rw[lH,hx,rP,og,qx]at ha;rw[e2 z];rcases ha with ha|rfl
  ·obtain⟨j,hj⟩:=pY ha;have hji:j<i:=by have:=(cU.1 hj).1;rw[k8]at this;omega
   rw[zlf hji]at hj;have au:a.id<x.id:=by have hp:=h0.nice.Nr;rw[qO]at hp;exact yk.1 hp j i a x hji hj hx
   have ham:=j5 hj;have qg:=h0.pid a ham;have hna:=h0.ng ham;have M9:z=a.id∨z=-a.id:=by
    rcases zf5.1 hz with⟨_,e⟩|⟨_,e⟩
    ·exact .inl e
    ·exact .inr (by rw[e,hna])
   rw[bC (fun e=>by have:=e.2;omega),bC (fun e=>by have:=e.2;omega)];exact h.look a ha z hz
  ·rcases zf5.1 hz with⟨c,rfl⟩|⟨c,rfl⟩
   ·rw[bC (fun e=>by have:=e.2;omega),bt ⟨c,rfl⟩,s1]
   ·rw[bt ⟨c,rfl⟩,hng,s2]
end
section
variable {S:cZ}
theorem BF(hS:bN S)(p:Pn)(h0:aV p)(iz:bQ p)(ha:p.az.l.length<=100000):∃ N,∀ m,N<=m->∀(D:Nat)(ah:bR)(K:fP)(t:List IV)(node:Int)(x2 x3:aO)(L:List (Int×Pt))(bs:List Nat)(ck:Nat),
  aN 80 t [(1,aG aH node),(2,.ptrM D 0 0),(4,.ptrM D 1 0),(5,.ptrM D 3 0),(7,.ptrM D 5 0),(8,.fn 151 [] [.ptrM D 1 0,.ptrM D 5 0])] ->
  (∀ t' lv J L bs ck xs,cg aL 1 D 6 J lv xs->(xs=bB p node/\∀ z∈bB p node,jB L z=fS p z)->aN 80 t' [(1,aG aH node),(2,.ptrM D 0 0),(4,.ptrM D 1 0),(5,.ptrM D 3 0),(7,.ptrM D 5 0)]->K .normal ⟨t',aI [p.ns.v,p.az.v,p.fs.v]::aI [lv]::x2::x3::.map (eE L) (eG L) bs ck::aI [.mapM D 4]::J⟩) ->
  Ex (aM aR S m) D ah m (i115.body.sub [1,1,1,1,1,0]) K ⟨t,aI [p.ns.v,p.az.v,p.fs.v]::aI [.nilsl]::x2::x3::.map (eE L) (eG L) bs ck::aI [.mapM D 4]::[]⟩:=by
 have PT:∀ a∈p.az.l,∃ N,∀ m,N<=m->∃ q':aS 2 Pt.c,(dJ p a.id=true->q'.l=eH p a.id)/\∀ d ah aK aa id,aM aR S m d ah aK aa id 38 [.agg p.c,iv a.id]=some (.r,.tuple [q'.v,iv (bif dJ p a.id then 0 else 7)],aa):=fun a _=>by obtain⟨q',h1,N,h2⟩:=Yr hS p a.id iz;exact⟨N,fun m hm=>⟨q',h1,h2 m hm⟩⟩
 obtain⟨Np,hNp⟩:=Fe p.az.l PT
 refine⟨Np+p.az.l.length+20,fun m hm D ah K t node x2 x3 L bs ck af hK=>?_⟩
 simp only[zb,zc]at af
 have Qf:=p.az.gC
 have hT:=fun{D:Nat}{ah:bR} K t node x j i q' hq O0 x2 x3 lv J L bs ck xs=>@BE S hS p m D ah Ω K t node x j i q' hq O0 x2 x3 lv J L bs ck xs
 rw[show i115.body.sub [1,1,1,1,1,0]=.seq (i115.body.sub [1,1,1,1,1,0,0]) (.block 0 (.loop (.seq (i115.body.sub [1,1,1,1,1,0,1,0,0,0]) (.seq (i115.body.sub [1,1,1,1,1,0,1,0,0,1,0]) (.seq (.block 1 (.seq (i115.body.sub [1,1,1,1,1,0,1,0,0,1,1,0,0,0]) (.seq (i115.body.sub [1,1,1,1,1,0,1,0,0,1,1,0,0,1,0]) (.seq (i115.body.sub [1,1,1,1,1,0,1,0,0,1,1,0,0,1,1,0]) (.seq (i115.body.sub [1,1,1,1,1,0,1,0,0,1,1,0,0,1,1,1,0]) (i115.body.sub [1,1,1,1,1,0,1,0,0,1,1,0,0,1,1,1,1])))))) (i115.body.sub [1,1,1,1,1,0,1,0,0,1,1,1]))))))from rfl]
 generalize i115.body.sub [1,1,1,1,1,0,1,0,0,1,1,0,0,1,1,1,1]=T at hT ⊢
 simp only[i115,IC.sub,V0,seval,af]
 refine ze (fun jj st=>∃(i:Nat)(lv:IV)(J:aU)(L:List (Int×Pt))(bs:List Nat)(ck:Nat)(xs:List Int),p.az.l.length-i<=jj/\i<=p.az.l.length/\cg aL 1 D 6 J lv xs/\fW p node L xs i/\st.aa=aI [p.ns.v,p.az.v,p.fs.v]::aI [lv]::x2::x3::.map (eE L) (eG L) bs ck::aI [.mapM D 4]::J/\aN 80 st.t [(1,aG aH node),(2,.ptrM D 0 0),(4,.ptrM D 1 0),(5,.ptrM D 3 0),(7,.ptrM D 5 0),(8,.fn 151 [] [.ptrM D 1 0,.ptrM D 5 0]),(24,p.az.v),(25,iv (p.az.l.length:Nat)),(26,iv i)]) p.az.l.length Ω ⟨0,.nilsl,[],L,bs,ck,[],Ω,Ω,.inl ⟨rfl,rfl⟩,fW.zero,rfl,by simp only[V0,seval,af,eU]⟩ ?_
 clear af
 rintro jj ⟨t,aa⟩ KA ⟨i,lv,J,L,bs,ck,xs,hjj,hi,hO,hD,ho,af⟩ bV cS dA
 dsimp only at ho af
 subst ho
 simp only[V3]at af
 by_cases h:i<p.az.l.length
 ·have hx:p.az.l[i]?=some p.az.l[i]:=cK h
  have tS:=gU h
  have hxl:=hD.len hi
  obtain⟨q',hq1,lG⟩:=hNp _ (gU h) m Ω
  generalize p.az.l[i]=x at hx hq1 lG tS
  have hrd:bM (p.az.l.flatMap Ac.c) (i*6) 6=some [aG aH x.id,aG aH x.fr,aG aH x.to,x.via.v,aG aH x.l,aG aH x.r]:=(zd Ac.aZ 0 6 hx Ω).trans rfl
  have hw:=zq i
  have jw:∀ a b:Int,(a != b)=!(a==b):=fun a b=>rfl
  simp only[zg,Pn.c]at lG
  have h70:((7:Int)==0)=false:=rfl
  have SH:((0:Int)==0)=true:=rfl
  by_cases Jl:(x.fr != node&&x.to != node)=true
  ·have hf:(x.fr==node)=false:=by simpa[bne]using(Bool.and_eq_true_iff.1 Jl).1
   have ht:(x.to==node)=false:=by simpa[bne]using(Bool.and_eq_true_iff.1 Jl).2
   simp only[V0,seval,za p.az h, *]
   exact bV _ (p.az.l.length-(i+1)) Ω ⟨i+1,lv,_,L,bs,ck,xs,Ω,Ω,hO.more _,hD.skip hx hf ht,rfl,cD⟩
  ·have hok:=(h0.nice.path tS).1
   have hj0:(J++[aO.cells [aG aH x.id,aG aH x.fr,aG aH x.to,x.via.v,aG aH x.l,aG aH x.r],.free])[J.length]?=some (aI [aG aH x.id,aG aH x.fr,aG aH x.to,x.via.v,aG aH x.l,aG aH x.r]):=by simp
   rw[hok]at lG
   have hlen:2<=q'.l.length:=by rw[hq1 hok,eH];simp
   have hst:=fun L' xs'=>hD.step h0 (L':=L') (xs':=xs') hx tS (hq1 hok)
   cases hf:x.fr==node
   ·have ht:(x.to==node)=true:=by simpa[bne,hf]using Jl
    simp only[V0,seval,za p.az h,bT, *]
    refine hT _ _ node x J.length i q' hlen _ _ _ _ _ _ _ _ xs hj0 (hO.more _) Ω cD fun t' dR J' L' bs' iO xs' wG hm' ht'=>?_
    simp only[V3]at ht'
    simp only[V0,seval,ht',hw]
    exact bV _ (p.az.l.length-(i+1)) Ω ⟨i+1,dR,J',L',bs',iO,xs',Ω,Ω,wG,hst _ _ hm'.1 hm'.2,rfl,cD⟩
   ·simp only[V0,seval,za p.az h,bT, *]
    refine hT _ _ node x J.length i q' hlen _ _ _ _ _ _ _ _ xs hj0 (hO.more _) Ω cD fun t' dR J' L' bs' iO xs' wG hm' ht'=>?_
    simp only[V3]at ht'
    simp only[V0,seval,ht',hw]
    exact bV _ (p.az.l.length-(i+1)) Ω ⟨i+1,dR,J',L',bs',iO,xs',Ω,Ω,wG,hst _ _ hm'.1 hm'.2,rfl,cD⟩
 ·simp only[V0,seval,af,h]
  refine cS _ _ ?_
  simp only[V0,seval]
  exact hK _ _ _ _ _ _ _ hO (hD.all Ω) cD
end
section
variable {p:Pn} (h:aV p)
include h
theorem aV.uR{x:Nd}(hx:x∈p.ns.l){L:List (Int×Pt)}(hL:∀ z∈bB p x.id,jB L z=fS p z){xs:List { z // z∈bB p x.id }}(hp:xs.Perm (bB p x.id).attach)(hs:Srt (fun a b:{ z // z∈bB p x.id }=>Ew x.at' L a.1 b.1) xs 0 xs.length):xs.map Subtype.val=bD p x.id:=by
 have Wy:=hp.map Subtype.val;rw[znw]at Wy;refine h.EG hx Wy ?_;rw[qO];refine yk.2 fun i j a b hij ha hb=>?_;have hj:=(cU.1 hb).1;have hu:=hs i j a b (NA _) hij hj ha hb;unfold up at hu;rw[h.JM hx hL b.2 a.2]at hu;obtain⟨u,hu1⟩:=pY ((h.around hx).1.mem_iff.2 a.2);obtain⟨v,Ws⟩:=pY ((h.around hx).1.mem_iff.2 b.2);rw[h.Gd hx Ws hu1]at hu;rw[h.Gd hx hu1 Ws];rcases zl2 u v with huv|huv|huv
 ·exact huv
 ·exfalso;subst huv;rw[hu1]at Ws;have aq:a=b:=Subtype.ext (kT Ws);subst aq;have ak:xs.Nodup:=by have:=Wy.nodup_iff.2 h.pJ;rw[List.Nodup,qO]at this;exact this.imp fun{a b} aq e=>aq (by rw[e])
  obtain⟨l1,e1⟩:=cU.1 ha;obtain⟨l2,e2⟩:=cU.1 hb;have:=(M1 ak).1 (e1.trans e2.symm);omega
 ·exact absurd huv hu
end
theorem Pu{P:Int->Prop}:Nw (fun a:{ z // P z }=>aL a.1) (fun a:{ z // P z }=>aG aH a.1) 1 false:=⟨fun _=>rfl,fun _=>rfl,fun _=>rfl,fun _=>rfl⟩
section
variable {S:cZ}
theorem vr(hS:bN S)(p:Pn)(h0:aV p)(iz:bQ p)(ha:2*p.az.l.length<65536){x:Nd}(hx:x∈p.ns.l):∃ q:aS 1 aL,q.l=bD p x.id/\∃ N,aP S N 115 [.agg p.c,aG aH x.id] q.v:=by
 obtain⟨Nl0,adt⟩:=BF hS p h0 iz Ω;obtain⟨Nn,ak⟩:=Yp hS p x.id;have qD:=ZZ p x.id;have Uq:=(h0.around hx).1;have hfl:(bD p x.id).length<9223372036854775808:=by rw[Uq.length_eq];omega
 refine⟨eX zf _ hfl,yg ..,Nl0+Nn+200000,fun m hm d ah aK aa id=>?_⟩;obtain⟨m,rfl⟩:=me m 2;have main:∃ r,aM aR S (m+1+1) d ah aK aa id 115 [.agg p.c,aG aH x.id]=some r/\r=(eV.r,(eX zf _ hfl).v,aa):=by
  refine yz (i:=i115) (ns hS) rfl Δ (lb rfl) fun t af=>?_;simp only[V2,i115,Pn.c]at af;generalize(fun l=>if l=d then aK else ah l:bR)=cQ
  have ak:=ak (m+1) Ω;have hL0:=@adt (m+1) Ω;simp only[zg,Pn.c]at ak;have hlv:∀(o:aU)(v w:IV),freeze (m+1) (d+1) o v=some w->leave (m+1) d o aa id 0 v=some (.r,w,aa):=fun o v w h=>by simp[leave,h]
  have fin:∀ t' (O0 x2 x3 x4 x5:aO) (J:aU) (lv:IV) (xs:List Int),cg aL 1 (d+1) 6 J lv xs->xs=bD p x.id->aN 80 t' [(4,.ptrM (d+1) 1 0)]->(Out.ret=.normal∨Out.ret=.ret)/\∃ w r,bP (d+1) cQ ⟨t',O0::aI [lv]::x2::x3::x4::x5::J⟩ i115.res=some w/\leave (m+1) d (O0::aI [lv]::x2::x3::x4::x5::J) aa id i115.mode w=some r/\r=(eV.r,(eX zf _ hfl).v,aa):=fun t' O0 x2 x3 x4 x5 J lv xs hO hD ht=>by
   simp only[zb,zc]at ht;subst hD;have hfz:=yK (Pre:=[O0,aI [lv],x2,x3,x4,x5]) (m:=m+1) zf (fun a x hx=>by
    simp only[aL,fF,j4,k7]at hx;subst hx;exact zn) Ω hfl hO
   refine⟨.inr rfl,lv,_,?_,hlv _ _ _ hfz,rfl⟩;simp only[i115,V0,seval,ht]
  suffices kY:∀ K:fP,(∀ t' (O0 x2 x3 x4 x5:aO) (J:aU) (lv:IV) (xs:List Int),cg aL 1 (d+1) 6 J lv xs->xs=bD p x.id->aN 80 t' [(4,.ptrM (d+1) 1 0)]->K .ret ⟨t',O0::aI [lv]::x2::x3::x4::x5::J⟩)->Ex (aM aR S (m+1)) (d+1) cQ (m+1) i115.body K ⟨t,[]⟩from kY _ fin
  clear fin;intro K fin;rw[show i115.body=.seq (i115.body.sub [0]) (.seq (i115.body.sub [1,0]) (.seq (i115.body.sub [1,1,0]) (.seq (i115.body.sub [1,1,1,0]) (.seq (i115.body.sub [1,1,1,1,0]) (.seq (i115.body.sub [1,1,1,1,1,0]) (.seq (i115.body.sub [1,1,1,1,1,1,0]) (i115.body.sub [1,1,1,1,1,1,1])))))))from rfl];generalize i115.body.sub [1,1,1,1,1,0]=T at hL0 ⊢;have hf:(p.ns.l.find? fun f=>f.id==x.id)=some x:=Zf h0.nice.Wg hx;rw[hf]at ak;simp only[tE,Option.isSome_some,Nd.c,zg]at ak;have cmp:∀ a b,(IV.mapM a b).cells=[.mapM a b]:=fun _ _=>rfl;have smp:∀ a b,(IV.mapM a b).scalar=true:=fun _ _=>rfl;simp only[i115,IC.sub,V0,seval,cmp,smp,af,ak];refine hL0 (d+1) cQ _ _ x.id _ _ [] [] 0 cD fun t' lv J L bs ck xs hO hD ht=>?_;simp only[zb,zc]at ht;obtain⟨rfl,hlk⟩:=hD;rcases hO with⟨he,rfl⟩|⟨b,hne,rfl,hb⟩
  ·obtain⟨J',hs⟩:=Lm (d:=d+1) (ah:=cQ) (aK:=aI [p.ns.v,p.az.v,p.fs.v]::aI [.nilsl]::.free::aI [aG aH x.id,aG aH x.at'.x,aG aH x.at'.y]::.map (eE L) (eG L) bs ck::aI [.mapM (d+1) 4]::(J++[.free])) (aa:=aI [p.ns.v,p.az.v,p.fs.v]::aI [.nilsl]::.free::aI [aG aH x.id,aG aH x.at'.x,aG aH x.at'.y]::.map (eE L) (eG L) bs ck::aI [.mapM (d+1) 4]::(J++[.free])) (fv:=.fn 153 [] [.ptrM (d+1) 3 0,.ptrM (d+1) 5 0]) hS (m:=m+1) Ω;have e0:bD p x.id=[]:=by rw[he]at Uq;exact List.perm_nil.1 Uq
   simp only[V0,seval,ht,hs];exact fin _ _ _ _ _ _ _ _ [] (.inl ⟨rfl,rfl⟩) e0.symm cD
  ·have fG:(J++[aO.free])[b]?=some (aI ((bB p x.id).flatMap aL)):=by rw[gT (cU.1 hb).1];exact hb
   have sW:=(cU.1 hb).1;have nh:((bB p x.id).attach.flatMap fun a:{ z // z∈bB p x.id }=>aL a.1)=(bB p x.id).flatMap aL:=by
    conv=>rhs;rw[←znw (bB p x.id)]
    rw[List.flatMap_map]
   generalize hxn:(bB p x.id).length=n at qD;have key:∀ W:aU,W=(aO.cells [p.ns.v,p.az.v,p.fs.v]::aI [.slM (d+1) (6+b) 0 n n 1 false]::.free::aI [aG aH x.id,aG aH x.at'.x,aG aH x.at'.y]::.map (eE L) (eG L) bs ck::aI [.mapM (d+1) 4]::(J++[.free])) ->
     ∃(J':aU),(∀ id,aM aR S (m+1) (d+1) cQ W W id 152 [.slM (d+1) (6+b) 0 n n 1 false,.fn 153 [] [.ptrM (d+1) 3 0,.ptrM (d+1) 5 0]]=some (.x,.tuple [],aI [p.ns.v,p.az.v,p.fs.v]::aI [.slM (d+1) (6+b) 0 n n 1 false]::.free::aI [aG aH x.id,aG aH x.at'.x,aG aH x.at'.y]::.map (eE L) (eG L) bs ck::aI [.mapM (d+1) 4]::J'))/\J'[b]?=some (aI ((bD p x.id).flatMap aL)):=by
    intro W hW
    have hWl:6+b<W.length:=by rw[hW];simp;omega
    have hWb:W[6+b]?=some (aI ((bB p x.id).flatMap aL)):=by rw[hW,show 6+b=b+1+1+1+1+1+1 by omega];simp only[jP,fG]
    have hcmp:xH S (12) (d+1) cQ W (6+b) (fun a:{ z // z∈bB p x.id }=>IV.int .i64 a.1) 153 [.ptrM (d+1) 3 0,.ptrM (d+1) 5 0] (fun a b=>Ew x.at' L a.1 b.1):=fun m hm aK aa id u v hR=>by
     refine Hf hS Ω u.1 v.1 x L bs ck aK aa id ?_ ?_ ?_
     ·rw[hR 3 Ω Ω,hW];rfl
     ·rw[hR 4 Ω Ω,hW];rfl
     ·rw[hR 5 Ω Ω,hW];rfl
    obtain⟨xs',hs,hp,hsr⟩:=TK (d:=d+1) (ah:=cQ) (cp:=n) (tg:=false) (h0.Ev hx hlk) hS hWl Pu hcmp (n:=n) Ω (fun h=>hne (Fv (hxn.trans h))) (m+1) (Nc:=12) Ω W (bB p x.id).attach [] (fun _ _ _=>rfl) (by rw[List.length_attach];exact hxn)
    have hxl:xs'.length=n:=by rw[hp.length_eq,List.length_attach];exact hxn
    rw[←hxl]at hsr
    have Gt:=h0.uR hx hlk hp hsr
    have hfl:(xs'.flatMap fun a:{ z // z∈bB p x.id }=>aL a.1)=(bD p x.id).flatMap aL:=by rw[←Gt,List.flatMap_map]
    rw[hfl,iL,nh,JU hWb]at hs
    refine⟨(J++[aO.free]).set b (aI ((bD p x.id).flatMap aL)),fun id=>?_,?_⟩
    ·have hbk:Bk W (6+b) ((bD p x.id).flatMap aL)=aO.cells [p.ns.v,p.az.v,p.fs.v]::aI [.slM (d+1) (6+b) 0 n n 1 false]::.free::aI [aG aH x.id,aG aH x.at'.x,aG aH x.at'.y]::.map (eE L) (eG L) bs ck::aI [.mapM (d+1) 4]::(J++[aO.free]).set b (aI ((bD p x.id).flatMap aL)):=by generalize IV.slM (d+1) (6+b) 0 n n 1 false=z at hW ⊢;rw[Bk,hW,show 6+b=b+1+1+1+1+1+1 by omega];rfl
     rw[hs id,hbk,iL]
    ·rw[oa (by simp;omega)]
   obtain⟨J',hs,hb'⟩:=key _ rfl;simp only[V0,seval,ht,hs];have hla:(bD p x.id).length=n:=by rw[Uq.length_eq];exact hxn
   refine fin _ _ _ _ _ _ J' _ (bD p x.id) (.inr ⟨b,?_,?_,hb'⟩) rfl cD
   ·intro e;rw[e]at hla;exact hne (Fv (by rw[hxn];exact hla.symm))
   ·rw[hla]
 obtain⟨r,h1,rfl⟩:=main;exact h1
end
theorem OU{l:List Int}{z:Int}(hz:z∈l):uN l (sB l z) z:=by
 unfold sB;cases hf:l.findIdx? fun x=>z==x with
 |none =>
  have:=Ks.1 hf z hz
  simp at this
 |some i =>
  obtain⟨hi,he,_⟩:=Kt.1 hf
  have he:l[i]=z:=(eq_of_beq he).symm
  show uN l ((l[(i+l.length-1)%l.length]?).getD 0) z
  rcases i with -|i
  ·rw[ND (show 0+l.length-1<l.length by omega),cK (show 0+l.length-1<l.length by omega)]
   cases l with
   |nil=>simp at hi
   |cons y B =>
    have he:y=z:=he
    subst he
    refine .inr ⟨B,rfl,?_⟩
    rw[zku,cK Ψ]
    simp
  ·have e1:(i+1+l.length-1)%l.length=i:=by rw[show i+1+l.length-1=i+l.length by omega,zn7];exact ND Ω
   rw[e1,cK (show i<l.length by omega)]
   refine .inl ⟨l.take i,l.drop (i+1+1),?_⟩
   show l=l.take i++l[i]::z::l.drop (i+1+1)
   rw[←he,←HM hi,←HM (show i<l.length by omega),Fu]
def BS(p:Pn)(nx:List (Int×Int))(xs:List Int):Prop:=∀ z∈xs,kS 0 nx (jg z)=iN p (jg z)
theorem BS.put{p:Pn}{nx:List (Int×Int)}{xs:List Int}(h:BS p nx xs){z:Int}:BS p (oP nx (jg z) (iN p (jg z))) (xs++[z]):=fun y hy=>by
 rw[AZ];by_cases e:jg y=jg z
 ·rw[bt e,e]
 ·rw[bC e];rcases og.1 hy with hy|hy
  ·exact h y hy
  ·rw[qx.1 hy]at e;exact absurd rfl e
theorem aV.prec{p:Pn}(h:aV p){x:Nd}(hx:x∈p.ns.l){z:Int}(hz:z∈bD p x.id):sB (bD p x.id) z=iN p (jg z):=by rw[(h.fT (h.fm hx hz).1).1];exact(h.next hx (OU hz)).symm
section
variable {S:cZ}
theorem Mm(hS:bN S)(p:Pn)(h0:aV p){nd:Nd}(ak:nd∈p.ns.l){m D:Nat}{ah:bR}{K:fP}(t:List IV)(q:aS 1 aL)(pU:q.l.length<=1000000)(hm:q.l.length+10<=m)(i:Nat)(x1:aO)(lv:IV)(J:aU)(nx:List (Int×Int))(bs:List Nat)(ck:Nat)(xs:List Int)(hO:cg aL 1 D 4 J lv xs)(hx:xs.length+q.l.length<=1000000)(hn:nx.length<=xs.length)(hqa:q.l=bD p nd.id)(oh:BS p nx xs)
  (af:aN 72 t [(1,.ptrM D 0 0),(2,.nilsl),(4,lv),(5,.ptrM D 3 0),(8,q.v),(22,p.ns.v),(23,iv (p.ns.l.length:Nat)),(24,iv i)])
  (hK:∀ t' lv J nx bs ck,cg aL 1 D 4 J lv (xs++q.l)->nx.length<=(xs++q.l).length->BS p nx (xs++q.l)->aN 72 t' [(1,.ptrM D 0 0),(2,.nilsl),(4,lv),(5,.ptrM D 3 0),(8,q.v),(22,p.ns.v),(23,iv (p.ns.l.length:Nat)),(24,iv i)]->K .normal ⟨t',aI [p.ns.v,p.az.v,p.fs.v]::x1::.map (gK nx) (gR (IV.int .i64) nx) bs ck::aI [.mapM D 2]::J⟩) :
  Ex (aM aR S m) D ah m (i73.body.sub [1,1,1,1,0,1,0,0,1,1,0,0,1,1]) K ⟨t,aI [p.ns.v,p.az.v,p.fs.v]::x1::.map (gK nx) (gR (IV.int .i64) nx) bs ck::aI [.mapM D 2]::J⟩:=by
 simp only[V3]at af
 have Ug:=q.gC
 simp only[i73,IC.sub,V0,Xa,af]
 refine ze (fun jj st=>∃(k:Nat)(lv:IV)(J:aU)(nx:List (Int×Int))(bs:List Nat)(ck:Nat),q.l.length-k<=jj/\k<=q.l.length/\cg aL 1 D 4 J lv (xs++q.l.take k)/\nx.length<=xs.length+k/\BS p nx (xs++q.l.take k)/\st.aa=aI [p.ns.v,p.az.v,p.fs.v]::x1::.map (gK nx) (gR (IV.int .i64) nx) bs ck::aI [.mapM D 2]::J/\aN 72 st.t [(1,.ptrM D 0 0),(2,.nilsl),(4,lv),(5,.ptrM D 3 0),(8,q.v),(22,p.ns.v),(23,iv (p.ns.l.length:Nat)),(24,iv i),(32,q.v),(33,iv (q.l.length:Nat)),(34,iv k)]) q.l.length Ω ⟨0,lv,J,nx,bs,ck,Ω,Ω,by rw[xI,iL];exact hO,Ω,by rw[xI,iL];exact oh,rfl,by simp only[V0,Xa,Xe,af,eU]⟩ ?_
 clear af hO hn oh
 rintro jj ⟨t,bO⟩ KB ⟨k,lv,J,nx,bs,ck,hjj,hk,hO,hn,oh,ho,af⟩ jo lX mE
 dsimp only at ho af
 subst ho
 simp only[V3]at af
 have ags:∀{z:Int},q.l[k]?=some z->xs++q.l.take k++[z]=xs++q.l.take (k+1):=fun{z} hz=>by rw[lH,hz];simp
 by_cases h:k<q.l.length
 ·have hx1:q.l[k]?=some q.l[k]:=cK h
  have hzm:q.l[k]∈bD p nd.id:=by rw[←hqa];exact gU h
  generalize q.l[k]=z at hx1 hzm
  have Uh:=h0.prec ak hzm
  rw[←hqa]at Uh
  have LO:=oh.put (z:=z)
  rw[ags hx1,←Uh]at LO
  have LO:BS p (oP nx (aT .i64 (0-z)) (sB q.l z)) (xs++q.l.take (k+1)):=LO
  have hrd:bM (q.l.flatMap aL) (k*1) 1=some [aG aH z]:=(zd zf 0 1 hx1 Ω).trans rfl
  have hw:=zq k
  have sS:xs++q.l.take k++[z]=xs++q.l.take (k+1):=by rw[lH,hx1];simp
  have au:(xs++q.l.take k).length=xs.length+k:=by rw[eR,k8,qu Ω]
  obtain⟨e,dR,J2,b9,dX⟩:=zM (Pre:=[aI [p.ns.v,p.az.v,p.fs.v],x1,.map (gK nx) (gR (IV.int .i64) nx) bs ck,aI [.mapM D 2]]) (n0:=J.length+1+1+1+1) (slot:=0) (k:=0) (ah:=ah) (R:=[.free]) zf hO (ys:=[z]) Ψ (by simp only[au,cu,dw];omega) (by simp only[cu,dw];omega) rfl rfl
  simp only[gQ,gM,fJ,lz,aL,zg,cu,dw,iL,fO]at b9
  rw[sS]at dX
  obtain⟨bs',iO,DC⟩:=HY (u:=IV.int .i64) nx bs ck (aT .i64 (0-z)) (sB q.l z)
  have u7:=fun C n0 aK aa t a b c=>DC C D ah n0 2 aK aa t a b c
  have cp:=Vd hS q z pU m Ω
  simp only[zg]at cp
  simp only[V0,Xa,Xe,af,h,za q h,hrd,rep,zh,zk,zo,zu,b9,cp,u7]
  have hpl:=OP nx (aT .i64 (0-z)) (sB q.l z)
  simp only[V0,Xa,Xe,af,hw]
  exact jo _ (q.l.length-(k+1)) Ω ⟨k+1,dR,_,_,bs',iO,Ω,Ω,dX.more _,Ω,LO,rfl,by simp only[V0,Xa,Xe,af]⟩
 ·simp only[V0,Xa,af,h]
  refine lX _ _ ?_
  simp only[V0]
  have nP:k=q.l.length:=Ω
  rw[nP,E7]at hO oh
  exact hK _ _ _ _ _ _ hO (by rw[eR];omega) oh (by simp only[V0,Xe,af])
theorem Ml(hS:bN S)(p:Pn)(h0:aV p)(iz:bQ p)(ha:2*p.az.l.length<65536)(hna:2*p.az.l.length*p.ns.l.length<=900000):∃ N,∀ m,N<=m->∀(D:Nat)(ah:bR)(K:fP)(t:List IV)(x1:aO),
  aN 72 t [(1,.ptrM D 0 0),(2,.nilsl),(4,.nilsl),(5,.ptrM D 3 0)] ->
  (∀ t' lv J nx bs ck xs,cg aL 1 D 4 J lv xs->xs=bW p->BS p nx xs->xs.length<=2*p.az.l.length*p.ns.l.length->nx.length<=xs.length->aN 72 t' [(1,.ptrM D 0 0),(2,.nilsl),(4,lv),(5,.ptrM D 3 0)]->K .normal ⟨t',aI [p.ns.v,p.az.v,p.fs.v]::x1::.map (gK nx) (gR (IV.int .i64) nx) bs ck::aI [.mapM D 2]::J⟩) ->
  Ex (aM aR S m) D ah m (i73.body.sub [1,1,1,1,0]) K ⟨t,aI [p.ns.v,p.az.v,p.fs.v]::x1::.map [] [] [] 0::aI [.mapM D 2]::[]⟩:=by
 have har:∀ n∈p.ns.l,∃ N,∀ m,N<=m->∃ q:aS 1 aL,q.l=bD p n.id/\q.l.length<=2*p.az.l.length/\∀ d ah aK aa id,aM aR S m d ah aK aa id 115 [.agg p.c,aG aH n.id]=some (.r,q.v,aa):=fun n hn=>by obtain⟨q,h1,N,h3⟩:=vr hS p h0 iz ha hn;exact⟨N,fun m hm=>⟨q,h1,by rw[h1,(h0.around hn).1.length_eq];exact ZZ p n.id,h3 m hm⟩⟩
 obtain⟨Na,hNa⟩:=Fe p.ns.l har
 refine⟨Na+p.ns.l.length+200000,fun m hm D ah K t x1 af hK=>?_⟩
 simp only[zb,zc]at af
 have hnf:=p.ns.gC
 have hI:=fun{D:Nat}{ah:bR}{K:fP}{nd:Nd}(ak:nd∈p.ns.l) t q pU hm i x1 lv J nx bs ck xs=>@Mm S hS p h0 nd ak m D ah K t q pU hm i x1 lv J nx bs ck xs
 rw[show i73.body.sub [1,1,1,1,0]=.seq (i73.body.sub [1,1,1,1,0,0]) (.block 0 (.loop (.seq (i73.body.sub [1,1,1,1,0,1,0,0,0]) (.seq (i73.body.sub [1,1,1,1,0,1,0,0,1,0]) (.seq (.block 1 (.seq (i73.body.sub [1,1,1,1,0,1,0,0,1,1,0,0,0]) (.seq (i73.body.sub [1,1,1,1,0,1,0,0,1,1,0,0,1,0]) (i73.body.sub [1,1,1,1,0,1,0,0,1,1,0,0,1,1])))) (i73.body.sub [1,1,1,1,0,1,0,0,1,1,1]))))))from rfl]
 generalize i73.body.sub [1,1,1,1,0,1,0,0,1,1,0,0,1,1]=T at hI ⊢
 simp only[i73,IC.sub,V0,Xa,Xb,af]
 refine ze (fun jj st=>∃(i:Nat)(lv:IV)(J:aU)(nx:List (Int×Int))(bs:List Nat)(ck:Nat)(xs:List Int),p.ns.l.length-i<=jj/\i<=p.ns.l.length/\cg aL 1 D 4 J lv xs/\xs=(p.ns.l.take i).flatMap (fun n=>bD p n.id)/\BS p nx xs/\xs.length<=2*p.az.l.length*i/\nx.length<=xs.length/\st.aa=aI [p.ns.v,p.az.v,p.fs.v]::x1::.map (gK nx) (gR (IV.int .i64) nx) bs ck::aI [.mapM D 2]::J/\aN 72 st.t [(1,.ptrM D 0 0),(2,.nilsl),(4,lv),(5,.ptrM D 3 0),(22,p.ns.v),(23,iv (p.ns.l.length:Nat)),(24,iv i)]) p.ns.l.length Ω ⟨0,.nilsl,[],[],[],0,[],Ω,Ω,.inl ⟨rfl,rfl⟩,by rw[xI];rfl,fun _ h=>(by simp at h),Ψ,Ψ,rfl,by simp only[V0,Xa,Xe,af,eU]⟩ ?_
 clear af
 rintro jj ⟨t,aa⟩ KA ⟨i,lv,J,nx,bs,ck,xs,hjj,hi,hO,hD,oh,hxl,hn,ho,af⟩ bV cS dA
 dsimp only at ho af
 subst ho
 simp only[V3]at af
 have hmul:2*p.az.l.length*i<=2*p.az.l.length*p.ns.l.length:=Nat.mul_le_mul_left _ hi
 by_cases h:i<p.ns.l.length
 ·have hx:p.ns.l[i]?=some p.ns.l[i]:=cK h
  obtain⟨q,hq1,lG,PR⟩:=hNa _ (gU h) m Ω
  have tS:=gU h
  generalize p.ns.l[i]=x at hx PR hq1 tS
  have hrd:bM (p.ns.l.flatMap Nd.c) (i*3) 3=some [aG aH x.id,aG aH x.at'.x,aG aH x.at'.y]:=(zd Nd.aZ 0 3 hx Ω).trans rfl
  have hw:=zq i
  simp only[Pn.c]at PR
  have ag5:2*p.az.l.length*(i+1)=2*p.az.l.length*i+2*p.az.l.length:=Nat.mul_succ _ _
  have ag4:2*p.az.l.length*(i+1)<=2*p.az.l.length*p.ns.l.length:=Nat.mul_le_mul_left _ h
  simp only[V0,Xa,Xb,Xe,af,h,za p.ns h,hrd,PR]
  refine hI tS _ q Ω Ω i x1 lv _ nx bs ck xs (hO.more _) Ω hn hq1 oh (by simp only[V0,Xa,Xe,af]) fun t' dR J' nx' bs' iO wG hn' ag1 ht'=>?_
  simp only[V3]at ht'
  simp only[V0,Xa,ht',hw]
  rw[eR]at hn'
  exact bV _ (p.ns.l.length-(i+1)) Ω ⟨i+1,dR,J',nx',bs',iO,xs++q.l,Ω,Ω,wG,by rw[hD,hq1,lH,hx,rP,B6,fJ,lz,iL],ag1,by rw[eR];omega,by rw[eR];omega,rfl,by simp only[V0,Xa,Xe,ht']⟩
 ·simp only[V0,Xa,af,h]
  refine cS _ _ ?_
  simp only[V0]
  rw[gj Ω]at hD
  exact hK _ _ _ _ _ _ _ hO hD oh Ω hn (by simp only[V0,Xe,af])
theorem D3(hS:bN S){m D:Nat}{ah:bR}{fn:Int->Int}{D0 c:List Int}{z:Int}(hc:Nv fn D0 z c)(lY:fn (fc c)=z)(hm:c.length+9<=m)(hU:c.length<=1000000)(P J0:aU)(nx:List (Int×Int))(Wi:List Nat)(Wh:Nat)(WN:P[2]?=some (.map (gK nx) (gR (IV.int .i64) nx) Wi Wh))(hP3:P[3]?=some (aI [.mapM D 2]))(oh:∀ k∈c,kS 0 nx k=fn k)(sn:List (Int×Bool))(hsn:∀ k∈c,kS false sn k=false)(bs:List Nat)(ck:Nat)(aK:aU) :
  ∃ dR J' Cq bs' iO,(∀ id,aM aR S m D ah aK (P++.map (gK sn) (gR IV.bool sn) bs ck::aI [.mapM D P.length]::J0) id 118 [aG aH z,.ptrM D (P.length+1) 0,.ptrM D 3 0]=some (.x,dR,P++.map (gK Cq) (gR IV.bool Cq) bs' iO::aI [.mapM D P.length]::J'))/\HA aL 1 D (P.length+2) J0.length J' dR c/\(∀ j,j<J0.length->J'[j]?=J0[j]?)/\J0.length<=J'.length/\(∀ k,kS false Cq k=(c.contains k||kS false sn k)):=by
 obtain⟨m,rfl⟩:=me m 1
 have f0:∀ x R,(P++x::R)[P.length]?=some x:=fun x R=>by rw[jd (dz _),rM];rfl
 have f1:∀ x y R,(P++x::y::R)[P.length+1]?=some y:=fun x y R=>by rw[jd Ω,B4];rfl
 have hPl:3<P.length:=(cU.1 hP3).1
 have f2:∀ R,(P++R)[2]?=some (.map (gK nx) (gR (IV.int .i64) nx) Wi Wh):=fun R=>by rw[gT Ω];exact WN
 have f3:∀ R,(P++R)[3]?=some (aI [.mapM D 2]):=fun R=>by rw[gT Ω];exact hP3
 have s0:∀ x y R,(P++x::R).set P.length y=P++y::R:=fun x y R=>by rw[Fc _ _ (dz _),rM];rfl
 have main:∃ v aX,(∀ id,aM aR S (m+1) D ah aK (P++.map (gK sn) (gR IV.bool sn) bs ck::aI [.mapM D P.length]::J0) id 118 [aG aH z,.ptrM D (P.length+1) 0,.ptrM D 3 0]=some (.x,v,aX))/\(∃ J' Cq bs' iO,aX=P++.map (gK Cq) (gR IV.bool Cq) bs' iO::aI [.mapM D P.length]::J'/\HA aL 1 D (P.length+2) J0.length J' v c/\(∀ j,j<J0.length->J'[j]?=J0[j]?)/\J0.length<=J'.length/\(∀ k,kS false Cq k=(c.contains k||kS false sn k))):=by
  refine yU (i:=i118) (ns hS) rfl rfl (lb rfl) fun t af=>?_;simp only[V2,Xb,i118]at af;simp only[i118,V0,seval];refine ze (fun jj st=>∃(i:Nat)(z1:Int)(J:aU)(s1:List (Int×Bool))(bs:List Nat)(ck:Nat)(lv:IV),c.length-i<=jj/\i<=c.length/\c[i]?.getD z=z1/\HA aL 1 D (P.length+2) J0.length J lv (c.take i)/\(∀ j,j<J0.length->J[j]?=J0[j]?)/\J0.length<=J.length/\(∀ k,kS false s1 k=((c.take i).contains k||kS false sn k))/\st.aa=P++.map (gK s1) (gR IV.bool s1) bs ck::aI [.mapM D P.length]::J/\aN 19 st.t [(0,aG aH z1),(1,.ptrM D (P.length+1) 0),(2,.ptrM D 3 0),(4,lv)]) c.length Ω ⟨0,z,J0,sn,bs,ck,.nilsl,Ω,NA _,by rw[hc.head];rfl,.inl ⟨by rw[xI],rfl⟩,fun _ _=>rfl,dz _,fun k=>by rw[xI];rfl,rfl,cD⟩ ?_;clear af;rintro jj ⟨t,aa⟩ KA ⟨i,z1,J,s1,bs,ck,lv,hjj,hi,LL,hO,hk,hlJ,hx,ho,af⟩ bV cS dA;dsimp only at ho af;subst ho;simp only[zb,zc]at af;have evS:∀(R:aU)(C:Call)(n0:Nat)(aa:aU)(t:List IV)(a b:bG),ρ t a=.mapM D P.length->ρ t b=aG aH z1->cH C D ah n0 (P++.map (gK s1) (gR IV.bool s1) bs ck::R) aa t (.lookup (.bool false) (false,[1]) false a b)=some (.r,.bool (kS false s1 z1),aa):=fun R C n0 aa t a b h1 h2=>YQ (bs:=bs) (ck:=ck) false z1 rfl h1 h2 (by simp only[look,if_true,f0]);have evN:∀(R:aU)(C:Call)(n0:Nat)(aa:aU)(t:List IV)(a b:bG),ρ t a=.mapM D 2->ρ t b=aG aH z1->cH C D ah n0 (P++R) aa t (.lookup (aG aH 0) (false,[1]) false a b)=some (.r,aG aH (kS 0 nx z1),aa):=fun R C n0 aa t a b h1 h2=>YQ (u:=IV.int .i64) (bs:=Wi) (ck:=Wh) 0 z1 rfl h1 h2 (by simp only[look,if_true,f2]);by_cases hil:i<c.length
  ·have Nj:c[i]?=some c[i]:=cK hil;have adj:c[i]=z1:=by rw[Nj]at LL;exact LL
   rw[adj]at Nj;have hmem:z1∈c:=by rw[←adj];exact gU hil
   have hnot:(c.take i).contains z1=false:=by
    rw[Sy];intro e;obtain⟨j,hj⟩:=pY (nM.1 e);have hji:j<i:=by have:=(cU.1 hj).1;rw[k8]at this;omega
    rw[zlf hji]at hj;obtain⟨l1,e1⟩:=cU.1 hj;have:=(M1 hc.nodup).1 (e1.trans adj.symm);omega
   have hs:kS false s1 z1=false:=by rw[hx,hnot,hsn z1 hmem];rfl
   have sS:c.take i++[z1]=c.take (i+1):=by rw[lH,Nj];rfl
   have au:(c.take i).length=i:=by rw[k8];omega
   have hnext:c[i+1]?.getD z=kS 0 nx z1:=by
    rw[oh z1 hmem];by_cases hl:i+1<c.length
    ·rw[hc.step i z1 Nj hl];rfl
    ·have e:i=c.length-1:=Ω;rw[BZ Ω];have hla:=hc.last;rw[←e,Nj]at hla;rw[kT hla,lY];rfl
   obtain⟨bs',iO,DC⟩:=HY (u:=IV.bool) s1 bs ck z1 true;obtain⟨e,dR,J2,b9,dX,hk2,jD⟩:=Lv (Pre:=P++[.map (gK (oP s1 z1 true)) (gR IV.bool (oP s1 z1 true)) bs' iO,aI [.mapM D P.length]]) (n0:=P.length+(J.length+1+1)) (slot:=0) (k:=0) (ah:=ah) (R:=[.free]) zf Ψ hO hlJ (ys:=[z1]) Ψ (by rw[au];simp only[cu,dw];omega) Ω rfl rfl;simp only[kR,gQ,gM,fJ,lz,aL,zg,cu,dw,iL,fO]at b9;have u7:=fun C n0 aK aa t a b c=>DC C D ah n0 P.length aK aa t a b c;rw[sS]at dX;simp only[V0,seval,af,f0,f1,f3,evS,evN,hs,u7,s0,rep,zh,zk,zo,zu,b9];refine bV _ (c.length-(i+1)) Ω ⟨i+1,kS 0 nx z1,J2,oP s1 z1 true,bs',iO,dR,Ω,Ω,hnext,dX,fun j hj=>?_,by rw[jD,eR];omega,fun k=>?_,rfl,cD⟩
   ·rw[hk2 j hj,gT Ω];exact hk j hj
   ·rw[AZ,←sS,hx k];by_cases e:k=z1
    ·subst e;rw[bt rfl,nM.2 (XI _ (qx.2 rfl))];rfl
    ·rw[bC e];congr 1;rw[nU,nM,nM,og,qx];exact⟨.inl,fun h=>h.resolve_right e⟩
  ·have hie:i=c.length:=Ω;have ago:z1=z:=by rw[←LL,BZ Ω];rfl
   rw[hie,E7]at hO hx;have hs:kS false s1 z1=true:=by rw[hx,ago,nM.2 (j5 hc.head)];rfl
   simp only[V0,seval,af,f1,evS,hs];refine cS _ _ ?_;simp only[V0,seval,af,yJ];exact⟨_,rfl,J,s1,bs,ck,rfl,hO,hk,hlJ,hx⟩
 obtain⟨v,aX,h1,J',Cq,bs',iO,rfl,h2,h3,h4,h5⟩:=main
 exact⟨v,J',Cq,bs',iO,h1,h2,h3,h4,h5⟩
end
structure rL(p:Pn)(xs:List Int)(i:Nat)(sn:List (Int×Bool))(o:List (List Int)):Prop where
 ex:∃ met,gX (bZ (bS p) (bW p)) id (xs.drop i) met o=gX (bZ (bS p) (bW p)) id xs [] []/\(∀ k,kS false sn k=met.contains k)/\∀ k∈met,∃ w∈aY p,k∈bZ (bS p) (bW p) w/\∀ x∈bZ (bS p) (bW p) w,x∈met
section
variable {p:Pn} {xs:List Int} {i:Nat} {sn:List (Int×Bool)} {o:List (List Int)}
theorem rL.zero:rL p xs 0 [] []:=⟨[],by rw[BV],fun _=>rfl,fun _ h=>absurd h j4⟩
theorem rL.done(h:rL p xs i sn o)(hi:xs.length<=i):o=gX (bZ (bS p) (bW p)) id xs [] []:=by obtain⟨met,h1,_⟩:=h.ex;rw[VP hi]at h1;exact h1
theorem rL.old(h:rL p xs i sn o){z:Int}(hz:xs[i]?=some z)(hs:kS false sn z=true):rL p xs (i+1) sn o:=by obtain⟨met,h1,h2,h3⟩:=h.ex;obtain⟨hl,he⟩:=cU.1 hz;rw[HM hl,he]at h1;rw[gX]at h1;rw[bt (by rw[←h2];exact hs)]at h1;exact⟨met,h1,h2,h3⟩
theorem rL.free(h:rL p xs i sn o)(h0:aV p){z:Int}(hz:z∈aY p)(hs:kS false sn z=false):∀ k∈bZ (bS p) (bW p) z,kS false sn k=false:=fun k hk=>by obtain⟨met,h1,h2,h3⟩:=h.ex;rw[h2]at hs ⊢;rw[Sy];intro e;obtain⟨w,hw,hkw,hall⟩:=h3 k (nM.1 e);have:=hall z ((h0.uj hz hw hk hkw z).1 (h0.Cx hz));rw[nM.2 this]at hs;cases hs
theorem rL.new(h:rL p xs i sn o)(h0:aV p){z:Int}(hx:xs[i]?=some z)(hz:z∈aY p)(hs:kS false sn z=false)(Cq:List (Int×Bool))(hsn:∀ k,kS false Cq k=((bZ (bS p) (bW p) z).contains k||kS false sn k)):rL p xs (i+1) Cq (o++[bZ (bS p) (bW p) z]):=by
 obtain⟨met,h1,h2,h3⟩:=h.ex;obtain⟨hl,he⟩:=cU.1 hx;rw[HM hl,he]at h1;rw[gX]at h1;rw[bC (by rw[←h2,hs];decide)]at h1;refine⟨met++id (bZ (bS p) (bW p) z),?_,fun k=>?_,fun k hk=>?_⟩
 ·exact h1
 ·rw[hsn,h2,nU,nu,nM,nM,nM,og];exact Or.comm
 ·rcases og.1 hk with hk|hk
  ·obtain⟨w,hw,hkw,hall⟩:=h3 k hk;exact⟨w,hw,hkw,fun x hx=>SA _ (hall x hx)⟩
  ·exact⟨z,hz,hk,fun x hx=>XI _ hx⟩
end
section
variable {S:cZ}
theorem Q4(hS:bN S){p:Pn}(h0:aV p){m D:Nat}{ah:bR}{K:fP}(B:Nat)(xs:List Int)(hm:B+xs.length+10<=m)(hU:B<=1000000)(hB:∀ z∈aY p,(bZ (bS p) (bW p) z).length<=B)(hxl:xs.length<=1000000)(P:aU)(nx:List (Int×Int))(Wi:List Nat)(Wh:Nat)(WN:P[2]?=some (.map (gK nx) (gR (IV.int .i64) nx) Wi Wh))(hP3:P[3]?=some (aI [.mapM D 2]))(oh:∀ k∈aY p,kS 0 nx k=iN p k)(hxU:∀ z∈xs,z∈aY p)
  (dv:IV) (hdv:(xs=[]/\dv=.nilsl)∨∃ b,dv=.slM D b 0 xs.length xs.length 1 false/\P[b]?=some (aI (xs.flatMap aL))) (t:List IV) (af:aN 72 t [(2,.nilsl),(4,dv),(11,.ptrM D (P.length+1) 0),(12,.fn 118 [] [.ptrM D (P.length+1) 0,.ptrM D 3 0])])
  (hK:∀ t' lv sn bs ck J L,cg SI 1 D (P.length+2) J lv L->aeu D (P.length+2) B xs J L->L.map Prod.snd=gX (bZ (bS p) (bW p)) id xs [] []->L.length<=xs.length->aN 72 t' [(2,lv)]->K .normal ⟨t',P++.map (gK sn) (gR IV.bool sn) bs ck::aI [.mapM D P.length]::J⟩) :
  Ex (aM aR S m) D ah m (i73.body.sub [1,1,1,1,1,1,1,1,0]) K ⟨t,P++.map [] [] [] 0::aI [.mapM D P.length]::[]⟩:=by
 simp only[zb,zc]at af
 have hlen:∀ aK aa,jL D ah aK aa 1 dv=some (.p,aG aH (xs.length:Nat),aa):=fun aK aa=>by rcases hdv with⟨rfl,rfl⟩|⟨b,rfl,_⟩<;>rfl
 have f0:∀ x R,(P++x::R)[P.length]?=some x:=fun x R=>by rw[jd (dz _),rM];rfl
 have f1:∀ x y R,(P++x::y::R)[P.length+1]?=some y:=fun x y R=>by rw[jd Ω,B4];rfl
 simp only[i73,IC.sub,V0,seval,af,hlen]
 refine ze (fun jj st=>∃(i:Nat)(lv:IV)(J:aU)(sn:List (Int×Bool))(bs:List Nat)(ck:Nat)(L:List (IV×List Int)),xs.length-i<=jj/\i<=xs.length/\cg SI 1 D (P.length+2) J lv L/\aeu D (P.length+2) B xs J L/\rL p xs i sn (L.map Prod.snd)/\L.length<=i/\st.aa=P++.map (gK sn) (gR IV.bool sn) bs ck::aI [.mapM D P.length]::J/\aN 72 st.t [(2,lv),(4,dv),(11,.ptrM D (P.length+1) 0),(12,.fn 118 [] [.ptrM D (P.length+1) 0,.ptrM D 3 0]),(54,dv),(55,iv (xs.length:Nat)),(56,iv i)]) xs.length Ω ⟨0,.nilsl,[],[],[],0,[],Ω,Ω,.inl ⟨rfl,rfl⟩,fun _ h=>(by simp at h),rL.zero,Ψ,rfl,by simp only[V0,seval,af,eU]⟩ ?_
 clear af
 rintro jj ⟨t,aa⟩ KA ⟨i,lv,J,sn,bs,ck,L,hjj,hi,hO,hL,hG,hLl,ho,af⟩ bV cS dA
 dsimp only at ho af
 subst ho
 simp only[V3]at af
 by_cases h:i<xs.length
 ·have hx1:xs[i]?=some xs[i]:=cK h
  have hz:xs[i]∈xs:=gU h
  generalize xs[i]=z at hx1 hz
  obtain⟨b,rfl,hb⟩:∃ b,dv=.slM D b 0 xs.length xs.length 1 false/\P[b]?=some (aI (xs.flatMap aL)):=by
   rcases hdv with⟨rfl,_⟩|h
   ·simp at h
   ·exact h
  have sW:b<P.length:=(cU.1 hb).1
  have fb:∀ R,(P++R)[b]?=some (aI (xs.flatMap aL)):=fun R=>by rw[gT sW];exact hb
  have hrd:bM (xs.flatMap aL) (i*1) 1=some [aG aH z]:=(zd zf 0 1 hx1 Ω).trans rfl
  have qg:∀ aa,dD aa 1 (.slM D b 0 xs.length xs.length 1 false) (aG aH (i:Int))=some (.p,.ptrM D b (0+i*1),aa):=fun aa=>zm h
  simp only[fO]at qg
  have hw:=zq i
  have evS:∀(R:aU)(C:Call)(n0:Nat)(aa:aU)(t:List IV)(a b:bG),ρ t a=.mapM D P.length->ρ t b=aG aH z->cH C D ah n0 (P++.map (gK sn) (gR IV.bool sn) bs ck::R) aa t (.lookup (.bool false) (false,[1]) false a b)=some (.r,.bool (kS false sn z),aa):=fun R C n0 aa t a b h1 h2=>YQ (bs:=bs) (ck:=ck) false z rfl h1 h2 (by simp only[look,if_true,f0])
  cases hs:kS false sn z
  ·have PD:=hxU z hz
   obtain⟨r5,lY⟩:=h0.mm PD
   have hcB:=hB z PD
   have hG2:=hG.new h0 hx1 PD hs
   have hfree:=hG.free h0 PD hs
   obtain⟨r,hr⟩:∃ r,bZ (bS p) (bW p) z=z::r:=by
    have:=r5.head;cases qE:bZ (bS p) (bW p) z with
    |nil=>rw[qE]at this;simp at this
    |cons y r=>rw[qE]at this;exact⟨r,by rw[kT this]⟩
   obtain⟨dR,J',Cq,bs',iO,hc,hOB,hkeep,hJl,agv⟩:=D3 (ah:=ah) hS (m:=m) r5 lY Ω Ω P (J++[.free,.free]) nx Wi Wh WN hP3 (fun k hk=>oh k (r5.sub k hk)) sn hfree bs ck (P++.map (gK sn) (gR IV.bool sn) bs ck::aI [.mapM D P.length]::(J++[.free,.free]))
   rw[hr]at hOB hcB
   obtain⟨R',rfl⟩:=Lo hkeep hJl
   obtain⟨b2,fG,_,rfl,WI⟩:∃ b,(J++[aO.free,.free]).length<=b/\(z::r)≠[]/\dR=.slM D (P.length+2+b) 0 (z::r).length (z::r).length 1 false/\(J++[.free,.free]++R')[b]?=some (aI ((z::r).flatMap aL)):=by
    rcases hOB with⟨h,_⟩|h
    ·cases h
    ·exact h
   obtain⟨e,uH,J2,b9,dX,hk2,jD⟩:=Lu (Pre:=P++[.map (gK Cq) (gR IV.bool Cq) bs' iO,aI [.mapM D P.length]]) (n0:=P.length+(J.length+1+1)) (slot:=1) (k:=1) (ah:=ah) (R:=.free::.free::R') JO Ψ hO (ys:=[(.slM D (P.length+2+b2) 0 (z::r).length (z::r).length 1 false,z::r)]) Ψ (by simp only[cu,dw];omega) Ω rfl rfl
   simp only[kR,gQ,gM,fJ,lz,SI,cu,dw,iL,fO]at b9
   simp only[kR,gQ,gM]at hc WI
   simp only[eR,cu,dw]at fG
   generalize hv:(IV.slM D (P.length+2+b2) 0 (r.length+1) (r.length+1) 1 false)=dR at b9
   have Nf:(IV.slM D (P.length+2+b2) 0 (z::r).length (z::r).length 1 false)=dR:=by rw[←hv,cu]
   rw[Nf]at hc
   have sc:dR.scalar=true:=by rw[←hv];rfl
   have cl:dR.cells=[dR]:=by rw[←hv];rfl
   simp only[V0,seval,hc,rep,zh,zk,zo,Zv, *]
   refine bV _ (xs.length-(i+1)) Ω ⟨i+1,uH,J2,Cq,bs',iO,_,Ω,Ω,dX,fun y hy=>?_,by rw[E6,nK,BY,←hr];exact hG2 Cq agv,by simp only[eR,cu,dw];omega,rfl,cD⟩
   rcases og.1 hy with hy|hy
   ·obtain⟨⟨b,h1,h2⟩,⟨h',r',h3,h4⟩,h5⟩:=hL y hy
    have hbJ:=(cU.1 h2).1
    refine⟨⟨b,h1,hk2 b _ Ω (by rw[gT hbJ];exact h2) ?_⟩,⟨h',r',h3,h4⟩,h5⟩
    rw[h3]
    exact WZ hL
   ·obtain rfl:=qx.1 hy
    refine⟨⟨b2,rfl,hk2 b2 _ Ω WI (WZ hL)⟩,⟨z,r,rfl,hz⟩,hcB⟩
  ·simp only[V0,seval, *]
   exact bV _ (xs.length-(i+1)) Ω ⟨i+1,lv,J,sn,bs,ck,L,Ω,Ω,hO,hL,hG.old hx1 hs,Ω,rfl,cD⟩
 ·simp only[V0,seval,af,h]
  refine cS _ _ ?_
  simp only[V0,seval]
  exact hK _ _ _ _ _ _ _ hO hL (hG.done Ω) Ω cD
end
theorem w6{p:Pn}:(aY p).length=2*p.az.l.length:=by unfold aY;rw[eR,ig,ig,uF];omega
theorem aV.Mk{p:Pn}(h:aV p):(aY p).Pairwise (·<·):=by
 have adp:=h.nice.Nr;rw[qO]at adp;unfold aY;rw[VM];refine⟨?_,?_,fun a ha b hb=>?_⟩
 ·rw[qO,zmk];refine adp.imp_of_mem fun{a b} ha hb aq=>?_;rw[h.ng ha,h.ng hb];omega
 ·rw[qO];exact adp
 ·obtain⟨x,hx,rfl⟩:=jA.1 ha;obtain⟨y,hy,rfl⟩:=jA.1 hb;rw[Sw]at hx;rw[h.ng hx];have:=h.pid x hx;have:=h.pid y hy;omega
theorem aV.D6{p:Pn}(h:aV p):(bW p).Perm (aY p):=by
 refine(VT ?_ h.pH).2 fun y=>?_
 ·unfold bW;rw[List.Nodup,zla];constructor
  ·intro x hx;exact(h.around hx).1.nodup_iff.2 h.pJ
  ·have hpn:=h.nice.Wg;rw[qO]at hpn;refine hpn.imp_of_mem fun{x y} hx hy hxy u hu v hv e=>?_;subst e;obtain⟨_,a2⟩:=h.fm hx hu;obtain⟨_,b2⟩:=h.fm hy hv;have:=zbz h.pts hx hy (by rw[←a2,←b2]) (by rw[←a2,←b2]);omega
 ·rw[h.fk];constructor
  ·intro hy;obtain⟨x,hx,hy⟩:=qS.1 hy;exact(h.fm hx hy).1
  ·intro hy;obtain⟨x,hx,_,hm⟩:=h.node hy;exact qS.2 ⟨x,hx,hm⟩
theorem aV.xS{p:Pn}(h:aV p){xs:List Int}(hp:xs.Perm (bW p))(hs:xs.Pairwise (·<=·)):xs=aY p:=by
 have hpd:=hp.trans h.D6;have au:xs.Pairwise (·<·):=(hs.and (hpd.nodup_iff.2 h.pH)).imp fun{a b} aq=>by have:=aq.1;have:=aq.2;omega
 exact BD au h.Mk fun y=>hpd.mem_iff
section
variable {S:cZ}
def qL(l:List Int):aS 1 aL:=if h:l.length<9223372036854775808 then eX zf l h else eX zf [] Δ
theorem agl{l:List Int}(h:l.length<9223372036854775808):(qL l).l=l:=by unfold qL;rw[dif_pos h,yg]
theorem JN{n D:Nat}{aa:aU}(hn:2<=n):∀{L:List (IV×List Int)},(∀ z∈L,(∃ b,z.1=.slM D b 0 z.2.length z.2.length 1 false/\aa[b]?=some (aI (z.2.flatMap aL)))/\z.2.length<9223372036854775808/\z.2≠[])->(L.flatMap SI).mapM (freeze n D aa)=some ((L.map fun z=>qL z.2).flatMap ia)
 |[],_=>rfl
 |z::L,h=>by
  have h2:=JN hn (L:=L) fun x hx=>h x (nk _ hx);obtain⟨⟨b,hv,hb⟩,hl,hne⟩:=h z (kB ..);have hz:=yK (g:=aL) (Pre:=[]) (J:=aa) (d:=D) (m:=n) (lv:=z.1) (xs:=z.2) zf (fun a x hx=>by
   simp only[aL,fF,j4,k7]at hx;subst hx;exact zn) hn hl (.inr ⟨b,hne,by rw [hv]; simp,hb⟩)
  rw[gM]at hz;have hq:qL z.2=eX zf z.2 hl:=by unfold qL;rw[dif_pos hl]
  simp only[fJ,nK,hq,SI,ia,gQ,gM,rO,hz,tC,uG,jG];rw[h2];rfl
theorem zf6(p:Pn):(aW p).length<=2*p.az.l.length:=by have h2:=yP (bZ (bS p) (bW p)) id (aY p) [] [];unfold aW;rw[w6]at h2;simpa using h2
theorem vl(hS:bN S)(Fl:∀ args,S 36 args=none)(p:Pn)(h0:aV p)(hal:p.az.l.length<=200)(h1:p.ns.l.length<=1000000)(iz:bQ p)(ha:2*p.az.l.length<65536)(hna:2*p.az.l.length*p.ns.l.length<=900000)
  (hp:∃ Np,aP S Np 36 [.agg p.c] (aG aH 0)):∃ cs:aS 1 ia,cs.l.map (·.l)=aW p/\∃ N,aP S N 73 [.agg p.c] (.tuple [cs.v,aG aH 0]):=by
 obtain⟨Np,hp⟩:=hp
 obtain⟨Nn,hN0⟩:=Ml hS p h0 iz ha hna
 have hcx:((aW p).map qL).length<9223372036854775808:=by have:=zf6 p;rw[ig];omega
 refine⟨eX zr _ hcx,?_,Np+Nn+600000,fun m hm d ah aK aa id=>?_⟩
 ·rw[yg,SN]
  conv=>rhs;rw[←List.map_id (aW p)]
  exact znt fun l hl=>agl (by have:=(h0.qG hal l hl).1;omega)
 obtain⟨m,rfl⟩:=me m 2
 have main:∃ r,aM aR S (m+1+1) d ah aK aa id 73 [.agg p.c]=some r/\r=(eV.r,.tuple [(eX zr _ hcx).v,aG aH 0],aa):=by
  refine yz (i:=i73) (ns hS) rfl Δ (lb rfl) fun t af=>?_;simp only[slotsOf,zb,zc,i73,Pn.c]at af;generalize(fun l=>if l=d then aK else ah l:bR)=cQ
  have cp:=fun dd oo aK aa id=>hp (m+1) Ω dd oo aK aa id;have hL0:=@hN0 (m+1) Ω;simp only[Pn.c]at cp;have hlv:∀(o:aU)(v w:IV),freeze (m+1) (d+1) o v=some w->leave (m+1) d o aa id 0 v=some (.r,w,aa):=fun o v w h=>by simp[leave,h]
  have fin:∀ t' (O:aU) (lv:IV),freeze m (d+1) O lv=some (eX zr _ hcx).v->aN 72 t' [(2,lv),(3,aG aH 0)]->(Out.ret=.normal∨Out.ret=.ret)/\∃ w r,bP (d+1) cQ ⟨t',O⟩ i73.res=some w/\leave (m+1) d O aa id i73.mode w=some r/\r=(eV.r,.tuple [(eX zr _ hcx).v,aG aH 0],aa):=fun t' O lv hf ht=>by
   simp only[zb,zc]at ht;obtain⟨m,rfl⟩:=me m 1;have hfz:freeze (m+1+1) (d+1) O (.tuple [lv,aG aH 0])=some (.tuple [(eX zr _ hcx).v,aG aH 0]):=by have h2:freeze (m+1) (d+1) O (aG aH 0)=some (aG aH 0):=rfl;simp only[freeze,rO,Cc,tC,uG,jG]at hf ⊢;rw[hf];rfl
   refine⟨.inr rfl,.tuple [lv,aG aH 0],_,?_,hlv _ _ _ hfz,rfl⟩;simp only[i73,V0,seval,ht]
  suffices kY:∀ K:fP,(∀ t' (O:aU) (lv:IV),freeze m (d+1) O lv=some (eX zr _ hcx).v->aN 72 t' [(2,lv),(3,aG aH 0)]->K .ret ⟨t',O⟩)->Ex (aM aR S (m+1)) (d+1) cQ (m+1) i73.body K ⟨t,[]⟩from kY _ fin
  clear fin;intro K fin;rw[show i73.body=.seq (i73.body.sub [0]) (.seq (.seq (i73.body.sub [1,0,0]) (.seq (i73.body.sub [1,0,1,0]) (i73.body.sub [1,0,1,1]))) (.seq (i73.body.sub [1,1,0]) (.seq (i73.body.sub [1,1,1,0]) (.seq (i73.body.sub [1,1,1,1,0]) (.seq (i73.body.sub [1,1,1,1,1,0]) (.seq (i73.body.sub [1,1,1,1,1,1,0]) (.seq (i73.body.sub [1,1,1,1,1,1,1,0]) (.seq (i73.body.sub [1,1,1,1,1,1,1,1,0]) (i73.body.sub [1,1,1,1,1,1,1,1,1])))))))))from rfl];have hLp:=fun{K:fP} B xs hm hU hB hxl P nx Wi Wh WN hP3 oh hxU dv hdv t af hK=>@Q4 S hS p h0 (m+1) (d+1) cQ K B xs hm hU hB hxl P nx Wi Wh WN hP3 oh hxU dv hdv t af hK;generalize i73.body.sub [1,1,1,1,0]=T at hL0 ⊢;generalize i73.body.sub [1,1,1,1,1,1,1,1,0]=T2 at hLp ⊢;have cmp:∀ a b,(IV.mapM a b).cells=[.mapM a b]:=fun _ _=>rfl;have smp:∀ a b,(IV.mapM a b).scalar=true:=fun _ _=>rfl;have he:((0:Int) != 0)=false:=rfl;simp only[i73,IC.sub,V0,seval, *];refine hL0 (d+1) cQ _ _ _ cD fun t' lv J nx bs ck xs hO hD oh hl hnl ht=>?_;clear af;simp only[zb,zc]at ht;have hxl:xs.length<65536:=by rw[hD,h0.D6.length_eq,w6];omega
  have key:∀ W:aU,W=(aO.cells [p.ns.v,p.az.v,p.fs.v]::.free::.map (gK nx) (gR (IV.int .i64) nx) bs ck::aI [.mapM (d+1) 2]::(J++[.free]))->∃(xs':List Int)(J':aU),(xs'.Perm xs/\xs'.Pairwise (·<=·))/\(∀ id,aM aR S (m+1) (d+1) cQ W W id 117 [lv]=some (.x,.tuple [],aI [p.ns.v,p.az.v,p.fs.v]::.free::.map (gK nx) (gR (IV.int .i64) nx) bs ck::aI [.mapM (d+1) 2]::J'))/\((xs'=[]/\lv=.nilsl)∨∃ b,lv=.slM (d+1) (b+1+1+1+1) 0 xs'.length xs'.length 1 false/\J'[b]?=some (aI (xs'.flatMap aL))):=by
   intro W hW;rcases hO with⟨rfl,rfl⟩|⟨b,hne,rfl,hb⟩
   ·obtain⟨J',hs⟩:=Lw (d:=d+1) (ah:=cQ) (aK:=W) (aa:=W) hS (m:=m+1) Ω;refine⟨[],J++[.free]++J',⟨List.Perm.refl _,List.Pairwise.nil⟩,fun id=>?_,.inl ⟨rfl,rfl⟩⟩;rw[hs id,hW];rfl
   ·have fG:(J++[aO.free])[b]?=some (aI (xs.flatMap aL)):=by rw[gT (cU.1 hb).1];exact hb
    have sW:=(cU.1 hb).1;have hWl:4+b<W.length:=by rw[hW];simp;omega
    have hWb:W[4+b]?=some (aI (xs.flatMap aL)):=by rw[hW,show 4+b=b+1+1+1+1 by omega];simp only[jP,fG]
    have hs:=fun id=>TP (d:=d+1) (ah:=cQ) (cp:=xs.length) (tg:=false) hS hWl xs Ω (fun h=>hne (Fv h)) (m:=m+1) Ω W [] id;rw[iL,JU hWb]at hs;have hp:=ZB xs;refine⟨lJ xs,(J++[aO.free]).set b (aI ((lJ xs).flatMap aL)),⟨hp,zcd xs⟩,fun id=>?_,.inr ⟨b,by rw[hp.length_eq,show 4+b=b+1+1+1+1 by omega],?_⟩⟩
    ·have hbk:Bk W (4+b) ((lJ xs).flatMap aL)=aO.cells [p.ns.v,p.az.v,p.fs.v]::.free::.map (gK nx) (gR (IV.int .i64) nx) bs ck::aI [.mapM (d+1) 2]::(J++[aO.free]).set b (aI ((lJ xs).flatMap aL)):=by rw[Bk,hW,show 4+b=b+1+1+1+1 by omega];rfl
     rw[hs id,hbk,iL]
    ·rw[oa (by simp;omega)]
  obtain⟨xs',J',iF,hs,hdv⟩:=key _ rfl;obtain⟨iF,Uc⟩:=iF;have hxR:xs'=aY p:=h0.xS (hD▸iF) Uc;have LO:∀ k∈aY p,kS 0 nx k=iN p k:=fun k hk=>by obtain⟨e1,hd1⟩:=h0.fT (h0.fk.1 hk);have hm1:jg k∈xs:=iF.mem_iff.1 (by rw[hxR,e1];exact h0.fk.2 hd1);have:=oh _ hm1;rw[e1,(h0.fT hd1).1,tA]at this;exact this
  have hlx:xs'.length=xs.length:=iF.length_eq;clear key;simp only[V0,seval,cmp,smp,ht,hs];have e0:∀ R:aU,(aO.cells [p.ns.v,p.az.v,p.fs.v]::.free::.map (gK nx) (gR (IV.int .i64) nx) bs ck::aI [.mapM (d+1) 2]::(J'++R))=(aO.cells [p.ns.v,p.az.v,p.fs.v]::.free::.map (gK nx) (gR (IV.int .i64) nx) bs ck::aI [.mapM (d+1) 2]::J')++R:=fun R=>rfl;generalize hP:(aO.cells [p.ns.v,p.az.v,p.fs.v]::.free::.map (gK nx) (gR (IV.int .i64) nx) bs ck::aI [.mapM (d+1) 2]::J')=P at e0;have hPl:P.length=J'.length+1+1+1+1:=by rw[←hP];simp
  rw[e0,←hPl];refine hLp 512 xs' Ω Ω (fun z hz=>by
   obtain⟨r5,_⟩:=h0.mm hz;have h2:=r5.nodup.length_le_of_subset fun x hx=>r5.sub x hx;have h3:(aY p).length=2*p.az.l.length:=by unfold aY;rw[eR,ig,ig,uF];omega
   omega) Ω P nx bs ck (by rw [← hP]; rfl) (by rw [← hP]; rfl) LO (fun z hz=>by rw [← hxR]; exact hz) lv ?_ _ cD fun t2 uH sn bs2 ck2 J2 L dX hL2 hG2 hLl ht2=>?_
  ·rcases hdv with h|⟨b,h1,h2⟩
   ·exact .inl h
   ·refine .inr ⟨b+1+1+1+1,h1,?_⟩;rw[←hP];exact h2
  ·clear ht;simp only[zb,zc]at ht2;obtain⟨m,rfl⟩:=me m 1;have WH:∀(b:Nat)(x y z:aO),J2[b]?=some z->(P++x::y::J2)[P.length+2+b]?=some z:=fun b x y z h=>by rw[jd Ω,show P.length+2+b-P.length=b+1+1 by omega];exact h
   have afo:=JN (n:=m) (D:=d+1) (aa:=P++.map (gK sn) (gR IV.bool sn) bs2 ck2::aI [.mapM (d+1) P.length]::J2) Ω (L:=L) fun z hz=>by obtain⟨⟨b,h1,h2⟩,⟨h',r',h3,h4⟩,h5⟩:=hL2 z hz;exact⟨⟨_,h1,WH b _ _ _ h2⟩,Ω,by rw[h3];simp⟩
   have hLc:L.map Prod.snd=aW p:=by rw[hG2,hxR];rfl
   have hmq:(L.map fun z=>qL z.2)=(aW p).map qL:=by rw[←hLc,SN];rfl
   have lY:(aW p).length=L.length:=by rw[←hLc,ig]
   rw[hmq]at afo;simp only[V0,seval,ht2];refine fin _ _ uH ?_ cD;obtain⟨cs,hce⟩:∃ cs,cs=(aW p).map qL:=⟨_,rfl⟩;have lY:cs.length=L.length:=by rw[hce,ig,lY]
   have afr:=afo;rw[←hce]at afr;have hv:(eX zr _ hcx).v=(eX zr cs (by rw[hce];exact hcx)).v:=by subst hce;rfl
   rw[hv];rcases dX with⟨rfl,rfl⟩|⟨b,hne,rfl,hb⟩
   ·have:cs=[]:=by
     cases cs with
     |nil=>rfl
     |cons _ _=>simp at lY
    subst this;exact Zb _ Ω _ _
   ·rw[UB (WH b _ _ _ hb) (zl JO |>.trans Ω) afr];cases cs with
    |nil=>simp at lY;exact absurd (sr.1 lY.symm) hne
    |cons c cs=>rw[←lY];rfl
 obtain⟨r,h1,rfl⟩:=main
 exact h1
end
def Dc(p:Pn):List (List Int):=(aW p).filter fun c=>decide (0<gq p c)
theorem aV.KP{p:Pn}(h:aV p){z:Int}(hz:z∈aY p):eN p z=e8 p z:=by
 obtain⟨a,ha,aq,hsg,hok,_⟩:=h.rF hz;unfold eN e8;rw[hok,bT,aq];rcases hsg with⟨e,hp⟩|⟨e,hp⟩
 ·rw[decide_eq_true hp,bT,bT,e]
 ·have hid:=h.pid a ha;have hng:jg z=a.id:=by rw[e];exact h.ng2 ha
  rw[decide_eq_false (show ¬ 0<z by omega),bL,bL,hng,decide_eq_true (show 0<a.id by omega),bT]
theorem Jj{p:Pn}{os:List (List Int)}{a:Ar}{i:Nat}{f:Int}(h:a.ic.l.map (·.l)=(aW p).filter fun c=>decide (gq p c<=0)&&gp p os (eW p c)==i):(a.ic.l.all fun c=>cE p c.l f)=true↔∀ c∈aW p,gq p c<=0->gp p os (eW p c)=i->cE p c f=true:=by
 rw[ot];constructor
 ·intro hc c hm h1 h2;have:c∈a.ic.l.map (·.l):=by rw[h];exact tu.2 ⟨hm,by rw[decide_eq_true h1,h2];simp⟩
  obtain⟨x,hx,rfl⟩:=jA.1 this;exact hc x hx
 ·intro hc x hx;have:x.l∈a.ic.l.map (·.l):=HJ hx;rw[h]at this;obtain⟨h1,h2⟩:=tu.1 this;rw[gJ,jk,n9]at h2;exact hc _ h1 h2.1 h2.2
theorem Qv{p:Pn}{As:List Ar}(hR:Ke p As):fcP p (dS p 0 As [])=true↔Xp p (Dc p):=by
 cases As with
 |nil=>have:=hR.len;simp at this
 |cons a0 l =>
  have hlen:l.length=(Dc p).length:=by have:=hR.len;rw[cu]at this;unfold Dc;omega
  obtain⟨t0,o0,i0⟩:=hR.el 0 a0 rfl
  have t0:=t0 rfl
  have hel:∀(k:Nat)(a:Ar),l[k]?=some a->a.oc.l=((Dc p)[k]?).getD []/\a.ic.l.map (·.l)=((aW p).filter fun c=>decide (gq p c<=0)&&gp p (Dc p) (eW p c)==k+1):=fun k a ha=>by obtain⟨_,e2,e3⟩:=hR.el (k+1) a (by rw[jP];exact ha);exact⟨e2,e3⟩
  have fU:∀ k,k<l.length->∃ a c,l[k]?=some a/\(Dc p)[k]?=some c/\a.oc.l=c:=fun k hk=>by have h1:=cK hk;have h2:(Dc p)[k]?=some (Dc p)[k]:=cK Ω;refine⟨_,_,h1,h2,?_⟩;rw[(hel k _ h1).1,h2];rfl
  have hfo:∀ a:Ar,iQ p a=qi p a.oc.l:=fun _=>rfl
  have hmap:l.map (iQ p)=(Dc p).map (qi p):=by
   refine E8 fun k=>?_;rw[k9,k9];by_cases hk:k<l.length
   ·obtain⟨a,c,h1,h2,h3⟩:=fU k hk;rw[h1,h2,gH,gH,hfo,h3]
   ·rw[BZ Ω,BZ Ω];rfl
  have PY:jS p { a0 with tw:=jY p 0 a0 }=true↔∀ c∈aW p,gq p c<=0->gp p (Dc p) (eW p c)=0->cE p c 0=true:=by have e0:jY p 0 a0=0:=t0;rw[e0];unfold jS;show(cE p a0.oc.l 0&&a0.ic.l.all fun c=>cE p c.l 0)=true↔_;rw[o0];show(true&&_)=true↔_;rw[pX];exact Jj i0
  have Gp:∀ k a c,l[k]?=some a->(Dc p)[k]?=some c->a.oc.l=c->(Wf p a=true↔cE p c (qi p c)=true/\∀ d∈aW p,gq p d<=0->gp p (Dc p) (eW p d)=k+1->cE p d (qi p c)=true):=fun k a c h1 h2 h3=>by unfold Wf jS;rw[gJ];show cE p a.oc.l (iQ p a)=true/\_↔_;rw[Jj (a:={ a with tw:=iQ p a }) (hel k a h1).2];show cE p a.oc.l (iQ p a)=true/\(∀ d∈aW p,gq p d<=0->gp p (Dc p) (eW p d)=k+1->cE p d (iQ p a)=true)↔_;rw[hfo,h3]
  have abc:dS p 0 (a0::l) []=if jS p { a0 with tw:=jY p 0 a0 }=true then dS p 1 l []else none:=by rw[yW];rfl
  rw[abc]
  constructor
  ·intro hf
   by_cases c0:jS p { a0 with tw:=jY p 0 a0 }=true
   ·rw[bt c0]at hf
    cases hg:dS p 1 l []with
    |none=>rw[hg]at hf;cases hf
    |some r =>
     rw[hg]at hf
     obtain⟨e,h2,h3⟩:=(Zh (p:=p) Ω).1 hg
     rw[gM]at e
     subst e
     have ag2:(l.map (iQ p)).length=p.fs.l.length:=by have hf:(((l.map (iQ p)).length:Int)==(p.fs.l.length:Int))=true:=hf;have:=eq_of_beq hf;omega
     rw[ig]at ag2
     rw[hmap]at h3
     refine⟨fun c hc=>?_,h3,Ω,fun c hc ht=>?_⟩
     ·obtain⟨k,hk⟩:=pY hc
      obtain⟨a,c',e1,e2,e3⟩:=fU k (by rw[hlen];exact(cU.1 hk).1)
      rw[hk]at e2
      cases e2
      obtain⟨d1,d2,_⟩:=h2 a (j5 e1)
      rw[hfo,e3]at d1
      exact⟨d1,((Gp k a c e1 hk e3).1 d2).1⟩
     ·have hle:=It p (Dc p) (eW p c)
      unfold pE
      cases hr:gp p (Dc p) (eW p c)with
      |zero=>exact PY.1 c0 c hc ht hr
      |succ k =>
       obtain⟨a,c',e1,e2,e3⟩:=fU k Ω
       obtain⟨_,d2,_⟩:=h2 a (j5 e1)
       show cE p c (qi p (((Dc p)[k]?).getD []))=true
       rw[e2]
       exact((Gp k a c' e1 e2 e3).1 d2).2 c hc ht hr
   ·rw[bC c0]at hf
    cases hf
  ·intro hs
   have c0:=PY.2 fun c hc ht hr=>by have:=hs.inner c hc ht;unfold pE at this;rw[hr]at this;exact this
   rw[bt c0,(Zh (p:=p) (l:=l) (i:=1) (fs:=[]) (r:=l.map (iQ p)) Ω).2 ⟨rfl,fun a ha=>?_,by rw[hmap];exact hs.GP⟩]
   ·show(((l.map (iQ p)).length:Int)==(p.fs.l.length:Int))=true
    rw[ig,hlen,hs.num]
    simp
   ·obtain⟨k,hk⟩:=pY ha
    obtain⟨a',c,e1,e2,e3⟩:=fU k (cU.1 hk).1
    rw[hk]at e1
    cases e1
    obtain⟨d1,d2⟩:=hs.outer c (j5 e2)
    refine⟨by rw[hfo,e3];exact d1,(Gp k a c hk e2 e3).2 ⟨d2,fun d hd ht hr=>?_⟩,Ψ⟩
    have:=hs.inner d hd ht
    unfold pE at this
    rw[hr]at this
    have this:cE p d (qi p (((Dc p)[k]?).getD []))=true:=this
    rw[e2]at this
    exact this
theorem LH{p:Pn}(h:jf p=0):(∀ a∈p.az.l,a.via.l.length<=900)/\p.fs.l.Pairwise (·<·):=by
 unfold jf at h;cases h1:(mU p||nX p);rotate_left
 ·rw[h1]at h;simp at h
 rw[h1,bL]at h;cases h2:q8 p
 ·rw[h2]at h;simp at h
 rw[uQ]at h1;unfold q8 at h2;simp only[gJ]at h2;refine⟨fun a ha=>?_,y6.1 h2.2.2⟩;have:=qT.1 h1.2 a ha;rw[jk]at this;omega
section
variable {S:cZ}
theorem ch5{α:Type}{P:Nat->(bR)->List aO->List aO->Nat->α->Prop}(h:∀ d o v w i,∃ a,P d o v w i a):∃ f:Nat->(bR)->List aO->List aO->Nat->α,∀ d o v w i,P d o v w i (f d o v w i):=⟨fun d o v w i=>(h d o v w i).choose,fun d o v w i=>(h d o v w i).choose_spec⟩
theorem IP(hS:bN S)(Fl:∀ args,S 36 args=none)(p:Pn)(h1:p.ns.l.length<=1000000)(h2:p.az.l.length<=1000000)(iz:bQ p):∃ Np,aP S Np 36 [.agg p.c] (aG aH (jf p)) :=
 G6 hS Fl p h1 h2 (fun a h=>by have:=iz a h;omega)
theorem GV(hS:bN S)(p:Pn){e:Int}(he:e≠0){Np:Nat}(hp:aP S Np 36 [.agg p.c] (aG aH e)):∃ N,aP S N 73 [.agg p.c] (.tuple [.nilsl,aG aH e]):=by
 refine⟨Np+10+1,sX i73 hS (Np+10) fun m hm d ah t af=>?_⟩;simp only[slotsOf,zb,zc,i73,Pn.c]at af;have c0:=fun dd oo aK aa id=>hp m Ω dd oo aK aa id;simp only[Pn.c]at c0;have hb:(e != 0)=true:=by simp[bne,he]
 simp only[i73,V0,seval,af,c0,hb];exact⟨_,rfl,SD (n:=2) rfl m Ω _ _⟩
theorem kF(hS:bN S)(p:Pn){e:Int}(he:e≠0){N1:Nat}(vf:aP S N1 73 [.agg p.c] (.tuple [.nilsl,aG aH e])):∃ N,aP S N 47 [.agg p.c] (.tuple [.nilsl,.nilsl,.eT,aG aH e]):=by
 refine⟨N1+10+1,sX i47 hS (N1+10) fun m hm d ah t af=>?_⟩;simp only[slotsOf,zb,zc,i47,Pn.c]at af;have c0:=fun dd oo aK aa id=>vf m Ω dd oo aK aa id;simp only[Pn.c]at c0;have hb:(e != 0)=true:=by simp[bne,he]
 simp only[i47,V0,seval,af,c0,hb];refine⟨_,by simp only[bP,rO,Cc,YJ,V0,seval,af,tC,uG];rfl,?_⟩;exact SD (n:=2) rfl m Ω _ _
theorem CP(hS:bN S)(Fl:∀ args,S 36 args=none)(p:Pn)(hn:p.ns.l.length<=200)(hal:p.az.l.length<=200)(iz:bQ p)(hE:jf p=0) :
  ∃(e:Int)(N:Nat),(∀ m,N<=m->∀ d ah aK aa id,∃ a b c,aM aR S m d ah aK aa id 47 [.agg p.c]=some (.r,.tuple [a,b,c,aG aH e],aa))/\((e=0/\mI p)∨(e=12/\¬ mI p)):=by
 have h0:=WT hE
 obtain⟨hv,hfs⟩:=LH hE
 have hmul:2*p.az.l.length*p.ns.l.length<=400*200:=XF Ω hn
 have hpc:=IP hS Fl p Ω Ω iz
 rw[hE]at hpc
 obtain⟨cs,hcs,N1,vf⟩:=vl hS Fl p h0 hal Ω iz Ω Ω hpc
 obtain⟨L,hL,N2,Us⟩:=AH hS p h0 iz
 obtain⟨N3,hN3⟩:=Et hS p h0 hv iz hal Ω cs hcs L hL
 have qo:∀ c∈cs.l,c.l∈aW p:=fun c hc=>by rw[←hcs];exact HJ hc
 have lY:cs.l.length<=65536:=by
  have h1:cs.l.length=(aW p).length:=by rw[←hcs,ig]
  have:=zf6 p;omega
 obtain⟨N4,hN4⟩:=GC hS p iz cs.l lY (fun c hc=>by have:=(h0.qG hal c.l (qo c hc)).1;omega) (fun c hc=>(h0.qG hal c.l (qo c hc)).2.1) (fun c hc z hz=>h0.KP (h0.Bt (qo c hc) z hz))
 obtain⟨B,hB⟩:∃ B:Bool,B=true↔mI p:=by
  by_cases h:mI p
  ·exact⟨true,fun _=>h,fun _=>rfl⟩
  ·exact⟨false,fun h=>(by cases h),fun h2=>absurd h2 h⟩
 have he:((0:Int) != 0)=false:=rfl
 have smp:(IV.eF (gK L) (gR mY L)).scalar=true:=rfl
 have cmp:(IV.eF (gK L) (gR mY L)).cells=[.eF (gK L) (gR mY L)]:=rfl
 refine ⟨bif B then 0 else 12,N1+N2+N3+N4+10+1,fun m hm d ah aK aa id=>?_,by
  cases B
  ·exact .inr ⟨rfl,fun h=>by have:=hB.2 h;cases this⟩
  ·exact .inl ⟨rfl,hB.1 rfl⟩⟩
 obtain⟨m,rfl⟩:=me m 1
 obtain⟨AS,hAS⟩:=ch5 (hN3 m Ω)
 obtain⟨XS,hXS⟩:=ch5 fun d o v w i=>ch5 (P:=fun d' o' v' w' i' (xs:aS 1 aL)=>aM aR S m d' o' v' w' i' 76 [.agg p.c,(AS d o v w i).v]=some (.r,.tuple [xs.v,.bool B],w')) fun d' o' v' w' i'=>by
  obtain⟨_,hA,hR⟩:=hAS d o v w i;obtain⟨xs,ok,hf,hok⟩:=hN4 _ hA (fun a ha=>(hR.el 0 a ha).1 rfl) m Ω d' o' v' w' i';have hsp:=(Qv hR).trans (h0.spec hv hal hfs (List.Perm.refl _));rw[←hok]at hsp;have:ok=B:=by rw[nU,hsp,hB]
  exact⟨xs,this▸hf⟩
 have main:∃ v,aM aR S (m+1) d ah aK aa id 47 [.agg p.c]=some (.r,v,aa)/\∃ a b c,v=.tuple [a,b,c,aG aH (bif B then 0 else 12)]:=by
  refine ZG (i:=i47) (ns hS) rfl rfl (lb rfl) fun t af=>?_;simp only[slotsOf,zb,zc,i47,Pn.c]at af;generalize(fun l=>if l=d then aK else ah l:bR)=cQ
  have c0:=fun dd oo aK aa id=>vf m Ω dd oo aK aa id;have c1:=fun dd oo aK aa id=>Us m Ω dd oo aK aa id;have c2:=fun dd oo aK aa id=>(hAS dd oo aK aa id).1;have c3:=hXS;simp only[Pn.c]at c0 c1 c2 c3;cases B
  ·simp only[i47,V0,seval,af,c0,he,c1,c2,c3];rw[yV];refine⟨_,.tuple [.nilsl,.nilsl,.eT,aG aH 12],by simp only[bP,rO,Cc,YJ,V0,seval,af,tC,uG];rfl,?_,_,_,_,rfl⟩;exact SD (n:=2) rfl m Ω _ _
  ·simp only[i47,V0,seval,af,c0,he,c1,c2,c3];rw[yV];refine⟨_,_,by simp only[bP,rO,Cc,YJ,V0,seval,af,tC,uG];rfl,SD (n:=5) ?_ m Ω _ _,_,_,_,rfl⟩;rw[rI];simp only[qt,VK,Kn,Rz _ 0,Y6 _ 2,OY L 1,pX];rfl
 obtain⟨v,h1,a,b,c,rfl⟩:=main
 exact⟨a,b,c,h1⟩
structure Hz(p:Pn)(z:Int):Prop where
 bad:jf p≠0->z=jf p
 good:jf p=0->(z=0/\mI p)∨(z=12/\¬ mI p)
theorem Hz.uniq{p:Pn}{y z:Int}(h:Hz p y)(g:Hz p z):y=z:=by
 by_cases hE:jf p=0
 ·rcases h.good hE with⟨a,b⟩|⟨a,b⟩<;>rcases g.good hE with⟨c,d⟩|⟨c,d⟩
  ·rw[a,c]
  ·exact absurd b d
  ·exact absurd d b
  ·rw[a,c]
 ·rw[h.bad hE,g.bad hE]
theorem EW.x{p:Pn}{z:Int}(h:EW p z):Hz p z:=⟨h.bad,h.eq⟩
theorem uY(hS:bN S)(Fl:∀ args,S 36 args=none)(hSg:∀ args,S 20 args=none)(p:Pn)(hn:p.ns.l.length<=200)(hal:p.az.l.length<=200)(iz:bQ p) :
  ∃(e:Int),Hz p e/\∃(N:Nat),aP S N 20 [.agg p.c] (aG aH e):=by
 have key:∃(e:Int)(N:Nat),(∀ m,N<=m->∀ d ah aK aa id,∃ a b c,aM aR S m d ah aK aa id 47 [.agg p.c]=some (.r,.tuple [a,b,c,aG aH e],aa))/\Hz p e:=by
  by_cases hE:jf p=0
  ·obtain⟨e,N,hN,h⟩:=CP hS Fl p hn hal iz hE;exact⟨e,N,hN,fun h=>absurd hE h,fun _=>h⟩
  ·obtain⟨Np,hp⟩:=IP hS Fl p Ω Ω iz;obtain⟨N1,vf⟩:=GV hS p hE hp;obtain⟨N,hN⟩:=kF hS p hE vf;exact⟨_,N,fun m hm d o v w i=>⟨_,_,_,hN m hm d o v w i⟩,fun _=>rfl,fun h=>absurd h hE⟩
 obtain⟨e,N,hN,hX⟩:=key
 refine⟨e,hX,N+10+1,ZF (i:=i20) (hSg _) rfl rfl (lb rfl) (N+10) Ω zn fun m hm d ah t af=>?_⟩
 simp only[slotsOf,zb,zc,i20,Pn.c]at af
 obtain⟨f,c0⟩:=ch5 (P:=fun d o v w i (x:IV×IV×IV)=>aM aR S m d o v w i 47 [.agg p.c]=some (.r,.tuple [x.1,x.2.1,x.2.2,aG aH e],w)) fun d o v w i=>by obtain⟨a,b,c,h⟩:=hN m Ω d o v w i;exact⟨(a,b,c),h⟩
 simp only[Pn.c]at c0
 simp only[i20,V0,seval,af,c0]
theorem CN(hS:bN S)(Fl:∀ args,S 36 args=none)(hSg:∀ args,S 20 args=none)(p:Pn)(hn:p.ns.l.length<=200)(hal:p.az.l.length<=200)(iz:bQ p) :
  ∃(e:Int),Hz p e/\(∃(N:Nat),aP S N 20 [.agg p.c] (aG aH e))/\∃ N,aP S N 32 [.agg p.c] (aG aH e):=by
 obtain⟨e,hX,hN⟩:=uY hS Fl hSg p hn hal iz
 obtain⟨z,hz,hM⟩:=EM hS p iz hal hn
 have:=hX.uniq hz.x
 subst this
 exact⟨e,hX,hN,hM⟩
end
def sL(a:Ac):Nat:=min a.via.l.length 201
def nO(f:Ft):Nat:=min f.parts.l.length 201
theorem aev:aT .i64 (200+1)=201:=by rw[zT];decide
theorem Pf(n:Nat):(if (201:Int)<(n:Int)then(201:Int)else(n:Int))=((min n 201:Nat):Int):=by split<;>omega
def L7(p:Pn):Bool:=decide (p.ns.l.length<=200)&&(decide (p.az.l.length<=200)&&(decide (p.fs.l.length<=200)&&decide (mO sL p.az.l<=200)))
def Eb(s:Sv):Bool:=L7 s.pl&&(decide (s.ft.l.length<=200)&&decide (mO nO s.ft.l<=200))
theorem wH{n:Nat}:decide ((n:Int)>200)=!decide (n<=200):=by rw[nU];simp;omega
theorem Wm{n:Nat}:decide ((n:Int)<=200)=decide (n<=200):=by rw[nU,decide_eq_true_iff,decide_eq_true_iff];omega
section
variable {S:cZ}
theorem Gy(hS:bN S)(p:Pn):iA aR S 13 [.agg p.c,iv 200] (.bool (L7 p)):=by
 refine zy (i:=i13) (k:=1) (ns hS) rfl rfl zj (p.az.l.length+5) Ω fun m hm d ah=>?_;unfold L7;cases h1:decide (p.ns.l.length<=200)
 ·simp only[i13,W0,b8,dK,ff,cA,dL,cL,eP,fI,fH,cO,dM,cN,cM,bg,dY,iW,dU,List.replicate,look,mg,iq,bq,bX,pZ,dh,gY,Xb,Xc,Xd,reduceCtorEq,Xe,Pn.c,wH,h1,ew]
 cases h2:decide (p.az.l.length<=200)
 ·simp only[i13,W0,b8,dK,ff,cA,dL,cL,eP,fI,fH,cO,dM,cN,cM,bg,dY,iW,dU,List.replicate,look,mg,iq,bq,bX,pZ,dh,gY,Xb,Xc,Xd,reduceCtorEq,Xe,Pn.c,wH,h1,h2,ew]
 cases h3:decide (p.fs.l.length<=200)
 ·simp only[i13,W0,b8,dK,ff,cA,dL,cL,eP,fI,fH,cO,dM,cN,cM,bg,dY,iW,dU,List.replicate,look,mg,iq,bq,bX,pZ,dh,gY,Xb,Xc,Xd,reduceCtorEq,Xe,Pn.c,wH,h1,h2,h3,ew]
 simp only[i13,W0,b8,dK,ff,cA,dL,cL,eP,fI,fH,cO,dM,cN,cM,bg,dY,iW,dU,List.replicate,look,mg,iq,bq,bX,pZ,dh,gY,Xb,Xc,Xd,reduceCtorEq,Xe,Pn.c,wH,h1,h2,h3];refine ze (fun j st=>∃ i J,j=p.az.l.length-i/\i<=p.az.l.length/\st.t.length=53/\bH (.tuple []) st.t 1=iv 200/\bH (.tuple []) st.t 2=.ptrM d 0 0/\bH (.tuple []) st.t 4=.bool false/\bH (.tuple []) st.t 5=iv ((mO sL (p.az.l.take i):Nat):Int)/\bH (.tuple []) st.t 6=iv i/\st.aa=aI [p.ns.v,p.az.v,p.fs.v]::J) p.az.l.length Ω ⟨0,[],Ω,Ω,rfl,rfl,rfl,rfl,rfl,rfl,rfl⟩ ?_;rintro j ⟨t,aa⟩ K ⟨i,J,rfl,hi,hl,k1,k2,k4,k5,k6,ho⟩ hn he hr;dsimp only at hl k1 k2 k4 k5 k6 ho;have ht:t=[bH (.tuple []) t 0,bH (.tuple []) t 1,bH (.tuple []) t 2,bH (.tuple []) t 3,bH (.tuple []) t 4,bH (.tuple []) t 5,bH (.tuple []) t 6,bH (.tuple []) t 7,bH (.tuple []) t 8,bH (.tuple []) t 9,bH (.tuple []) t 10,bH (.tuple []) t 11,bH (.tuple []) t 12,bH (.tuple []) t 13,bH (.tuple []) t 14,bH (.tuple []) t 15,bH (.tuple []) t 16,bH (.tuple []) t 17,bH (.tuple []) t 18,bH (.tuple []) t 19,bH (.tuple []) t 20,bH (.tuple []) t 21,bH (.tuple []) t 22,bH (.tuple []) t 23,bH (.tuple []) t 24,bH (.tuple []) t 25,bH (.tuple []) t 26,bH (.tuple []) t 27,bH (.tuple []) t 28,bH (.tuple []) t 29,bH (.tuple []) t 30,bH (.tuple []) t 31,bH (.tuple []) t 32,bH (.tuple []) t 33,bH (.tuple []) t 34,bH (.tuple []) t 35,bH (.tuple []) t 36,bH (.tuple []) t 37,bH (.tuple []) t 38,bH (.tuple []) t 39,bH (.tuple []) t 40,bH (.tuple []) t 41,bH (.tuple []) t 42,bH (.tuple []) t 43,bH (.tuple []) t 44,bH (.tuple []) t 45,bH (.tuple []) t 46,bH (.tuple []) t 47,bH (.tuple []) t 48,bH (.tuple []) t 49,bH (.tuple []) t 50,bH (.tuple []) t 51,bH (.tuple []) t 52]:=Ef hl;simp only[k1,k2,k4,k5,k6]at ht;generalize bH (.tuple []) t=r at ht;subst ht;subst ho;by_cases h:i<p.az.l.length
 ·obtain⟨x,hx⟩:=gx (l:=p.az.l) (i:=i) h;have oh:=Cm (g:=sL) hx;have htot:=NR (g:=sL) p.az.l i;have Uj:sL x<=201:=Nat.min_le_right _ _;have hrd:bM (p.az.l.flatMap Ac.c) (i*6+3) 1=some [x.via.v]:=(zd Ac.aZ 3 1 hx Ω).trans rfl;have hw:aT .i64 ((i:Int)+1)=((i+1:Nat):Int):=zO (by have:=p.az.gC;omega);have hmin:(if (201:Int)<(x.via.l.length:Int)then(201:Int)else(x.via.l.length:Int))=((sL x:Nat):Int):=Pf _
  generalize mO sL (p.az.l.take i)=n at *;cases hle:decide ((n:Int)<=200)
  ·simp only[W0,b8,dK,ff,cA,dL,cL,eP,fI,fH,cO,dM,cN,cM,bg,dY,iW,dU,List.replicate,look,mg,iq,bq,bX,pZ,dh,gY,Xb,Xc,Xd,reduceCtorEq,Xe,h,hle];refine he _ _ ?_;simp only[W0,b8,dK,ff,cA,dL,cL,eP,fI,fH,cO,dM,cN,cM,bg,dY,iW,dU,List.replicate,look,mg,iq,bq,bX,pZ,dh,gY,Xb,Xc,Xd,reduceCtorEq,Xe,hle];have hbig:decide (mO sL p.az.l<=200)=false:=by rw[vB]at hle ⊢;omega
   rw[hbig];all_goals simp only[l8]
  ·have hle':n<=200:=by rw[decide_eq_true_iff]at hle;omega
   have tY:aT .i64 ((n:Int)+((sL x:Nat):Int))=((n+sL x:Nat):Int):=zbn Ω;simp only[W0,b8,dK,ff,cA,dL,cL,eP,fI,fH,cO,dM,cN,cM,bg,dY,iW,dU,List.replicate,look,mg,iq,bq,bX,pZ,dh,gY,Xb,Xc,Xd,reduceCtorEq,Xe,h,hle,za p.az h,hrd,aev,hmin,tY,hw];exact hn _ (p.az.l.length-(i+1)) Ω ⟨i+1,J,rfl,Ω,rfl,rfl,rfl,rfl,by rw[oh];rfl,rfl,rfl⟩
 ·simp only[W0,b8,dK,ff,cA,dL,cL,eP,fI,fH,cO,dM,cN,cM,bg,dY,iW,dU,List.replicate,look,mg,iq,bq,bX,pZ,dh,gY,Xb,Xc,Xd,reduceCtorEq,Xe,h];refine he _ _ ?_;rw[gj Ω];simp only[W0,b8,dK,ff,cA,dL,cL,eP,fI,fH,cO,dM,cN,cM,bg,dY,iW,dU,List.replicate,look,mg,iq,bq,bX,pZ,dh,gY,Xb,Xc,Xd,reduceCtorEq,Xe];rw[Wm]
theorem Gx(hS:bN S)(s:Sv):iA aR S 5 [.agg s.c,iv 200] (.bool (Eb s)):=by
 obtain⟨N,hN⟩:=Gy hS s.pl;refine zy (i:=i5) (k:=1) (ns hS) rfl rfl zj (N+s.ft.l.length+5) Ω fun m hm d ah=>?_;have c1:=hN m Ω;simp only[zg,Pn.c]at c1;unfold Eb;cases h1:L7 s.pl
 ·simp only[h1]at c1;simp only[i5,W0,b8,dK,ff,cA,dL,cL,eP,fI,fH,cO,dM,cN,cM,bg,dY,iW,dU,List.replicate,look,mg,iq,bq,bX,pZ,dh,gY,Xb,Xc,Xd,reduceCtorEq,Xe,Sv.c,c1,ew]
 simp only[h1]at c1;cases h2:decide (s.ft.l.length<=200)
 ·simp only[i5,W0,b8,dK,ff,cA,dL,cL,eP,fI,fH,cO,dM,cN,cM,bg,dY,iW,dU,List.replicate,look,mg,iq,bq,bX,pZ,dh,gY,Xb,Xc,Xd,reduceCtorEq,Xe,Sv.c,c1,wH,h2,ew]
 simp only[i5,W0,b8,dK,ff,cA,dL,cL,eP,fI,fH,cO,dM,cN,cM,bg,dY,iW,dU,List.replicate,look,mg,iq,bq,bX,pZ,dh,gY,Xb,Xc,Xd,reduceCtorEq,Xe,Sv.c,c1,wH,h2];refine ze (fun j st=>∃ i J,j=s.ft.l.length-i/\i<=s.ft.l.length/\st.t.length=46/\bH (.tuple []) st.t 1=iv 200/\bH (.tuple []) st.t 2=.ptrM d 0 0/\bH (.tuple []) st.t 4=.bool false/\bH (.tuple []) st.t 5=iv ((mO nO (s.ft.l.take i):Nat):Int)/\bH (.tuple []) st.t 6=iv i/\st.aa=aI [s.pl.ns.v,s.pl.az.v,s.pl.fs.v,s.ft.v]::J) s.ft.l.length Ω ⟨0,[.free],Ω,Ω,rfl,rfl,rfl,rfl,rfl,rfl,rfl⟩ ?_;rintro j ⟨t,aa⟩ K ⟨i,J,rfl,hi,hl,k1,k2,k4,k5,k6,ho⟩ hn he hr;dsimp only at hl k1 k2 k4 k5 k6 ho;have ht:t=[bH (.tuple []) t 0,bH (.tuple []) t 1,bH (.tuple []) t 2,bH (.tuple []) t 3,bH (.tuple []) t 4,bH (.tuple []) t 5,bH (.tuple []) t 6,bH (.tuple []) t 7,bH (.tuple []) t 8,bH (.tuple []) t 9,bH (.tuple []) t 10,bH (.tuple []) t 11,bH (.tuple []) t 12,bH (.tuple []) t 13,bH (.tuple []) t 14,bH (.tuple []) t 15,bH (.tuple []) t 16,bH (.tuple []) t 17,bH (.tuple []) t 18,bH (.tuple []) t 19,bH (.tuple []) t 20,bH (.tuple []) t 21,bH (.tuple []) t 22,bH (.tuple []) t 23,bH (.tuple []) t 24,bH (.tuple []) t 25,bH (.tuple []) t 26,bH (.tuple []) t 27,bH (.tuple []) t 28,bH (.tuple []) t 29,bH (.tuple []) t 30,bH (.tuple []) t 31,bH (.tuple []) t 32,bH (.tuple []) t 33,bH (.tuple []) t 34,bH (.tuple []) t 35,bH (.tuple []) t 36,bH (.tuple []) t 37,bH (.tuple []) t 38,bH (.tuple []) t 39,bH (.tuple []) t 40,bH (.tuple []) t 41,bH (.tuple []) t 42,bH (.tuple []) t 43,bH (.tuple []) t 44,bH (.tuple []) t 45]:=Ef hl;simp only[k1,k2,k4,k5,k6]at ht;generalize bH (.tuple []) t=r at ht;subst ht;subst ho;by_cases h:i<s.ft.l.length
 ·obtain⟨x,hx⟩:=gx (l:=s.ft.l) (i:=i) h;have oh:=Cm (g:=nO) hx;have htot:=NR (g:=nO) s.ft.l i;have Uj:nO x<=201:=Nat.min_le_right _ _;have hrd:bM (s.ft.l.flatMap Ft.c) (i*5+4) 1=some [x.parts.v]:=(zd Ft.aZ 4 1 hx Ω).trans rfl;have hw:aT .i64 ((i:Int)+1)=((i+1:Nat):Int):=zO (by have:=s.ft.gC;omega);have hmin:(if (201:Int)<(x.parts.l.length:Int)then(201:Int)else(x.parts.l.length:Int))=((nO x:Nat):Int):=Pf _
  generalize mO nO (s.ft.l.take i)=n at *;cases hle:decide ((n:Int)<=200)
  ·simp only[W0,b8,dK,ff,cA,dL,cL,eP,fI,fH,cO,dM,cN,cM,bg,dY,iW,dU,List.replicate,look,mg,iq,bq,bX,pZ,dh,gY,Xb,Xc,Xd,reduceCtorEq,Xe,h,hle];refine he _ _ ?_;simp only[W0,b8,dK,ff,cA,dL,cL,eP,fI,fH,cO,dM,cN,cM,bg,dY,iW,dU,List.replicate,look,mg,iq,bq,bX,pZ,dh,gY,Xb,Xc,Xd,reduceCtorEq,Xe,hle];have hbig:decide (mO nO s.ft.l<=200)=false:=by rw[vB]at hle ⊢;omega
   rw[hbig];all_goals simp only[l8]
  ·have hle':n<=200:=by rw[decide_eq_true_iff]at hle;omega
   have tY:aT .i64 ((n:Int)+((nO x:Nat):Int))=((n+nO x:Nat):Int):=zbn Ω;simp only[W0,b8,dK,ff,cA,dL,cL,eP,fI,fH,cO,dM,cN,cM,bg,dY,iW,dU,List.replicate,look,mg,iq,bq,bX,pZ,dh,gY,Xb,Xc,Xd,reduceCtorEq,Xe,h,hle,za s.ft h,hrd,aev,hmin,tY,hw];exact hn _ (s.ft.l.length-(i+1)) Ω ⟨i+1,J,rfl,Ω,rfl,rfl,rfl,rfl,by rw[oh];rfl,rfl,rfl⟩
 ·simp only[W0,b8,dK,ff,cA,dL,cL,eP,fI,fH,cO,dM,cN,cM,bg,dY,iW,dU,List.replicate,look,mg,iq,bq,bX,pZ,dh,gY,Xb,Xc,Xd,reduceCtorEq,Xe,h];refine he _ _ ?_;rw[gj Ω];simp only[W0,b8,dK,ff,cA,dL,cL,eP,fI,fH,cO,dM,cN,cM,bg,dY,iW,dU,List.replicate,look,mg,iq,bq,bX,pZ,dh,gY,Xb,Xc,Xd,reduceCtorEq,Xe];rw[Wm]
theorem L6{s:Sv}(h:Eb s=true):bQ s.pl/\s.pl.az.l.length<=200/\s.ft.l.length<=200/\∀ f∈s.ft.l,f.parts.l.length<=200:=by
 simp only[Eb,L7,gJ,decide_eq_true_iff]at h;obtain⟨⟨h1,h2,h3,h4⟩,h5,h6⟩:=h;refine⟨fun a ha=>?_,h2,h5,fun f hf=>?_⟩
 ·have h7:min a.via.l.length 201<=mO sL s.pl.az.l:=xR (g:=sL) ha;omega
 ·have h7:min f.parts.l.length 201<=mO nO s.ft.l:=xR (g:=nO) hf;omega
end
mutual
def jV:IV->IV->Bool
 |.bool a,.bool b=>a==b
 |.int k a,.int k' b=>decide (k=k')&&decide (a=b)
 |.str a,.str b=>a.data.toList==b.data.toList
 |.eo,.eo=>true
 |.nilsl,.nilsl=>true
 |.slC cs len sz tight,.slC cs' len' sz' X3=>lV cs cs'&&Nat.beq len len'&&Nat.beq sz sz'&&tight==X3
 |.eT,.eT=>true
 |.agg cs,.agg cs'=>lV cs cs'
 |_,_=>false
def lV:List IV->List IV->Bool
 |[],[]=>true
 |x::xs,y::ys=>jV x y&&lV xs ys
 |_,_=>false
end
mutual
theorem Rm:∀(a b:IV),jV a b=true->a=b
 |.bool a,b,h=>by cases b<;>simp[jV]at h;subst h;rfl
 |.int k a,b,h=>by cases b<;>simp[jV]at h;obtain⟨rfl,rfl⟩:=h;rfl
 |.str a,b,h=>by cases b<;>simp[jV]at h;rename_i b;cases a;cases b;simp only[zoa]at h;subst h;rfl
 |.eo,b,h=>by cases b<;>simp[jV]at h;rfl
 |.ptrM ..,b,h=>by cases b<;>simp[jV]at h
 |.ptrC ..,b,h=>by cases b<;>simp[jV]at h
 |.nilsl,b,h=>by cases b<;>simp[jV]at h;rfl
 |.slM ..,b,h=>by cases b<;>simp[jV]at h
 |.slC cs len sz tight,b,h=>by cases b<;>simp only[jV,l7,gJ,n9]at h;obtain⟨⟨⟨h1,h2⟩,h3⟩,h4⟩:=h;rw[zae _ _ h1,Kr h2,Kr h3,h4]
 |.eT,b,h=>by cases b<;>simp[jV]at h;rfl
 |.mapM ..,b,h=>by cases b<;>simp[jV]at h
 |.eF ..,b,h=>by cases b<;>simp[jV]at h
 |.l9,b,h=>by cases b<;>simp[jV]at h
 |.fn ..,b,h=>by cases b<;>simp[jV]at h
 |.agg cs,b,h=>by cases b<;>simp only[jV,l7]at h;rw[zae _ _ h]
 |.tuple ..,b,h=>by cases b<;>simp[jV]at h
theorem zae:∀(a b:List IV),lV a b=true->a=b
 |[],[],_=>rfl
 |[],_::_,h=>by simp[lV]at h
 |_::_,[],h=>by simp[lV]at h
 |x::xs,y::ys,h=>by simp only[lV,gJ]at h;rw[Rm x y h.1,zae xs ys h.2]
end
mutual
def noM:IV->Bool
 |.bool _=>true
 |.int _ _=>true
 |.str _=>true
 |.eo=>true
 |.nilsl=>true
 |.slC cs _ _ _=>Ga cs
 |.eT=>true
 |.agg cs=>Ga cs
 |_=>false
def Ga:List IV->Bool
 |[]=>true
 |x::xs=>noM x&&Ga xs
end
theorem zb5:∀{xs:List IV},Ga xs=true->∀{j:Nat}{x:IV},xs[j]?=some x->noM x=true
 |[],_,j,x,h=>by simp at h
 |y::ys,h,j,x,hj=>by
  simp only[Ga,gJ]at h;cases j with
  |zero=>simp only[qU,fZ]at hj;subst hj;exact h.1
  |succ j=>simp only[jP]at hj;exact zb5 h.2 hj
theorem XX{β:Pl}{W:World}{v:IV}{x:Value}(h:VR β W v x)(hv:noM v=true):VR fK W v x:=by
 have kn:∀{k:Nat},jO β W k->jO fK W k:=fun hk=>⟨hk.1,fun l i s hb=>by simp[fK]at hb⟩;induction h with
 |bool b=>exact .bool b
 |int k n=>exact .int k n
 |str s=>exact .str s
 |eo=>exact .eo
 |nilsl=>exact .nilsl
 |slC f hk hc _ hn hl ht ha ih=>simp only[noM]at hv;exact .slC f (fun h0=>kn (hk h0)) hc (fun j x hx=>ih j x hx (zb5 hv hx)) hn hl ht ha
 |eT=>exact .eT
 |agg n _ ih=>simp only[noM]at hv;exact .agg n (fun j x y hx hy=>ih j x y hx hy (zb5 hv hx))
 |_=>simp[noM]at hv
theorem S5{β:Pl}{W:World}{xs:List IV}{ys:List Value}(h:dV β W xs ys)(hv:Ga xs=true):dV fK W xs ys:=⟨h.1,fun j x y hx hy=>XX (h.2 j x y hx hy) (zb5 hv hx)⟩
def tJ:IV->Bool
 |.bool _=>true
 |.int _ _=>true
 |.str _=>true
 |_=>false
theorem S6{β β':Pl}{W W':World}{v:IV}{x:Value}(h:VR β W v x)(hv:tJ v=true):VR β' W' v x:=by cases h<;>first|exact .bool _|exact .int _ _|exact .str _|simp[tJ]at hv
section
variable {P:Program} {B:Nat} {W0:World} {F:FuncId->Option jy} {S S1 S2:cZ}
theorem Tv{W:World}:RS fK (look 0 (fun _=>[]) []) W:=by
 refine⟨fun l i k s o hb=>?_,fun l i l' i' k s s' o o' hb=>?_,fun l i k s hb=>?_,fun l i o hg hl=>?_,fun l i p hb=>?_⟩
 ·simp[fK]at hb
 ·simp[fK]at hb
 ·simp[fK]at hb
 ·unfold look at hg;split at hg
  ·simp at hg
  ·split at hg
   ·omega
   ·simp at hg
 ·simp[fK]at hb
def Fg(f0:FuncId)(a0:List IV)(v0:IV)(S:cZ):cZ:=fun f args=>bif Nat.beq f f0&&lV args a0 then some v0 else S f args
theorem FF(hm:P.follows .mixedOrders=true)(hF:Kc P F)(hS:uz P B W0 S){f0:FuncId}{a0:List IV}{v0:IV}{n:Nat}{e:eV}{bO:aU}(hr:aM F S n 0 (fun _=>[]) [] [] 0 f0 a0=some (e,v0,bO))(ha:Ga a0=true)(hv:tJ v0=true):uz P B W0 (Fg f0 a0 v0 S):=by
 intro f args v h;unfold Fg at h;cases hc:(Nat.beq f f0&&lV args a0)with
 |false=>rw[hc]at h;exact hS f args v h
 |true =>
  rw[hc]at h
  simp only[bT,fZ]at h
  subst h
  rw[gJ]at hc
  obtain⟨hc0,hc⟩:=hc
  obtain rfl:=Kr hc0
  obtain rfl:=zae _ _ hc
  have key:∀(W:World)(args':List Value),nJ B W0 fK W->dV fK W args args'->_:=fun W args' hb PJ=>zey hm hF hS n 0 (fun _=>[]) [] [] 0 f args e v0 bO args' fK W hr hb ⟨rfl,fun i o h=>.inl h⟩ Tv PJ
  refine⟨?_,fun β W args' hb PJ=>?_⟩
  ·cases n with
   |zero=>simp[aM]at hr
   |succ n =>
    unfold aM at hr
    split at hr
    ·rename_i w hw
     exact(hS f args w hw).1
    ·split at hr
     ·simp at hr
     ·rename_i i hi
      rcases hF f i hi with⟨_,fn,hfn,B9⟩|Gn
      rotate_left
      ·exact Gn.1
      unfold cFn at B9
      split at B9
      ·simp at B9
      ·rename_i hnm
       split at B9
       ·simp at B9
       ·rename_i c hbody
        exact⟨fn,hfn,hnm,by rw[hbody];rfl⟩
  ·have hb':nJ B W0 fK W:=⟨fun l i k s hq=>by simp[fK]at hq,hb.size,hb.below⟩
   refine(key W args' hb' (S5 PJ ha)).2.mono fun x W' hx=>?_
   obtain⟨y,β',h3,h4,_,h6,_⟩:=hx
   exact⟨y,h3,h6.below fun i p hq=>by simp[fK]at hq,S6 h4 hv⟩
end
end
section
open Go.RowKit
theorem Pr:(Tryz.prog.info? 3).map (fun i=>(i.zero,i.size,i.bytes))=some (some (.int .i64 0),1,8):=by kernel_rfl
theorem OI.mono{w:World}{B B':Nat}{v:Value}{xs:List Int}(h:OI w B v xs)(hB:B'<=B):OI w B' v xs:=by
 obtain⟨h1,h2⟩:=h;refine⟨h1,?_⟩;rcases h2 with h2|⟨g,cap,cur,hv,hg,r⟩
 ·exact Or.inl h2
 ·exact Or.inr ⟨g,cap,cur,hv,Ω,r⟩
theorem OI.aa{w:World}{B:Nat}{v:Value}{xs:List Int}(h:OI w B v xs):∀ k,v.ownBlock=some k->B<=k/\k<w.heap.size:=by
 obtain⟨h1,h2⟩:=h;intro k hk;rcases h2 with⟨rfl,_⟩|⟨g,cap,cur,rfl,hg,hh,r⟩
 ·cases hk
 ·simp only[Value.ownBlock,fZ]at hk;subst hk;exact⟨hg,(Fb.1 hh).1⟩
theorem OI.iterAt{w:World}{B:Nat}{v:Value}{xs:List Int}(h:OI w B v xs){k:Nat}(hk:k<B)(s:ByteArray)(p:Nat):OI (w.iterAt k s p) B v xs:=ownsRow_iterAt h hk s p
theorem Gl.Tab.iterAt{w:World}(h:Gl.Tab w){k:Nat}(hk:0≠k)(s:ByteArray)(p:Nat):Gl.Tab (w.iterAt k s p):=by obtain⟨t,fr,h⟩:=h;exact⟨t,fr,by rw[Lib.iterAt_other _ _ _ _ _ hk];exact h⟩
theorem zf7{ops:Array Oper}{rest:List Oper}{o:Oper}{a:Act}{Q:Exit->Act->World->Prop}(hgd:o.guard=none)(s x:Operand)
  (ho:o.op=.call { callee:=.builtin .append,args:=#[s,x],argTypes:=#[24,24] })
  (W:World) (base:Nat) (v:Value) (xs:List Int) (y:Int) (hs:a.eval s=v) (hown:OI W base v xs) (hx:a.eval x=.slice (some ⟨W.heap.size,0,none⟩) 1 1)
  (hlen:xs.length<=10000000000000) (hbase:base<=W.heap.size)
  (h:∀ v' w',OI w' base v' (xs++[y])->Below base W w'->W.grownBy w' v.ownBlock->wpList Tryz.prog ops Q rest (a.put o.dst v') w') :
  wpList Tryz.prog ops Q (o::rest) a (W.alloc (.cells #[.int .i64 y] 3)):=by
 obtain⟨i0,hi,hz0,LL,M9⟩:=info_parts Pr
 refine wpList_append_own _ hgd s x 24 ho base 3 i0 (.int .i64 0) 1 8 underlying24 hi hz0 LL M9 rfl Δ v xs.length (xs.map (Value.int .i64)) hs (World.ownsRow.alloc hown _) ⟨W.heap.size,0,none⟩ 1 1 [.int .i64 y] hx rfl (cell_one_new _ _ _) (by simp[Value.oneCell']) (by unfold maxLen;omega) Ω (by simp;omega) ?_
 intro v' w' hown' hg _
 have hsz:W.heap.size<=w'.heap.size:=lW Ψ hg.size
 have hg':W.grownBy w' v.ownBlock:=⟨hg.os,hg.tape,hg.output,hsz,fun k hk hne=>(hg.block k (by simp;omega) hne).trans (Below.heap_alloc _ _ _ hk)⟩
 refine h v' w' (by simpa[OI]using hown') ⟨hg.os,hg.tape,hg.output,hsz,fun k hk=>hg'.block k Ω (fun e=>?_)⟩ hg'
 have:=hown.aa k e.symm
 omega
end
end Go.Proofs.YtdacpmgnhkmnkaaGreatDoor
namespace Go.Proofs
open Go.Shelf
def Tryz.Wn:Go.Shelf.Ren:=⟨fun|219=>158|217=>201|225=>202|224=>203|267=>204|266=>232|314=>233|n=>n,fun|9=>9|3=>3|4=>4|5=>5|46=>177|146=>232|51=>202|n=>n,fun|1=>1|n=>n⟩
def Tryz.Dq:Go.Shelf.Ren:=⟨fun|144=>78|143=>124|219=>158|217=>201|225=>202|224=>203|267=>204|266=>232|314=>233|n=>n,fun|9=>9|4=>4|3=>3|5=>5|46=>177|146=>232|51=>202|n=>n,fun|1=>1|n=>n⟩
theorem Tryz.TY:Go.Proofs.Lays.n144 Tryz.prog Tryz.Dq:={
 mixed:=by kernel_rfl
 f143:=Tryz.func124.trans (congrArg some (by kernel_rfl))
 f144:=Tryz.func78.trans (congrArg some (by kernel_rfl))
 f217:=Tryz.func201.trans (congrArg some (by kernel_rfl))
 f219:=Tryz.func158.trans (congrArg some (by kernel_rfl))
 f224:=Tryz.func203.trans (congrArg some (by kernel_rfl))
 f225:=Tryz.func202.trans (congrArg some (by kernel_rfl))
 f266:=Tryz.func232.trans (congrArg some (by kernel_rfl))
 f267:=Tryz.func204.trans (congrArg some (by kernel_rfl))
 f314:=Tryz.func233.trans (congrArg some (by kernel_rfl))
 t3:=underlying3
 a3:=isAgg3
 z3:=sizeOf3
 v3:=zeroValue3
 t4:=underlying4
 a4:=isAgg4
 z4:=sizeOf4
 v4:=zeroValue4
 t5:=underlying5
 a5:=isAgg5
 z5:=sizeOf5
 v5:=zeroValue5
 t9:=underlying9
 a9:=isAgg9
 z9:=sizeOf9
 v9:=zeroValue9
 t46:=underlying177
 a46:=isAgg177
 z46:=sizeOf177
 v46:=zeroValue177
 t51:=underlying202
 a51:=isAgg202
 z51:=sizeOf202
 v51:=zeroValue202
 t146:=underlying232
 a146:=isAgg232
 z146:=sizeOf232
 v146:=zeroValue232
 g1:=by kernel_rfl }
open Go.RowKit Go.Lib in
theorem Tryz.strings_Contains(s sub:ByteArray)(m:Int)(w:World)(hs:s.size<4294967281)(hm:w.cell? ⟨1,0,none⟩=some (.int .i64 m)) :
  Calls Tryz.prog 78 #[.string s,.string sub] w fun e w'=>e=.returned (.bool (Lib.contains s.data.toList sub.data.toList))/\w'=w:=Any.strings_Contains Tryz.TY s sub m w hs hm
def Tryz.A5:Go.Shelf.Ren:=⟨fun|144=>78|143=>124|219=>158|217=>201|225=>202|224=>203|267=>204|266=>232|314=>233|n=>n,fun|9=>9|4=>4|3=>3|5=>5|46=>177|146=>232|51=>202|n=>n,fun|1=>1|n=>n⟩
theorem Tryz.laysM144:Go.Proofs.LaysM.n144 Tryz.prog Tryz.A5:={
 mixed:=by kernel_rfl
 f143:=Tryz.func124.trans (congrArg some (by kernel_rfl))
 f144:=Tryz.func78.trans (congrArg some (by kernel_rfl))
 f217:=Tryz.func201.trans (congrArg some (by kernel_rfl))
 f219:=Tryz.func158.trans (congrArg some (by kernel_rfl))
 f224:=Tryz.func203.trans (congrArg some (by kernel_rfl))
 f225:=Tryz.func202.trans (congrArg some (by kernel_rfl))
 f266:=Tryz.func232.trans (congrArg some (by kernel_rfl))
 f267:=Tryz.func204.trans (congrArg some (by kernel_rfl))
 f314:=Tryz.func233.trans (congrArg some (by kernel_rfl))
 t3:=underlying3
 a3:=isAgg3
 z3:=sizeOf3
 v3:=zeroValue3
 t4:=underlying4
 a4:=isAgg4
 z4:=sizeOf4
 v4:=zeroValue4
 t5:=underlying5
 a5:=isAgg5
 z5:=sizeOf5
 v5:=zeroValue5
 t9:=underlying9
 a9:=isAgg9
 z9:=sizeOf9
 v9:=zeroValue9
 t46:=underlying177
 a46:=isAgg177
 z46:=sizeOf177
 v46:=zeroValue177
 t51:=underlying202
 a51:=isAgg202
 z51:=sizeOf202
 v51:=zeroValue202
 t146:=underlying232
 a146:=isAgg232
 z146:=sizeOf232
 v146:=zeroValue232
 g1:=by kernel_rfl
 i3:=by kernel_rfl
 i4:=by kernel_rfl
 i5:=by kernel_rfl
 i9:=by kernel_rfl
 i46:=by kernel_rfl
 i51:=by kernel_rfl
 i146:=by kernel_rfl
 m1:=by kernel_rfl
 s1_3:=fun w h=>Go.Proofs.cell_of_shapedOpen_int (zero:=#[.int .i64 0]) (t:=3) h (of_decide_eq_true (by kernel_rfl)) (by kernel_rfl) rfl (by kernel_rfl) (by kernel_rfl) underlying3 }
end Go.Proofs
end
