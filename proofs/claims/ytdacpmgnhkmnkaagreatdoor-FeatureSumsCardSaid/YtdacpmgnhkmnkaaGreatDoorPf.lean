/-
  A part of the proof: the law in the model.
-/
import Derived.Lib.OthersKept
import Derived.WalkSmall
import Derived.Shelf.Small.Bits
import Derived.Shelf.Small.Wraps
import Derived.Shelf.Strconv.Itoa0
import Derived.Shelf.Strings.Search1
import Derived.Shelf.Strings.Search2
import Derived.Shelf.Strings.Search3
import Derived.Shelf.LaysM
import Derived.Shelf.Strings.Shaped
import Derived.Shelf.Sort.Plain
import Derived.Shelf.Slices.Turned
import Derived.Shelf.Slices.In.SortNone
import Derived.Ground.SlsfProg
import Derived.Shelf.SlSortCmp.Insertion
import Derived.Shelf.SlSortCmp.SiftDown1
import Derived.Shelf.SlSortCmp.HeapSort1
import Derived.Shelf.SlSortCmp.Insertion1
import Derived.Shelf.SlSortCmp.Median1
import Derived.Shelf.SlSortCmp.Pivot1
import Derived.Shelf.SlSortCmp.ReverseRange1
import Derived.Shelf.SlSortCmp.PartialInsertion1
import Derived.Shelf.SlSortCmp.PartitionEqual1
import Derived.Shelf.SlSortCmp.Partition1
import Derived.Shelf.SlSortCmp.Pdq1
import Derived.Shelf.SlSortCmp.Whole1
import Derived.Shelf.SlSortCmp.NoneTotal
import Derived.Test.YtdacpmgnhkmnkaaGreatDoorProg
import Derived.Lib.TrimUEq
import Derived.Laws.IdiomStrings
import Derived.Deep.RegionHeld3
import Derived.RangeFuncNested
import Derived.RangeFuncBound
import Derived.RangeFuncCalls
import Derived.RangeFuncLeaves
import Derived.RangeFuncFrom
import Derived.Shelf.Abstract
import Derived.Shelf.RegionOpen
import Derived.OwnWalkIn
import Derived.TacticsInMore
import Derived.LoopNIn
import Derived.LoopIn
import Derived.Laws.EntriesVeiled
import Derived.Deep.DeepCutAuto
import Derived.RegionTactic
import Derived.Deep.RegionWith
import Derived.Lib.AppendZerosOnto
import Derived.Lib.SliceRun
import Derived.Lib.Walk
import Derived.Laws.AppendOwnNone
import Derived.Lib.RowBridge
import Derived.Lib.IndexMore
import Derived.Lib.Small
import Derived.Ground.NamesProg
import Derived.Tactics
import Derived.Test.YtdacpmgnhkmnkaaGreatDoorPa
import Derived.Test.YtdacpmgnhkmnkaaGreatDoorPb
import Derived.Test.YtdacpmgnhkmnkaaGreatDoorPc
import Derived.Test.YtdacpmgnhkmnkaaGreatDoorPd
import Derived.Test.YtdacpmgnhkmnkaaGreatDoorPe
set_option linter.unusedVariables false
set_option linter.unusedSimpArgs false
set_option linter.unusedSectionVars false
set_option maxRecDepth 1000000
set_option maxHeartbeats 3200000
open Nat renaming reduceLT → Xa, reduceAdd → Xb, reduceMul → Xc, reduceLeDiff → Xd, reduceEqDiff → Xe
section
namespace Go.Proofs.YtdacpmgnhkmnkaaGreatDoor
open Go Go.RowKit
section
structure SvX (S:ySM) (nm:ByteArray->Int) (s:Sv):Prop where
 few:few17 s=true
 ref:refE s.pl=0
 spec:Spec16 s.pl
 fts:FtsOK nm s.pl s.ft.l
 chk:∃ (v:Bool) (N:Nat),planE s.pl v=0/\GivesN S N 36 [.agg s.pl.c] (.int .i64 0)
section
variable {S:ySM}
theorem small_givesX (hT:TabCl Ftab) (hSc:SumCl S) (hS:NoS S) (hSp:∀ args,S 36 args=none) (hSg:∀ args,S 20 args=none) {nm:ByteArray->Int} (hN:NmOK S nm) (s:Sv) :
  ∃ (b:Bool) (N:Nat),GivesN S N 9 [.agg s.c] (.bool b)/\(b=true->SvX S nm s):=by
 obtain ⟨N1,hN1⟩:=gives_few17 hS s
 cases hf:few17 s
 ·rw [hf] at hN1
  refine ⟨false,N1+3,zh (i:=i9) (ns hS (by rfl)) rfl rfl (lb rfl) (N1+2) (by omega) zn fun m hm d out t hfr=>?_,fun h=>by cases h⟩
  simp only [V2,Xb,i9,Sv.c] at hfr
  have c0:=hN1 m (by omega)
  simp only [Sv.c,zf] at c0
  simp only [i9,V0,sevalprocAttr,hfr,c0]
 ·rw [hf] at hN1
  obtain ⟨hv,ha,hft,hpa⟩:=Yc hf
  obtain ⟨hns,_⟩:=few14_ns (few_pl hf)
  obtain ⟨e,hX,N2,hN2⟩:=region_givesX hT hSc hS hSp hSg s.pl (by omega) (by omega) hv
  obtain ⟨N3,hN3⟩:=fcheck_gives hS hN s hv hN2
  refine ⟨fcheckE nm e s==0,N1+N3+3,zh (i:=i9) (ns hS (by rfl)) rfl rfl (lb rfl) (N1+N3+2) (by omega) zn fun m hm d out t hfr=>?_,fun h=>?_⟩
  ·simp only [V2,Xb,i9,Sv.c] at hfr
   have c0:=hN1 m (by omega)
   have c1:=hN3 m (by omega)
   simp only [Sv.c,zf] at c0 c1
   simp only [i9,V0,sevalprocAttr,hfr,c0,c1]
  ·have h0:fcheckE nm e s=0:=by simpa using h
   unfold fcheckE at h0
   cases he:e != 0
   ·rw [he] at h0
    obtain rfl:e=0:=by simpa using he
    have hE:refE s.pl=0:=by
     by_cases hE:refE s.pl=0
     ·exact hE
     ·exact absurd (hX.1 hE).symm hE
    have hsp:Spec16 s.pl:=by
     rcases hX.2 hE with ⟨_,h⟩ | ⟨h,_⟩
     ·exact h
     ·cases h
    refine ⟨hf,hE,hsp,ruleE_zero.1 h0,?_⟩
    obtain ⟨v,N,h4,h5⟩:=ze7 hT hSc hS hSp s.pl (by omega) (by omega) (fun a h=>by have:=hv a h; omega)
    have e0:=zfm h4
    rw [hE] at e0
    exact ⟨v,N,e0,by rw [← e0]; exact h5⟩
   ·rw [he] at h0
    simp only [cond_true] at h0
    rw [h0] at he
    cases he
end
section
variable {p:Pn} (h:Good0 p) (hv:∀ a∈p.az.l,a.via.l.length<=900) (hal:p.az.l.length<=200)
include h hv
theorem Good0.tau_le {d:Int} (hd:d∈dartsR p):-(8796093022208*901)<=h.net.tauD d/\h.net.tauD d<=8796093022208*901:=by
 have key:∀ a∈p.az.l,-(8796093022208*901)<=h.net.tauD a.id/\h.net.tauD a.id<=8796093022208*901:=fun a ha=>by
  have hf:(lineR p a).length<=902:=by
   have:=hv a ha
   unfold lineR
   rw [zf3,zga,zf3,zgb]
   omega
  have h2:=zF (p:=p) (a:=a)
  have hb:=Zi (h.line_pt ha) ((lineR p a).length - 1) (by omega)
  rw [h.tauD_path (h.darts.2 (h.dart_iff.2 ⟨a,ha,.inl rfl⟩)),h.path_pos ha]
  unfold tauL
  generalize sm (fun j=>crs ((lineR p a).getD j zPt) ((lineR p a).getD (j+1) zPt)) (List.range ((lineR p a).length - 1))=T at hb ⊢
  omega
 obtain ⟨a,ha,hd⟩:=h.dart_iff.1 (h.darts.1 hd)
 have:=key a ha
 rcases hd with rfl | rfl
 ·exact this
 ·rw [h.tau_neg ha]
  omega
include hal
theorem Good0.areaS_le (P:List Int):-(8796093022208*901*400)<=areaS p P p.az.l/\areaS p P p.az.l<=8796093022208*901*400:=by
 have hb:=zbr (f:=fun d=>b2 (P.contains (sideR p d))*h.net.tauD d) (B:=8796093022208*901) (l:=dartsR p) fun d hd=>by
  have:=h.tau_le hv hd
  cases P.contains (sideR p d) <;> simp [b2] <;> omega
 rw [zco] at hb
 rw [h.areaS_eq hv P]
 generalize sm (fun d=>b2 (P.contains (sideR p d))*h.net.tauD d) (dartsR p)=T at hb ⊢
 omega
theorem Good0.faces_area (hs:Spec16 p) {P:List Int} (hP:P.Nodup) (hsub:∀ x∈P,x∈p.fs.l):wrapI .i64 (areaS p P p.az.l)=sm h.faceA P/\0<=sm h.faceA P/\(P≠[]->1<=sm h.faceA P):=by
 have hb:=h.areaS_le hv hal P
 have hpos:∀ l:List Int,(∀ x∈l,x∈p.fs.l)->0<=sm h.faceA l:=fun l=>by
  induction l with
  | nil=>intro _; exact Int.le_refl _
  | cons x l ih =>
   intro hx
   have h1:=h.faceA_pos hv hal hs (hx x (zgi ..))
   have h2:=ih fun y hy=>hx y (zgn _ hy)
   simp only [sm]
   omega
 rw [h.areaS_faces hv hP] at hb ⊢
 refine ⟨?_,hpos P hsub,fun hne=>?_⟩
 ·generalize sm h.faceA P=T at hb ⊢
  exact zA (by omega) (by omega)
 ·cases P with
  | nil=>exact absurd rfl hne
  | cons x l =>
   have h1:=h.faceA_pos hv hal hs (hsub x (zgi ..))
   have h2:=hpos l fun y hy=>hsub y (zgn _ hy)
   simp only [sm]
   omega
end
theorem SvX.area {S:ySM} {nm:ByteArray->Int} {s:Sv} (h:SvX S nm s) {f:Ft} (hf:f∈s.ft.l) (h3:shapeI f.kind=3):∃ a b:Int,wrapI .i64 (areaS s.pl f.parts.l s.pl.az.l)=a+b/\wrapI .i64 (areaS s.pl (f.parts.l.take 1) s.pl.az.l)=a/\wrapI .i64 (areaS s.pl (f.parts.l.drop 1) s.pl.az.l)=b/\1<=a/\0<=b/\a+b<9223372036854775808:=by
 have g0:=good0 h.ref
 obtain ⟨hv,_⟩:=lim_facts h.ref
 obtain ⟨_,hal,_,_⟩:=Yc h.few
 have ok:=h.fts.each f hf
 have hnd:f.parts.l.Nodup:=(yF.1 ok.asc).imp fun h e=>by omega
 have hsub:∀ x∈f.parts.l,x∈s.pl.fs.l:=fun x hx=>by
  have:=ok.part x hx
  unfold partOk at this
  rw [h3] at this
  simpa using this
 have hl:=ok.few
 obtain ⟨a0,a1,a2⟩:=g0.faces_area hv (by omega) h.spec hnd hsub
 obtain ⟨b0,b1,b2⟩:=g0.faces_area hv (by omega) h.spec (hnd.sublist (List.take_sublist 1 _)) (fun x hx=>hsub x (List.mem_of_mem_take hx))
 obtain ⟨c0,c1,c2⟩:=g0.faces_area hv (by omega) h.spec (hnd.sublist (List.drop_sublist 1 _)) (fun x hx=>hsub x (List.mem_of_mem_drop hx))
 have hsum:sm g0.faceA f.parts.l=sm g0.faceA (f.parts.l.take 1)+sm g0.faceA (f.parts.l.drop 1):=by
  rw [← zu,zih]
 have hne:f.parts.l.take 1≠[]:=by
  cases hp:f.parts.l with
  | nil=>exact absurd hp ok.some
  | cons x l=>simp
 refine ⟨_,_,by rw [a0,hsum],b0,c0,b2 hne,c1,?_⟩
 rw [← hsum]
 have hb:=g0.areaS_le hv (by omega) f.parts.l
 rw [g0.areaS_faces hv hnd] at hb
 generalize sm g0.faceA f.parts.l=T at hb ⊢
 omega
end
section
def SumAt (S:ySM) (m:Nat) (s:Sv) (i:Nat) (f:Ft):Prop:=∃ n:Int,(∀ d out ownV own id,callN Ftab S m d out ownV own id 10 [.agg s.c,.int .i64 f.id]=some (.r,.int .i64 n,own))/\(shapeI f.kind≠3->n=0) /\
 (shapeI f.kind=3->∃ (a b:Int) (q1 q2:SlOf 1 intc) (w1 w2:SlOf 5 Ft.c),n=a+b/\1<=a/\0<=b/\a+b<9223372036854775808/\(∀ (t:List IV) (x:Opd),ρ t x=.int .i64 1->sliceI 1 t f.parts.v none (some x) none=some q1.v)/\(∀ (t:List IV) (x:Opd),ρ t x=.int .i64 1->sliceI 1 t f.parts.v (some x) none none=some q2.v) /\
  (∀ d out ownV own id,callN Ftab S m d out ownV own id 12 [.agg s.c,.int .i64 i,q1.v]=some (.r,.agg [s.pl.ns.v,s.pl.az.v,s.pl.fs.v,w1.v],own))/\(∀ d out ownV own id,callN Ftab S m d out ownV own id 12 [.agg s.c,.int .i64 i,q2.v]=some (.r,.agg [s.pl.ns.v,s.pl.az.v,s.pl.fs.v,w2.v],own)) /\
  (∀ d out ownV own id,callN Ftab S m d out ownV own id 10 [.agg [s.pl.ns.v,s.pl.az.v,s.pl.fs.v,w1.v],.int .i64 f.id]=some (.r,.int .i64 a,own))/\(∀ d out ownV own id,callN Ftab S m d out ownV own id 10 [.agg [s.pl.ns.v,s.pl.az.v,s.pl.fs.v,w2.v],.int .i64 f.id]=some (.r,.int .i64 b,own)))
theorem zds {l:List Ft} (h:(l.map Ft.id).Pairwise (·<·)) {i:Nat} {f:Ft} (hi:l[i]?=some f):l.find? (fun g=>g.id==f.id)=some f:=yx h (zgl hi)
section
variable {S:ySM}
theorem sum_at (hS:NoS S) {nm:ByteArray->Int} {s:Sv} (h:SvX S nm s) {i:Nat} {f:Ft} (hi:s.ft.l[i]?=some f):∃ N,∀ m,N<=m->SumAt S m s i f:=by
 obtain ⟨hfv,_,hft,hpa⟩:=Yc h.few
 have hf:=zgl hi
 obtain ⟨v,Np,he,hpc⟩:=h.chk
 have he:=he.symm
 have hasc:(s.ft.l.map Ft.id).Pairwise (·<·):=yF.1 h.fts.asc
 obtain ⟨N0,h0⟩:=at_areaV hS s f.id he hpc hfv (fun g hg=>by have:=hpa g hg; omega)
 have hfd:findD s f.id=f:=by unfold findD; rw [zds hasc hi]; rfl
 have hok:findOk s f.id=true:=by unfold findOk; rw [zds hasc hi]; rfl
 have hav:areaV s f.id 0=if shapeI f.kind=3 then wrapI .i64 (areaS s.pl f.parts.l s.pl.az.l) else 0:=by
  unfold areaV
  rw [hfd,hok]
  by_cases h3:shapeI f.kind=3
  ·simp [h3]
  ·rw [if_neg h3,show (shapeI f.kind==3)=false by simpa using h3]
   rfl
 rw [hav] at h0
 by_cases h3:shapeI f.kind=3
 rotate_left
 ·rw [if_neg h3] at h0
  exact ⟨N0,fun m hm=>⟨0,fun d out ownV own id=>h0 m hm d out ownV own id,fun _=>rfl,fun h=>absurd h h3⟩⟩
 rw [if_pos h3] at h0
 obtain ⟨a,b,ea,eb,ec,ha,hb,hab⟩:=h.area hf h3
 have hone:f.parts.l.length≠0:=fun hl=>(h.fts.each f hf).some (List.eq_nil_of_length_eq_zero hl)
 obtain ⟨q1,hq1,s1⟩:=slice_hi zk f.parts (i:=1) (by omega)
 obtain ⟨q2,hq2,s2⟩:=slice_lo zk f.parts (i:=1) (by omega) hone
 have key:∀ q:SlOf 1 intc,q.l.length<=1000->∃ w:SlOf 5 Ft.c,GivesN S 10 12 [.agg s.c,iv i,q.v] (.agg [s.pl.ns.v,s.pl.az.v,s.pl.fs.v,w.v])/\∃ N,GivesN S N 10 [.agg (Sv.mk s.pl w).c,iv f.id] (.int .i64 (wrapI .i64 (areaS s.pl q.l s.pl.az.l))):=fun q hql=>by
  obtain ⟨w,hw,hg⟩:=with_gives hS s i f hi q (by omega)
  refine ⟨w,hg,?_⟩
  obtain ⟨N,hN⟩:=at_areaV hS ⟨s.pl,w⟩ f.id he hpc hfv (fun g hg=>by
   rw [show (Sv.mk s.pl w).ft.l=s.ft.l.set i { f with parts:=q } from hw] at hg
   rcases List.mem_or_eq_of_mem_set hg with hg | rfl
   ·have:=hpa g hg; omega
   ·exact hql)
  have hasc2:(w.l.map Ft.id).Pairwise (·<·):=by
   rw [hw,List.map_set]
   have:(s.ft.l.map Ft.id).set i f.id=s.ft.l.map Ft.id:=by
    refine ziu fun j=>?_
    rw [List.getElem?_set]
    by_cases hj:i=j
    ·subst hj
     rw [if_pos rfl,if_pos (by simpa using (zfz.1 hi).1),zgd,hi]
     rfl
    ·rw [if_neg hj]
   show ((s.ft.l.map Ft.id).set i f.id).Pairwise (·<·)
   rw [this]
   exact hasc
  have hi2:w.l[i]?=some { f with parts:=q }:=by rw [hw,zg9 (zfz.1 hi).1]
  have hfd2:findD ⟨s.pl,w⟩ f.id={ f with parts:=q }:=by
   unfold findD
   rw [show (Sv.mk s.pl w).ft.l.find? (fun g=>g.id==f.id)=some { f with parts:=q } from zds hasc2 hi2]; rfl
  have hok2:findOk ⟨s.pl,w⟩ f.id=true:=by
   unfold findOk
   rw [show (Sv.mk s.pl w).ft.l.find? (fun g=>g.id==f.id)=some { f with parts:=q } from zds hasc2 hi2]; rfl
  have hav2:areaV ⟨s.pl,w⟩ f.id 0=wrapI .i64 (areaS s.pl q.l s.pl.az.l):=by
   unfold areaV
   rw [hfd2,hok2]
   simp [h3]
  rw [hav2] at hN
  exact ⟨N,hN⟩
 have hpl:=(h.fts.each f hf).few
 obtain ⟨w1,g1,N1,n1⟩:=key q1 (by rw [hq1,zhx]; omega)
 obtain ⟨w2,g2,N2,n2⟩:=key q2 (by rw [hq2,zin]; omega)
 rw [hq1,eb] at n1
 rw [hq2,ec] at n2
 rw [ea] at h0
 refine ⟨N0+N1+N2+10,fun m hm=>⟨a+b,fun d out ownV own id=>h0 m (by omega) d out ownV own id,fun h=>absurd h3 h,fun _=>⟨a,b,q1,q2,w1,w2,rfl,ha,hb,hab,s1,s2,fun d out ownV own id=>g1 m (by omega) d out ownV own id,fun d out ownV own id=>g2 m (by omega) d out ownV own id,fun d out ownV own id=>n1 m (by omega) d out ownV own id,fun d out ownV own id=>n2 m (by omega) d out ownV own id⟩⟩⟩
end
end
section
mutual
def beqIV:IV->IV->Bool
 | .bool a,.bool b=>a==b
 | .int k a,.int k' b=>decide (k=k')&&decide (a=b)
 | .str a,.str b=>a.data.toList==b.data.toList
 | .nilptr,.nilptr=>true
 | .nilsl,.nilsl=>true
 | .slC cs len sz tight,.slC cs' len' sz' tight'=>beqIVs cs cs'&&Nat.beq len len'&&Nat.beq sz sz'&&tight==tight'
 | .nilmap,.nilmap=>true
 | .agg cs,.agg cs'=>beqIVs cs cs'
 | _,_=>false
def beqIVs:List IV->List IV->Bool
 | [],[]=>true
 | x::xs,y::ys=>beqIV x y&&beqIVs xs ys
 | _,_=>false
end
mutual
theorem beqIV_eq:∀ (a b:IV),beqIV a b=true->a=b
 | .bool a,b,h=>by cases b <;> simp [beqIV] at h; subst h; rfl
 | .int k a,b,h=>by cases b <;> simp [beqIV] at h; obtain ⟨rfl,rfl⟩:=h; rfl
 | .str a,b,h=>by
  cases b <;> simp [beqIV] at h
  rename_i b
  cases a; cases b
  simp only [Array.toList_inj] at h
  subst h
  rfl
 | .nilptr,b,h=>by cases b <;> simp [beqIV] at h; rfl
 | .ptrM ..,b,h=>by cases b <;> simp [beqIV] at h
 | .ptrC ..,b,h=>by cases b <;> simp [beqIV] at h
 | .nilsl,b,h=>by cases b <;> simp [beqIV] at h; rfl
 | .slM ..,b,h=>by cases b <;> simp [beqIV] at h
 | .slC cs len sz tight,b,h=>by
  cases b <;> simp only [beqIV,zgk,zf6,beq_iff_eq] at h
  obtain ⟨⟨⟨h1,h2⟩,h3⟩,h4⟩:=h
  rw [YW _ _ h1,Nat.eq_of_beq_eq_true h2,Nat.eq_of_beq_eq_true h3,h4]
 | .nilmap,b,h=>by cases b <;> simp [beqIV] at h; rfl
 | .mapM ..,b,h=>by cases b <;> simp [beqIV] at h
 | .mapC ..,b,h=>by cases b <;> simp [beqIV] at h
 | .nilfn,b,h=>by cases b <;> simp [beqIV] at h
 | .fn ..,b,h=>by cases b <;> simp [beqIV] at h
 | .agg cs,b,h=>by
  cases b <;> simp only [beqIV,zgk] at h
  rw [YW _ _ h]
 | .tuple ..,b,h=>by cases b <;> simp [beqIV] at h
theorem YW:∀ (a b:List IV),beqIVs a b=true->a=b
 | [],[],_=>rfl
 | [],_::_,h=>by simp [beqIVs] at h
 | _::_,[],h=>by simp [beqIVs] at h
 | x::xs,y::ys,h=>by
  simp only [beqIVs,zf6] at h
  rw [beqIV_eq x y h.1,YW xs ys h.2]
end
mutual
def noM:IV->Bool
 | .bool _=>true
 | .int _ _=>true
 | .str _=>true
 | .nilptr=>true
 | .nilsl=>true
 | .slC cs _ _ _=>noMs cs
 | .nilmap=>true
 | .agg cs=>noMs cs
 | _=>false
def noMs:List IV->Bool
 | []=>true
 | x::xs=>noM x&&noMs xs
end
theorem zbu:∀ {xs:List IV},noMs xs=true->∀ {j:Nat} {x:IV},xs[j]?=some x->noM x=true
 | [],_,j,x,h=>by simp at h
 | y::ys,h,j,x,hj=>by
  simp only [noMs,zf6] at h
  cases j with
  | zero=>simp only [zg8,zf5] at hj; subst hj; exact h.1
  | succ j=>simp only [zgc] at hj; exact zbu h.2 hj
theorem vr_noM {β:Pl} {W:World} {v:IV} {x:Value} (h:VR β W v x) (hv:noM v=true):VR noPl W v x:=by
 have kn:∀ {k:Nat},Konst β W k->Konst noPl W k:=fun hk=>⟨hk.1,fun l i s hb=>by simp [noPl] at hb⟩
 induction h with
 | bool b=>exact .bool b
 | int k n=>exact .int k n
 | str s=>exact .str s
 | nilptr=>exact .nilptr
 | nilsl=>exact .nilsl
 | slC f hk hc _ hn hl ht ha ih=>simp only [noM] at hv; exact .slC f (fun h0=>kn (hk h0)) hc (fun j x hx=>ih j x hx (zbu hv hx)) hn hl ht ha
 | nilmap=>exact .nilmap
 | agg n _ ih=>simp only [noM] at hv; exact .agg n (fun j x y hx hy=>ih j x y hx hy (zbu hv hx))
 | _=>simp [noM] at hv
theorem vrs_noM {β:Pl} {W:World} {xs:List IV} {ys:List Value} (h:VRs β W xs ys) (hv:noMs xs=true):VRs noPl W xs ys:=⟨h.1,fun j x y hx hy=>vr_noM (h.2 j x y hx hy) (zbu hv hx)⟩
def scal:IV->Bool
 | .bool _=>true
 | .int _ _=>true
 | .str _=>true
 | _=>false
theorem vr_scal {β β':Pl} {W W':World} {v:IV} {x:Value} (h:VR β W v x) (hv:scal v=true):VR β' W' v x:=by
 cases h <;> first | exact .bool _ | exact .int _ _ | exact .str _ | simp [scal] at hv
section
variable {P:Program} {B:Nat} {W0:World} {F:FuncId->Option IFn} {S S1 S2:ySM}
theorem rs_none {W:World}:RS noPl (look 0 (fun _=>[]) []) W:=by
 refine ⟨fun l i k s o hb=>?_,fun l i l' i' k s s' o o' hb=>?_,fun l i k s hb=>?_,fun l i o hg hl=>?_,fun l i p hb=>?_⟩
 ·simp [noPl] at hb
 ·simp [noPl] at hb
 ·simp [noPl] at hb
 ·unfold look at hg
  split at hg
  ·simp at hg
  ·split at hg
   ·omega
   ·simp at hg
 ·simp [noPl] at hb
def ptS (f0:FuncId) (a0:List IV) (v0:IV) (S:ySM):ySM:=fun f args=>bif Nat.beq f f0&&beqIVs args a0 then some v0 else S f args
theorem sum_pt (hm:P.follows .mixedOrders=true) (hF:TabOK P F) (hS:SumOK P B W0 S) {f0:FuncId} {a0:List IV} {v0:IV} {n:Nat} {e:Eff} {own1:yLO} (hr:callN F S n 0 (fun _=>[]) [] [] 0 f0 a0=some (e,v0,own1)) (ha:noMs a0=true) (hv:scal v0=true):SumOK P B W0 (ptS f0 a0 v0 S):=by
 intro f args v h
 unfold ptS at h
 cases hc:(Nat.beq f f0&&beqIVs args a0) with
 | false=>rw [hc] at h; exact hS f args v h
 | true =>
  rw [hc] at h
  simp only [cond_true,zf5] at h
  subst h
  rw [zf6] at hc
  obtain ⟨hc0,hc⟩:=hc
  obtain rfl:=Nat.eq_of_beq_eq_true hc0
  obtain rfl:=YW _ _ hc
  have key:∀ (W:World) (args':List Value),Base B W0 noPl W->VRs noPl W args args'->_:=fun W args' hb hva=>zeh hm hF hS n 0 (fun _=>[]) [] [] 0 f args e v0 own1 args' noPl W hr hb ⟨rfl,fun i o h=>.inl h⟩ rs_none hva
  refine ⟨?_,fun β W args' hb hva=>?_⟩
  ·cases n with
   | zero=>simp [callN] at hr
   | succ n =>
    unfold callN at hr
    split at hr
    ·rename_i w hw
     exact (hS f args w hw).1
    ·split at hr
     ·simp at hr
     ·rename_i i hi
      rcases hF f i hi with ⟨_,fn,hfn,hcf⟩ | hsrt
      rotate_left
      ·exact hsrt.1
      unfold cFn at hcf
      split at hcf
      ·simp at hcf
      ·rename_i hnm
       split at hcf
       ·simp at hcf
       ·rename_i c hbody
        exact ⟨fn,hfn,hnm,by rw [hbody]; rfl⟩
  ·have hb':Base B W0 noPl W:=⟨fun l i k s hq=>by simp [noPl] at hq,hb.size,hb.below⟩
   refine (key W args' hb' (vrs_noM hva ha)).2.mono fun x W' hx=>?_
   obtain ⟨y,β',h3,h4,_,h6,_⟩:=hx
   exact ⟨y,h3,h6.below fun i p hq=>by simp [noPl] at hq,vr_scal h4 hv⟩
end
end
end Go.Proofs.YtdacpmgnhkmnkaaGreatDoor
end
section
namespace Go.Proofs.YtdacpmgnhkmnkaaGreatDoor
open Go.RowKit
section
theorem int_info:(Tryz.prog.info? 3).map (fun i=>(i.zero,i.size,i.bytes))=some (some (.int .i64 0),1,8):=by kernel_rfl
theorem OI.mono {w:World} {B B':Nat} {v:Value} {xs:List Int} (h:OI w B v xs) (hB:B'<=B):OI w B' v xs:=by
 obtain ⟨h1,h2⟩:=h
 refine ⟨h1,?_⟩
 rcases h2 with h2 | ⟨g,cap,cur,hv,hg,r⟩
 ·exact Or.inl h2
 ·exact Or.inr ⟨g,cap,cur,hv,by omega,r⟩
theorem OI.own {w:World} {B:Nat} {v:Value} {xs:List Int} (h:OI w B v xs):∀ k,v.ownBlock=some k->B<=k/\k<w.heap.size:=by
 obtain ⟨h1,h2⟩:=h
 intro k hk
 rcases h2 with ⟨rfl,_⟩ | ⟨g,cap,cur,rfl,hg,hh,r⟩
 ·cases hk
 ·simp only [Value.ownBlock,zf5] at hk
  subst hk
  exact ⟨hg,(zhn.1 hh).1⟩
theorem OI.iterAt {w:World} {B:Nat} {v:Value} {xs:List Int} (h:OI w B v xs) {k:Nat} (hk:k<B) (s:ByteArray) (p:Nat):OI (w.iterAt k s p) B v xs:=ownsRow_iterAt h hk s p
theorem Gl.Tab.iterAt {w:World} (h:Gl.Tab w) {k:Nat} (hk:0≠k) (s:ByteArray) (p:Nat):Gl.Tab (w.iterAt k s p):=by
 obtain ⟨t,fr,h⟩:=h
 exact ⟨t,fr,by rw [Lib.iterAt_other _ _ _ _ _ hk]; exact h⟩
theorem append_int {ops:Array Oper} {rest:List Oper} {o:Oper} {a:Act} {Q:Exit->Act->World->Prop} (hgd:o.guard=none) (s x:Operand)
  (ho:o.op=.call { callee:=.builtin .append,args:=#[s,x],argTypes:=#[24,24] })
  (W:World) (base:Nat) (v:Value) (xs:List Int) (y:Int) (hs:a.eval s=v) (hown:OI W base v xs) (hx:a.eval x=.slice (some ⟨W.heap.size,0,none⟩) 1 1)
  (hlen:xs.length<=10000000000000) (hbase:base<=W.heap.size)
  (h:∀ v' w',OI w' base v' (xs++[y])->Below base W w'->W.grownBy w' v.ownBlock->wpList Tryz.prog ops Q rest (a.put o.dst v') w') :
  wpList Tryz.prog ops Q (o::rest) a (W.alloc (.cells #[.int .i64 y] 3)):=by
 obtain ⟨i0,hi,hz0,hz1,hz2⟩:=info_parts int_info
 refine wpList_append_own _ hgd s x 24 ho base 3 i0 (.int .i64 0) 1 8 Tryz.underlying24 hi hz0 hz1 hz2 rfl (by decide) v xs.length (xs.map (Value.int .i64)) hs (World.ownsRow.alloc hown _) ⟨W.heap.size,0,none⟩ 1 1 [.int .i64 y] hx rfl (cell_one_new _ _ _) (by simp [Value.oneCell']) (by unfold maxLen; omega) (by omega) (by simp; omega) ?_
 intro v' w' hown' hg _
 have hsz:W.heap.size<=w'.heap.size:=zhl (by simp) hg.size
 have hg':W.grownBy w' v.ownBlock:=⟨hg.os,hg.tape,hg.output,hsz,fun k hk hne=>(hg.block k (by simp; omega) hne).trans (Below.heap_alloc _ _ _ hk)⟩
 refine h v' w' (by simpa [OI] using hown') ⟨hg.os,hg.tape,hg.output,hsz,fun k hk=>hg'.block k (by omega) (fun e=>?_)⟩ hg'
 have:=hown.own k e.symm
 omega
end
end Go.Proofs.YtdacpmgnhkmnkaaGreatDoor
end
section
namespace Go.Proofs
open Go.Shelf
def Tryz.lays219_ren:Go.Shelf.Ren:=⟨fun | 219=>158 | 217=>201 | 225=>202 | 224=>203 | 267=>204 | 266=>232 | 314=>233 | n=>n,fun | 9=>9 | 3=>3 | 4=>4 | 5=>5 | 46=>177 | 146=>232 | 51=>202 | n=>n,fun | 1=>1 | n=>n⟩
def Tryz.lays144_ren:Go.Shelf.Ren:=⟨fun | 144=>78 | 143=>124 | 219=>158 | 217=>201 | 225=>202 | 224=>203 | 267=>204 | 266=>232 | 314=>233 | n=>n,fun | 9=>9 | 4=>4 | 3=>3 | 5=>5 | 46=>177 | 146=>232 | 51=>202 | n=>n,fun | 1=>1 | n=>n⟩
theorem Tryz.lays144:Go.Proofs.Lays.n144 Tryz.prog Tryz.lays144_ren:={
 mixed:=by kernel_rfl
 f143:=Tryz.func124.trans (congrArg some (by kernel_rfl))
 f144:=Tryz.func78.trans (congrArg some (by kernel_rfl))
 f217:=Tryz.func201.trans (congrArg some (by kernel_rfl))
 f219:=Tryz.func158.trans (congrArg some (by kernel_rfl))
 f224:=Tryz.func203.trans (congrArg some (by kernel_rfl))
 f225:=Tryz.func202.trans (congrArg some (by kernel_rfl))
 f266:=Tryz.func232.trans (congrArg some (by kernel_rfl))
 f267:=Tryz.func204.trans (congrArg some (by kernel_rfl))
 f314:=Tryz.func233.trans (congrArg some (by kernel_rfl))
 t3:=Tryz.underlying3
 a3:=Tryz.isAgg3
 z3:=Tryz.sizeOf3
 v3:=Tryz.zeroValue3
 t4:=Tryz.underlying4
 a4:=Tryz.isAgg4
 z4:=Tryz.sizeOf4
 v4:=Tryz.zeroValue4
 t5:=Tryz.underlying5
 a5:=Tryz.isAgg5
 z5:=Tryz.sizeOf5
 v5:=Tryz.zeroValue5
 t9:=Tryz.underlying9
 a9:=Tryz.isAgg9
 z9:=Tryz.sizeOf9
 v9:=Tryz.zeroValue9
 t46:=Tryz.underlying177
 a46:=Tryz.isAgg177
 z46:=Tryz.sizeOf177
 v46:=Tryz.zeroValue177
 t51:=Tryz.underlying202
 a51:=Tryz.isAgg202
 z51:=Tryz.sizeOf202
 v51:=Tryz.zeroValue202
 t146:=Tryz.underlying232
 a146:=Tryz.isAgg232
 z146:=Tryz.sizeOf232
 v146:=Tryz.zeroValue232
 g1:=by kernel_rfl }
open Go.RowKit Go.Lib in
theorem Tryz.strings_Contains (s sub:ByteArray) (m:Int) (w:World) (hs:s.size<4294967281) (hm:w.cell? ⟨1,0,none⟩=some (.int .i64 m)) :
  Calls Tryz.prog 78 #[.string s,.string sub] w fun e w'=>e=.returned (.bool (Lib.contains s.data.toList sub.data.toList))/\w'=w:=Any.strings_Contains Tryz.lays144 s sub m w hs hm
def Tryz.laysM144_ren:Go.Shelf.Ren:=⟨fun | 144=>78 | 143=>124 | 219=>158 | 217=>201 | 225=>202 | 224=>203 | 267=>204 | 266=>232 | 314=>233 | n=>n,fun | 9=>9 | 4=>4 | 3=>3 | 5=>5 | 46=>177 | 146=>232 | 51=>202 | n=>n,fun | 1=>1 | n=>n⟩
theorem Tryz.laysM144:Go.Proofs.LaysM.n144 Tryz.prog Tryz.laysM144_ren:={
 mixed:=by kernel_rfl
 f143:=Tryz.func124.trans (congrArg some (by kernel_rfl))
 f144:=Tryz.func78.trans (congrArg some (by kernel_rfl))
 f217:=Tryz.func201.trans (congrArg some (by kernel_rfl))
 f219:=Tryz.func158.trans (congrArg some (by kernel_rfl))
 f224:=Tryz.func203.trans (congrArg some (by kernel_rfl))
 f225:=Tryz.func202.trans (congrArg some (by kernel_rfl))
 f266:=Tryz.func232.trans (congrArg some (by kernel_rfl))
 f267:=Tryz.func204.trans (congrArg some (by kernel_rfl))
 f314:=Tryz.func233.trans (congrArg some (by kernel_rfl))
 t3:=Tryz.underlying3
 a3:=Tryz.isAgg3
 z3:=Tryz.sizeOf3
 v3:=Tryz.zeroValue3
 t4:=Tryz.underlying4
 a4:=Tryz.isAgg4
 z4:=Tryz.sizeOf4
 v4:=Tryz.zeroValue4
 t5:=Tryz.underlying5
 a5:=Tryz.isAgg5
 z5:=Tryz.sizeOf5
 v5:=Tryz.zeroValue5
 t9:=Tryz.underlying9
 a9:=Tryz.isAgg9
 z9:=Tryz.sizeOf9
 v9:=Tryz.zeroValue9
 t46:=Tryz.underlying177
 a46:=Tryz.isAgg177
 z46:=Tryz.sizeOf177
 v46:=Tryz.zeroValue177
 t51:=Tryz.underlying202
 a51:=Tryz.isAgg202
 z51:=Tryz.sizeOf202
 v51:=Tryz.zeroValue202
 t146:=Tryz.underlying232
 a146:=Tryz.isAgg232
 z146:=Tryz.sizeOf232
 v146:=Tryz.zeroValue232
 g1:=by kernel_rfl
 i3:=by kernel_rfl
 i4:=by kernel_rfl
 i5:=by kernel_rfl
 i9:=by kernel_rfl
 i46:=by kernel_rfl
 i51:=by kernel_rfl
 i146:=by kernel_rfl
 m1:=by kernel_rfl
 s1_3:=fun w h=>Go.Proofs.cell_of_shapedOpen_int (zero:=#[.int .i64 0]) (t:=3) h (of_decide_eq_true (by kernel_rfl)) (by kernel_rfl) rfl (by kernel_rfl) (by kernel_rfl) Tryz.underlying3 }
end Go.Proofs
end
section
namespace Go.Proofs.YtdacpmgnhkmnkaaGreatDoor
open Go.RowKit
theorem idx (k:Nat) (hk:k<13) (w:World):(Instr.index 160 (.agg Gl.tab) (.int .i64 (k:Int))).run Tryz.prog w=.ok (.agg #[.int .i32 (Gl.lo k),.int .i32 (Gl.hi k),.int .i64 (Gl.sc k)]) w:=by
 obtain rfl | rfl | rfl | rfl | rfl | rfl | rfl | rfl | rfl | rfl | rfl | rfl | rfl:k=0∨k=1∨k=2∨k=3∨k=4∨k=5∨k=6∨k=7∨k=8∨k=9∨k=10∨k=11∨k=12:=by omega
 all_goals kernel_rfl
theorem tabsz:(Tryz.prog.info? 160).map (·.size)=some Gl.tab.size:=by kernel_rfl
set_option maxHeartbeats 1000000 in
theorem ZI (r:Int) (w:World) (ht:Gl.Tab w) :
  Calls Tryz.prog 79 #[.int .i64 r] w fun e w'=>e=.returned (.int .i64 (Gl.script r))/\Below w.heap.size w w':=by
 obtain ⟨t,fr,hg⟩:=ht
 by_cases h0:r<0
 ·go_enter Tryz.func79,Tryz.ntmps79
  go_wp2
  go_ret
  exact ⟨zde (by unfold Gl.script; omega),Below.refl _ _⟩
 by_cases h1:1114111<r
 ·go_enter Tryz.func79,Tryz.ntmps79
  go_wp2
  go_ret
  exact ⟨zde (by unfold Gl.script; omega),Below.refl _ _⟩
 go_enter Tryz.func79,Tryz.ntmps79
 go_wp2_with (refine wpList_load_row rfl 160 _ rfl 0 rfl t _ fr _ hg Tryz.underlying160 rfl tabsz ?_)
 go_loopw [15] (fun i wr=>∃ k:Nat,k<=13/\i=.int .i64 k/\Hid (∀ j,j<k->¬ (Gl.lo j<=r/\r<=Gl.hi j))/\Below w.heap.size w wr) (fun i _=>13 - (intOf i).toNat)
 case atStart=>exact ⟨0,by omega,rfl,fun j hj=>absurd hj (by omega),Below.refl _ _⟩
 case round =>
  obtain ⟨k,hk,rfl,hn,hb⟩:=hrel
  by_cases hlt:k<13
  ·have hi:=fun W=>idx k hlt W
   have hsz:=hb.size
   by_cases h2:Gl.lo k<=r
   ·by_cases h3:r<=Gl.hi k
    ·go_wp2
     go_ret
     exact ⟨zde (Gl.scan_hit r k hlt h2 h3),hb.alloc hsz _⟩
    ·go_wp2
     go_roundw
     case rel=>exact ⟨k+1,by omega,by go_num,no_snoc hn.out (fun h=>h3 h.2),hb.alloc hsz _⟩
     case measure=>simp [intOf]; omega
   ·go_wp2
    go_roundw
    case rel=>exact ⟨k+1,by omega,by go_num,no_snoc hn.out (fun h=>h2 h.1),hb.alloc hsz _⟩
    case measure=>simp [intOf]; omega
  ·obtain rfl:k=13:=by omega
   go_wp2
   go_ret
   exact ⟨zde (Gl.scan_miss r hn.out),hb⟩
end Go.Proofs.YtdacpmgnhkmnkaaGreatDoor
namespace Go.Proofs.YtdacpmgnhkmnkaaGreatDoor
namespace Gl
def unit (r:Int):List UInt8 :=
 if r<128 then [UInt8.ofNat r.toNat]
 else if r<2048 then [UInt8.ofNat (192+r.toNat / 64),UInt8.ofNat (128+r.toNat % 64)]
 else [UInt8.ofNat (224+r.toNat / 4096),UInt8.ofNat (128+r.toNat / 64 % 64),UInt8.ofNat (128+r.toNat % 64)]
def value:List UInt8->Int
 | [a]=>a.toNat
 | [a,b]=>a.toNat % 32*64+b.toNat % 64
 | a::b::c::_=>a.toNat % 16*4096+b.toNat % 64*64+c.toNat % 64
 | []=>0
def fits (n:Nat) (l:List UInt8):Bool:=decide (n<=l.length)&&decide (0<=script (value (l.take n)))&&decide (unit (value (l.take n))=l.take n)
def first (l:List UInt8):Option Int :=
 if fits 1 l then some (value (l.take 1)) else if fits 2 l then some (value (l.take 2)) else if fits 3 l then some (value (l.take 3)) else none
def decodeN:Nat->List UInt8->Option (List Int)
 | 0,l=>if l=[] then some [] else none
 | f+1,l=>if l=[] then some [] else match first l with
  | none=>none
  | some r=>(decodeN f (l.drop (unit r).length)).map (r::·)
def decode (l:List UInt8):Option (List Int):=decodeN l.length l
def units (L:List Int):List UInt8:=L.flatMap unit
def valid (L:List Int):Bool:=L.all fun r=>decide (0<=script r)
theorem Zw (r:Int):(unit r).length=if r<128 then 1 else if r<2048 then 2 else 3:=by
 unfold unit; split
 ·rfl
 ·split <;> rfl
theorem ZJ (r:Int):1<=(unit r).length/\(unit r).length<=3:=by
 rw [Zw]
 repeat' split
 all_goals omega
theorem zcp {r:Int} (h0:0<=r) (h:r<128):∃ a,unit r=[a]/\(a.toNat:Int)=r:=by
 refine ⟨_,by unfold unit; rw [if_pos h],?_⟩
 rw [UInt8.toNat_ofNat']; omega
theorem Z3 {r:Int} (h0:128<=r) (h:r<2048):∃ a b,unit r=[a,b]/\a.toNat=192+r.toNat / 64/\b.toNat=128+r.toNat % 64:=by
 refine ⟨_,_,by unfold unit; rw [if_neg (by omega),if_pos h],?_,?_⟩ <;> rw [UInt8.toNat_ofNat'] <;> omega
theorem YX {r:Int} (h0:2048<=r) (h:r<=65535):∃ a b c,unit r=[a,b,c]/\a.toNat=224+r.toNat / 4096/\b.toNat=128+r.toNat / 64 % 64/\c.toNat=128+r.toNat % 64:=by
 refine ⟨_,_,_,by unfold unit; rw [if_neg (by omega),if_neg (by omega)],?_,?_,?_⟩ <;> rw [UInt8.toNat_ofNat'] <;> omega
theorem zfu {r:Int} (h0:0<=r) (h:r<=65535):value (unit r)=r:=by
 by_cases h1:r<128
 ·obtain ⟨a,e,ha⟩:=zcp h0 h1
  rw [e]; simp [value,ha]
 by_cases h2:r<2048
 ·obtain ⟨a,b,e,ha,hb⟩:=Z3 (by omega) h2
  rw [e]; simp only [value,ha,hb]; omega
 ·obtain ⟨a,b,c,e,ha,hb,hc⟩:=YX (by omega) h
  rw [e]; simp only [value,ha,hb,hc]; omega
theorem zbv {n:Nat} {l:List UInt8}:fits n l=true↔n<=l.length/\0<=script (value (l.take n))/\unit (value (l.take n))=l.take n:=by
 unfold fits; simp [and_assoc]
theorem zfv {n:Nat} {l:List UInt8} (h:fits n l=true):(unit (value (l.take n))).length=n:=by
 obtain ⟨h1,_,h2⟩:=zbv.1 h
 rw [h2,zhx]; omega
theorem zfw {l:List UInt8} {r:Int} (h:first l=some r):0<=script r/\∃ t,l=unit r++t:=by
 unfold first at h
 have key:∀ n,fits n l=true->0<=script (value (l.take n))/\∃ t,l=unit (value (l.take n))++t:=fun n hn=>by
  obtain ⟨_,h2,h3⟩:=zbv.1 hn
  exact ⟨h2,l.drop n,by rw [h3,zih]⟩
 split at h
 ·rename_i h1; injection h with h; subst h; exact key 1 h1
 split at h
 ·rename_i h1; injection h with h; subst h; exact key 2 h1
 split at h
 ·rename_i h1; injection h with h; subst h; exact key 3 h1
 ·cases h
theorem fits_unit {r:Int} (h:0<=script r) (t:List UInt8):fits (unit r).length (unit r++t)=true:=by
 have hb:=script_bounds h
 rw [zbv]
 rw [List.take_left,zfu (by omega) (by omega)]
 exact ⟨by simp,h,rfl⟩
theorem zag {r:Int} (h:0<=script r) (t:List UInt8):first (unit r++t)=some r:=by
 have hb:=script_bounds h
 have hf:=fits_unit h t
 have hv:value ((unit r++t).take (unit r).length)=r:=by rw [List.take_left,zfu (by omega) (by omega)]
 by_cases h1:r<128
 ·have hl:(unit r).length=1:=by rw [Zw,if_pos h1]
  rw [hl] at hf hv
  unfold first; rw [if_pos hf,hv]
 by_cases h2:r<2048
 ·have hl:(unit r).length=2:=by rw [Zw,if_neg h1,if_pos h2]
  have n1:¬ fits 1 (unit r++t)=true:=fun hn=>by
   have hn2:=zfv hn
   obtain ⟨a,b,e,ha,hb'⟩:=Z3 (r:=r) (by omega) h2
   rw [e] at hn2
   simp only [zgq,List.take_succ_cons,zis,value] at hn2
   rw [Zw,if_neg (by omega)] at hn2
   split at hn2 <;> omega
  rw [hl] at hf hv
  unfold first; rw [if_neg n1,if_pos hf,hv]
 ·have hl:(unit r).length=3:=by rw [Zw,if_neg h1,if_neg h2]
  obtain ⟨a,b,c,e,ha,hb',hc⟩:=YX (r:=r) (by omega) (by omega)
  have n1:¬ fits 1 (unit r++t)=true:=fun hn=>by
   have hn2:=zfv hn
   rw [e] at hn2
   simp only [zgq,List.take_succ_cons,zis,value] at hn2
   rw [Zw,if_neg (by omega)] at hn2
   split at hn2 <;> omega
  have n2:¬ fits 2 (unit r++t)=true:=fun hn=>by
   have hn2:=zfv hn
   obtain ⟨_,_,hn3⟩:=zbv.1 hn
   rw [e] at hn2 hn3
   simp only [zgq,List.take_succ_cons,zis,value] at hn2 hn3
   rw [Zw] at hn2
   have q1:¬ (↑a.toNat % 32*64+↑b.toNat % 64:Int)<128:=fun hh=>by rw [if_pos hh] at hn2; omega
   rw [if_neg q1] at hn2
   have q2:(↑a.toNat % 32*64+↑b.toNat % 64:Int)<2048:=by
    by_cases hh:(↑a.toNat % 32*64+↑b.toNat % 64:Int)<2048
    ·exact hh
    ·rw [if_neg hh] at hn2; omega
   obtain ⟨a',b',e',ha2,hb2⟩:=Z3 (by omega) q2
   rw [e'] at hn3
   injection hn3 with e1 e2
   rw [e1] at ha2
   omega
  rw [hl] at hf hv
  unfold first; rw [if_neg n1,if_neg n2,if_pos hf,hv]
theorem go_some {l:List UInt8} (h:0<l.length) (hs:0<=script ((Lib.decodeL l).1:Int)):first l=some ((Lib.decodeL l).1:Int)/\(Lib.decodeL l).2=(unit ((Lib.decodeL l).1:Int)).length:=by
 have key:∀ c:Nat,0<=script (c:Int)->∀ t,l=unit (c:Int)++t->first l=some (c:Int):=fun c hc t e=>by rw [e]; exact zag hc t
 have hbd:=script_bounds hs
 rw [Lib.decodeL_N] at hs hbd ⊢
 unfold Lib.decodeN at hs hbd ⊢
 match l,h with
 | a::l',_ =>
  simp only [zf3,List.getD_cons_zero,List.getD_cons_succ] at hs hbd key ⊢
  by_cases h1:a.toNat<128
  ·simp only [h1,if_true] at hs hbd ⊢
   obtain ⟨a',e,ha⟩:=zcp (r:=(a.toNat:Int)) (by omega) (by omega)
   have ea:a'=a:=UInt8.toNat.inj (by omega)
   subst ea
   exact ⟨key _ hs l' (by rw [e]; rfl),by rw [e]; rfl⟩
  simp only [h1,if_false] at hs hbd ⊢
  by_cases h2:a.toNat / 32=6/\(1<l'.length+1/\(l'.getD 0 0).toNat / 64=2)
  ·simp only [h2,and_self,if_true] at hs hbd ⊢
   match l',h2 with
   | b::l'',h2 =>
    simp only [List.getD_cons_zero] at h2 hs hbd key ⊢
    by_cases h3:a.toNat % 32*64+b.toNat % 64≥128
    ·simp only [h3,if_true] at hs hbd ⊢
     obtain ⟨a',b',e,ha,hb⟩:=Z3 (r:=((a.toNat % 32*64+b.toNat % 64:Nat):Int)) (by omega) (by omega)
     have hbl:=b.toNat_lt
     have ea:a'=a:=UInt8.toNat.inj (by omega)
     have eb:b'=b:=UInt8.toNat.inj (by omega)
     subst ea eb
     exact ⟨key _ hs l'' (by rw [e]; rfl),by rw [e]; rfl⟩
    ·simp only [h3,if_false] at hbd; omega
   | [],h2=>simp at h2
  rw [if_neg h2] at hs hbd ⊢
  by_cases h4:a.toNat / 16=14/\(1<l'.length+1/\(l'.getD 0 0).toNat / 64=2)/\(2<l'.length+1/\(l'.getD 1 0).toNat / 64=2)
  ·rw [if_pos h4] at hs hbd ⊢
   obtain ⟨b,c,l'',rfl⟩:∃ b c l'',l'=b::c::l'':=by
    cases l' with
    | nil=>simp at h4
    | cons b l1 =>
     cases l1 with
     | nil=>simp at h4
     | cons c l2=>exact ⟨b,c,l2,rfl⟩
   simp only [List.getD_cons_zero,List.getD_cons_succ] at h4 hs hbd key ⊢
   generalize hR:a.toNat % 16*4096+b.toNat % 64*64+c.toNat % 64=R at *
   by_cases h5:R≥2048/\(R<55296∨(57344<=R/\R<=1114111))
   ·rw [if_pos h5] at hs hbd ⊢
    simp only at hs hbd ⊢
    obtain ⟨a',b',c',e,ha,hb,hc⟩:=YX (r:=(R:Int)) (by omega) (by omega)
    have hal:=a.toNat_lt
    have hbl:=b.toNat_lt
    have hcl:=c.toNat_lt
    have ea:a'=a:=UInt8.toNat.inj (by omega)
    have eb:b'=b:=UInt8.toNat.inj (by omega)
    have ec:c'=c:=UInt8.toNat.inj (by omega)
    subst ea eb ec
    exact ⟨key _ hs l'' (by rw [e]; rfl),by rw [e]; rfl⟩
   ·rw [if_neg h5] at hbd
    simp only at hbd; omega
  rw [if_neg h4] at hs hbd ⊢
  split at hbd
  ·split at hbd
   ·simp only at hbd; omega
   ·simp only at hbd; omega
  ·simp only at hbd; omega
theorem go_unit {r:Int} (h:0<=script r) (t:List UInt8):Lib.decodeL (unit r++t)=(r.toNat,(unit r).length):=by
 have hb:=script_bounds h
 rw [Lib.decodeL_N]
 unfold Lib.decodeN
 by_cases h1:r<128
 ·obtain ⟨a,e,ha⟩:=zcp (r:=r) (by omega) h1
  rw [e]
  simp only [zgq,List.getD_cons_zero]
  rw [if_pos (by omega),show a.toNat=r.toNat by omega]; rfl
 by_cases h2:r<2048
 ·obtain ⟨a,b,e,ha,hb'⟩:=Z3 (r:=r) (by omega) h2
  rw [e]
  simp only [zgq,List.getD_cons_zero,List.getD_cons_succ,zf3]
  rw [if_neg (by omega),if_pos (by omega),if_pos (by omega),show a.toNat % 32*64+b.toNat % 64=r.toNat by omega]; rfl
 ·obtain ⟨a,b,c,e,ha,hb',hc⟩:=YX (r:=r) (by omega) (by omega)
  rw [e]
  simp only [zgq,List.getD_cons_zero,List.getD_cons_succ,zf3]
  rw [if_neg (by omega),if_neg (by omega),if_pos (by omega),if_pos (by omega),show a.toNat % 16*4096+b.toNat % 64*64+c.toNat % 64=r.toNat by omega]; rfl
theorem go_none {l:List UInt8} (hs:script ((Lib.decodeL l).1:Int)<0):first l=none:=by
 cases hf:first l with
 | none=>rfl
 | some r =>
  obtain ⟨h0,t,e⟩:=zfw hf
  have hb:=script_bounds h0
  rw [e,go_unit h0] at hs
  simp only at hs
  rw [show ((r.toNat:Nat):Int)=r by omega] at hs
  omega
theorem YF:∀ (f:Nat) (l:List UInt8) (L:List Int),l.length<=f->(decodeN f l=some L↔valid L=true/\l=units L)
 | 0,l,L,h=>by
  have hl:l=[]:=zhd.1 (by omega)
  subst hl
  simp only [decodeN,if_true]
  constructor
  ·intro h; injection h with h; subst h; exact ⟨rfl,rfl⟩
  ·rintro ⟨h1,h2⟩
   cases L with
   | nil=>rfl
   | cons r L =>
    have:=(ZJ r).1
    have h3:=congrArg List.length h2
    simp [units] at h3; omega
 | f+1,l,L,h=>by
  by_cases hl:l=[]
  ·subst hl
   simp only [decodeN,if_true]
   constructor
   ·intro h; injection h with h; subst h; exact ⟨rfl,rfl⟩
   ·rintro ⟨h1,h2⟩
    cases L with
    | nil=>rfl
    | cons r L =>
     have:=(ZJ r).1
     have h3:=congrArg List.length h2
     simp [units] at h3; omega
  ·have hpos:0<l.length:=List.length_pos_iff.2 hl
   simp only [decodeN,if_neg hl]
   cases hf:first l with
   | none =>
    constructor
    ·intro h; cases h
    ·rintro ⟨h1,h2⟩
     cases L with
     | nil=>exact absurd h2 hl
     | cons r L =>
      simp only [valid,zhr,zf6,decide_eq_true_eq] at h1
      rw [h2,show units (r::L)=unit r++units L from rfl,zag h1.1] at hf
      cases hf
   | some r =>
    obtain ⟨h0,t,e⟩:=zfw hf
    have hb:=(ZJ r).1
    have ht:l.drop (unit r).length=t:=by rw [e,List.drop_left]
    have ih:=YF f t
    have hlen:t.length<=f:=by have h3:=congrArg List.length e; simp at h3; omega
    simp only [ht]
    constructor
    ·intro h
     cases hd:decodeN f t with
     | none=>rw [hd] at h; cases h
     | some M =>
      rw [hd] at h
      injection h with h
      subst h
      obtain ⟨v1,v2⟩:=(ih M hlen).1 hd
      refine ⟨?_,?_⟩
      ·simp only [valid,zhr,zf6,decide_eq_true_eq]; exact ⟨h0,v1⟩
      ·rw [e,v2]; rfl
    ·rintro ⟨h1,h2⟩
     cases L with
     | nil=>exact absurd h2 hl
     | cons r' L =>
      simp only [valid,zhr,zf6,decide_eq_true_eq] at h1
      have e2:l=unit r'++units L:=h2
      have hr:r'=r:=by
       rw [e2,zag h1.1] at hf
       injection hf
      subst hr
      have ht2:units L=t:=by rw [e] at e2; exact (List.append_cancel_left e2).symm
      rw [(ih L hlen).2 ⟨h1.2,ht2.symm⟩]; rfl
theorem decode_iff (l:List UInt8) (L:List Int):decode l=some L↔valid L=true/\l=units L:=YF l.length l L (zf7 _)
theorem zbw (f:Nat) (l:List UInt8) (h:l.length<=f):decodeN f l=decode l:=by
 have h1:=YF f l
 have h2:=decode_iff l
 cases hd:decodeN f l with
 | some L=>exact ((h2 L).2 ((h1 L h).1 hd)).symm
 | none =>
  cases hd2:decode l with
  | none=>rfl
  | some L=>rw [(h1 L h).2 ((h2 L).1 hd2)] at hd; cases hd
theorem decode_nil:decode []=some []:=rfl
theorem decode_step {l:List UInt8} (h:0<l.length):decode l=match first l with | none=>none | some r=>(decode (l.drop (unit r).length)).map (r::·):=by
 have hl:l≠[]:=List.length_pos_iff.1 h
 rw [← zbw (l.length+1) l (by omega)]
 simp only [decodeN,if_neg hl]
 cases hf:first l with
 | none=>rfl
 | some r=>simp only; rw [zbw _ _ (by simp)]
theorem units_append (L M:List Int):units (L++M)=units L++units M:=by simp [units]
theorem valid_append (L M:List Int):valid (L++M)=(valid L&&valid M):=by simp [valid]
theorem units_len (L:List Int):L.length<=(units L).length/\(units L).length<=3*L.length:=by
 induction L with
 | nil=>simp [units]
 | cons r L ih =>
  have:=ZJ r
  have e:units (r::L)=unit r++units L:=rfl
  rw [e]; simp; omega
end Gl
end Go.Proofs.YtdacpmgnhkmnkaaGreatDoor
namespace Go.Proofs.YtdacpmgnhkmnkaaGreatDoor
open Go.RowKit
def DecPost (o:Option (List Int)) (w:World) (e:Ending) (w':World):Prop :=
 Below w.heap.size w w'/\∃ v,OI w' w.heap.size v (o.getD [])/\e=.returned (.tuple #[v,.int .i64 (if o.isSome then 0 else 4)])
theorem dec_some {s:ByteArray} {pos:Nat} (h:pos<s.size) (hs:0<=Gl.script ((Utf8.decode s pos).1:Int)) (acc:List Int)
  (ha:Gl.decode s.data.toList=(Gl.decode (s.data.toList.drop pos)).map (acc++·)) :
  Gl.decode s.data.toList=(Gl.decode (s.data.toList.drop (pos+(Utf8.decode s pos).2))).map ((acc++[((Utf8.decode s pos).1:Int)])++·):=by
 rw [← Lib.decodeL_drop] at hs ⊢
 have hl:0<(s.data.toList.drop pos).length:=by rw [zin]; have:=Lib.size_eq s; omega
 obtain ⟨h1,h2⟩:=Gl.go_some hl hs
 rw [ha,Gl.decode_step hl,h1]
 simp only
 rw [List.drop_drop,← h2,zgm]
 congr 1
 funext L
 simp
theorem dec_none {s:ByteArray} {pos:Nat} (h:pos<s.size) (hs:Gl.script ((Utf8.decode s pos).1:Int)<0) (acc:List Int)
  (ha:Gl.decode s.data.toList=(Gl.decode (s.data.toList.drop pos)).map (acc++·)):Gl.decode s.data.toList=none:=by
 rw [← Lib.decodeL_drop] at hs
 have hl:0<(s.data.toList.drop pos).length:=by rw [zin]; have:=Lib.size_eq s; omega
 rw [ha,Gl.decode_step hl,Gl.go_none hs]; rfl
theorem dec_end {s:ByteArray} {pos:Nat} (h:¬ pos<s.size) (acc:List Int)
  (ha:Gl.decode s.data.toList=(Gl.decode (s.data.toList.drop pos)).map (acc++·)):Gl.decode s.data.toList=some acc:=by
 have:=Lib.size_eq s
 rw [ha,List.drop_of_length_le (by omega),Gl.decode_nil]; simp
set_option maxHeartbeats 4000000 in
theorem gdecode_any (s:ByteArray) (w:World) (ht:Gl.Tab w) (hs:s.size<=10000000000000) :
  Calls Tryz.prog 77 #[.string s] w (DecPost (Gl.decode s.data.toList) w):=by
 have hv:=ht.lt
 go_enter Tryz.func77,Tryz.ntmps77
 go_wp2_with fail
 go_loopw [2] (fun v wr=>∃ (pos:Nat) (acc:List Int),OI wr (w.heap.size+1) v acc/\wr.heap[w.heap.size]?=some (.stringIter s pos)/\Below w.heap.size w wr/\Hid (Gl.decode s.data.toList=(Gl.decode (s.data.toList.drop pos)).map (acc++·))/\acc.length<=pos/\acc.length<=s.size) (fun _ wr=>s.size - wr.iterPos w.heap.size)
 case atStart =>
  exact ⟨0,[],OI.nil _ _,by have:=World.iter_heap w s 0; simpa using this,(Below.refl _ w).alloc (zf7 _) _,by simp [Hid],by simp,by simp⟩
 case round =>
  obtain ⟨pos,acc,hown,hit,hbw,hacc,hal,hal2⟩:=hrel
  have hsz:w.heap.size<wr.heap.size:=(zhn.1 hit).1
  have htw:=ht.below hbw (zf7 _)
  by_cases hp:pos<s.size
  ·have hnx:∀ ty,(Instr.next (.pointer (some ⟨w.heap.size,0,none⟩)) true ty).run Tryz.prog wr=_:=fun ty=>Lib.run_next_any_at wr w.heap.size s pos ty hit hp
   have hwd:=Lib.width_pos s pos
   have hd1:=decode_le s pos
   have hown2:=hown.iterAt (Nat.lt_succ_self _) s (pos+(Utf8.decode s pos).2)
   have hit2:=Lib.iterAt_heap wr w.heap.size s pos (pos+(Utf8.decode s pos).2) hit
   have hbw2:=Lib.below_iterAt hbw (k:=w.heap.size) (by omega) s (pos+(Utf8.decode s pos).2)
   have htw2:=htw.iterAt (k:=w.heap.size) (by omega) s (pos+(Utf8.decode s pos).2)
   by_cases h0:Gl.script ((Utf8.decode s pos).1:Int)<0
   ·have hfin:=dec_none hp h0 acc hacc.out
    have HF:=Lib.hid hfin
    clear hfin
    go_wp2_with (go_at_call 79; refine (ZI _ _ htw2).mono ?_; rintro e w1 ⟨rfl,hb1⟩)
    go_ret2
    exact ⟨hbw2.trans (hb1.mono (by rw [Lib.iterAt_size]; omega)),.slice none 0 0,by rw [HF.out]; exact OI.nil _ _,by rw [HF.out]; rfl⟩
   ·have hacc2:=Lib.hid (dec_some hp (by omega) acc hacc.out)
    go_wp2_with (go_at_call 79; refine (ZI _ _ htw2).mono ?_)
    rintro e w1 rfl hb1
    have hz1:=hb1.size
    rw [Lib.iterAt_size] at hz1
    have hown3:=hown2.below hb1 (zf7 _)
    go_wp2_with (at_builtin; go_loud (refine append_int rfl _ _ rfl w1 (w.heap.size+1) u2 acc ((Utf8.decode s pos).1:Int) rfl hown3 rfl (by omega) (by omega) ?_; intro v' w2 hown4 hb2 hg2))
    go_roundw
    case rel =>
     have hi1:w1.heap[w.heap.size]?=some (.stringIter s (pos+(Utf8.decode s pos).2)):=(hb1.block _ (by rw [Lib.iterAt_size]; omega)).trans hit2
     exact ⟨pos+(Utf8.decode s pos).2,acc++[((Utf8.decode s pos).1:Int)],hown4,(hb2.block _ (by omega)).trans hi1,(hbw2.trans (hb1.mono (by rw [Lib.iterAt_size]; omega))).trans (hb2.mono (by omega)),hacc2,by simp; omega,by simp; omega⟩
    case measure =>
     have hi1:w1.heap[w.heap.size]?=some (.stringIter s (pos+(Utf8.decode s pos).2)):=(hb1.block _ (by rw [Lib.iterAt_size]; omega)).trans hit2
     simp only [World.iterPos,(hb2.block _ (by omega)).trans hi1,hit]
     omega
  ·have hnx:∀ ty,(Instr.next (.pointer (some ⟨w.heap.size,0,none⟩)) true ty).run Tryz.prog wr=_:=fun ty=>Lib.run_next_end_at wr w.heap.size s pos ty hit hp
   have hfin:=Lib.hid (dec_end hp acc hacc.out)
   go_wp2_with fail
   go_ret2
   exact ⟨hbw,_,by rw [hfin.out]; exact hown.mono (by omega),by rw [hfin.out]; rfl⟩
end Go.Proofs.YtdacpmgnhkmnkaaGreatDoor
namespace Go.Proofs.YtdacpmgnhkmnkaaGreatDoor
open Go.RowKit
end Go.Proofs.YtdacpmgnhkmnkaaGreatDoor
namespace Go.Proofs.YtdacpmgnhkmnkaaGreatDoor
namespace Gl
def st (r:Int):Bool:=script r != 0
def hb (r:Int):Bool:=script r==4
def base (l:List Int):Bool:=match l.find? st with | some r=>hb r | none=>false
end Gl
end Go.Proofs.YtdacpmgnhkmnkaaGreatDoor
namespace Go.Proofs.YtdacpmgnhkmnkaaGreatDoor
open Go.RowKit
end Go.Proofs.YtdacpmgnhkmnkaaGreatDoor
namespace Go.Proofs.YtdacpmgnhkmnkaaGreatDoor
open Go.RowKit
end Go.Proofs.YtdacpmgnhkmnkaaGreatDoor
namespace Go.Proofs.YtdacpmgnhkmnkaaGreatDoor
open Go.RowKit Go.Shelf
attribute [local go_sem] Oper.semAt_some
end Go.Proofs.YtdacpmgnhkmnkaaGreatDoor
namespace Go.Proofs.YtdacpmgnhkmnkaaGreatDoor
open Go.RowKit Go.Shelf
attribute [local go_sem] Oper.semAt_some
end Go.Proofs.YtdacpmgnhkmnkaaGreatDoor
namespace Go.Proofs.YtdacpmgnhkmnkaaGreatDoor
open Go.RowKit Go.Lib Go.Sort
end Go.Proofs.YtdacpmgnhkmnkaaGreatDoor
namespace Go.Proofs.YtdacpmgnhkmnkaaGreatDoor
open Go.RowKit
theorem OI.form_n {w:World} {B n:Nat} {v:Value} {xs:List Int} (h:OI w B v xs) (hn:xs.length=n):∃ A c,v=.slice A n c/\n<=c/\RI w A xs/\(A=none->c=0):=by
 subst hn
 obtain ⟨A,c,e,h1,h2,h3⟩:=h.form
 refine ⟨A,c,e,h1,h3,fun hA=>?_⟩
 subst hA
 rcases h.2 with ⟨hv,_⟩ | ⟨g,cap,cur,hv,_⟩
 ·rw [e] at hv; injection hv
 ·rw [e] at hv; injection hv with hv; cases hv
end Go.Proofs.YtdacpmgnhkmnkaaGreatDoor
namespace Go.Proofs.YtdacpmgnhkmnkaaGreatDoor
open Go.RowKit
theorem Gl.decode_len (l:List UInt8):((Gl.decode l).getD []).length<=l.length:=by
 cases h:Gl.decode l with
 | none=>simp
 | some L =>
  obtain ⟨_,rfl⟩:=(Gl.decode_iff l L).1 h
  exact (Gl.units_len L).1
def errOf (b:Bool):Int:=if b then 0 else 4
theorem DecPost.form {o:Option (List Int)} {w w':World} {e:Ending} (h:DecPost o w e w'):Below w.heap.size w w'/\∃ v,OI w' w.heap.size v (o.getD [])/\e=.returned (.tuple #[v,.int .i64 (errOf o.isSome)]):=h
end Go.Proofs.YtdacpmgnhkmnkaaGreatDoor
namespace Go.Proofs.YtdacpmgnhkmnkaaGreatDoor
open Go.RowKit
theorem errOf_some {α:Type} (x:α):errOf (some x:Option α).isSome=0:=rfl
theorem errOf_none {α:Type}:errOf (none:Option α).isSome=4:=rfl
end Go.Proofs.YtdacpmgnhkmnkaaGreatDoor
namespace Go.Proofs.YtdacpmgnhkmnkaaGreatDoor
namespace Nm
def dbl:Bool->List Int->Bool
 | _,[]=>false
 | p,x::t=>(p&&x==32)||dbl (x==32) t
def blanks (L:List Int):Bool:=L.head?==some 32||L.getLast?==some 32||dbl false L
def common (L:List Int):Bool:=L.all fun r=>Gl.script r==0
def check (l:List UInt8):Int :=
 if l=[] then 14 else if 40<l.length then 3
 else match Gl.decode l with
  | none=>4
  | some L=>if blanks L||common L then 14 else 0
def read (l:List UInt8):List Int:=if check l=0 then (Gl.decode l).getD [] else []
def dbl8:Bool->List UInt8->Bool
 | _,[]=>false
 | p,x::t=>(p&&x==32)||dbl8 (x==32) t
theorem dbl8_high {l:List UInt8} (h:∀ x∈l,x≠32) (hne:l≠[]) (p:Bool) (t:List UInt8):dbl8 p (l++t)=dbl8 false t:=by
 induction l generalizing p with
 | nil=>exact absurd rfl hne
 | cons x l ih =>
  have hx:(x==32)=false:=by simpa using h x (by simp)
  simp only [zgq,dbl8,hx,zh3,zhm]
  cases l with
  | nil=>rfl
  | cons y l=>exact ih (fun z hz=>h z (by simp [hz])) (by simp) _
theorem zfx:Gl.unit 32=[32]:=by decide
theorem Z4 {k:Nat} (h:k % 256≠32):UInt8.ofNat k≠32:=by
 intro e
 have:=congrArg UInt8.toNat e
 simp at this
 omega
theorem zah {r:Int} (h:0<=Gl.script r) (hr:r≠32):(∀ x∈Gl.unit r,x≠32)/\Gl.unit r≠[]:=by
 have hb:=Gl.script_bounds h
 unfold Gl.unit
 split
 ·refine ⟨fun x hx=>?_,by simp⟩
  simp only [zhe] at hx
  subst hx
  exact Z4 (by omega)
 ·split
  ·refine ⟨fun x hx=>?_,by simp⟩
   simp only [zgf,zg1,or_false] at hx
   rcases hx with rfl | rfl
   ·exact Z4 (by omega)
   ·exact Z4 (by omega)
  ·refine ⟨fun x hx=>?_,by simp⟩
   simp only [zgf,zg1,or_false] at hx
   rcases hx with rfl | rfl | rfl
   ·exact Z4 (by omega)
   ·exact Z4 (by omega)
   ·exact Z4 (by omega)
theorem dbl_units:∀ (L:List Int) (p:Bool),Gl.valid L=true->dbl8 p (Gl.units L)=dbl p L
 | [],p,_=>rfl
 | r::L,p,h=>by
  simp only [Gl.valid,zhr,zf6,decide_eq_true_eq] at h
  have ih:=fun q=>dbl_units L q h.2
  simp only [Gl.units,zgj] at ih ⊢
  by_cases hr:r=32
  ·subst hr
   rw [zfx]
   simp [dbl8,dbl,ih]
  ·have hu:=zah h.1 hr
   have hrb:(r==32)=false:=by simpa using hr
   rw [dbl8_high hu.1 hu.2,ih]
   simp [dbl,hrb]
theorem pre_iff (x:UInt8) (l:List UInt8):[32,32].isPrefixOf (x::l)=(x==32&&(l.head?==some 32)):=by
 cases l with
 | nil=>simp [List.isPrefixOf]
 | cons y l =>
  simp only [List.isPrefixOf,List.head?_cons,Bool.and_true]
  rw [zhi]
  simp
  constructor
  ·rintro ⟨a,b⟩; exact ⟨a.symm,b.symm⟩
  ·rintro ⟨a,b⟩; exact ⟨a.symm,b.symm⟩
theorem dbl8_true (l:List UInt8):dbl8 true l=((l.head?==some 32)||dbl8 false l):=by
 cases l with
 | nil=>rfl
 | cons x l=>simp [dbl8]
theorem index_dbl:∀ l:List UInt8,0<=Lib.index l [32,32]↔dbl8 false l=true
 | []=>by decide
 | x::l=>by
  have ih:=index_dbl l
  have hge:=Lib.index_ge l [32,32]
  have e:Lib.index (x::l) [32,32]=if [32,32].isPrefixOf (x::l) then 0 else if Lib.index l [32,32]==-1 then -1 else Lib.index l [32,32]+1:=rfl
  have d:dbl8 false (x::l)=dbl8 (x==32) l:=by simp [dbl8]
  have step:0<=(if Lib.index l [32,32]==-1 then -1 else Lib.index l [32,32]+1)↔dbl8 false l=true:=by
   rw [← ih]
   by_cases h1:Lib.index l [32,32]=-1
   ·rw [h1]; decide
   ·rw [if_neg (by simpa using h1)]; omega
  rw [e,d,pre_iff]
  by_cases hx:x=32
  ·subst hx
   rw [beq_self_eq_true,zhj,dbl8_true]
   cases hh:(l.head?==some 32)
   ·rw [if_neg (by decide),zhm]; exact step
   ·simp
  ·have hxb:(x==32)=false:=by simpa using hx
   rw [hxb,zgo,if_neg (by decide)]
   exact step
theorem contains_dbl (l:List UInt8):Lib.contains l [32,32]=dbl8 false l:=by
 unfold Lib.contains
 rw [zhi,decide_eq_true_eq]
 exact index_dbl l
theorem unit_head {r:Int} (h:0<=Gl.script r) (t:List UInt8):((Gl.unit r++t).head?==some 32)=(r==32):=by
 by_cases hr:r=32
 ·subst hr; rfl
 ·obtain ⟨h1,h2⟩:=zah h hr
  have hrb:(r==32)=false:=by simpa using hr
  rw [hrb]
  cases hu:Gl.unit r with
  | nil=>exact absurd hu h2
  | cons x u =>
   rw [hu] at h1
   simpa using h1 x (by simp)
theorem unit_last {r:Int} (h:0<=Gl.script r) (t:List UInt8):((t++Gl.unit r).getLast?==some 32)=(r==32):=by
 by_cases hr:r=32
 ·subst hr; rw [zfx]; simp
 ·obtain ⟨h1,h2⟩:=zah h hr
  have hrb:(r==32)=false:=by simpa using hr
  rw [hrb,List.getLast?_append]
  cases hg:(Gl.unit r).getLast? with
  | none=>exact absurd (List.getLast?_eq_none_iff.1 hg) h2
  | some x=>simpa using h1 x (List.mem_of_getLast? hg)
theorem units_head {L:List Int} (h:Gl.valid L=true):((Gl.units L).head?==some 32)=(L.head?==some 32):=by
 cases L with
 | nil=>rfl
 | cons r L =>
  simp only [Gl.valid,zhr,zf6,decide_eq_true_eq] at h
  simp only [Gl.units,zgj]
  rw [unit_head h.1]
  simp
theorem units_last {L:List Int} (h:Gl.valid L=true):((Gl.units L).getLast?==some 32)=(L.getLast?==some 32):=by
 rcases List.eq_nil_or_concat L with rfl | ⟨M,r,rfl⟩
 ·rfl
 ·rw [List.concat_eq_append] at h ⊢
  rw [Gl.valid_append] at h
  simp only [Gl.valid,zhr,List.all_nil,zf6,decide_eq_true_eq] at h
  rw [Gl.units_append]
  have:Gl.units [r]=Gl.unit r:=by simp [Gl.units]
  rw [this,unit_last h.2.1]
  simp
theorem blanks_units {L:List Int} (h:Gl.valid L=true):blanks L=((Gl.units L).head?==some 32||(Gl.units L).getLast?==some 32||Lib.contains (Gl.units L) [32,32]):=by
 rw [contains_dbl,dbl_units L false h,units_head h,units_last h]
 rfl
end Nm
end Go.Proofs.YtdacpmgnhkmnkaaGreatDoor
namespace Go.Proofs.YtdacpmgnhkmnkaaGreatDoor
open Go.RowKit
def MaxOk (w:World):Prop:=∃ m,w.cell? ⟨1,0,none⟩=some (.int .i64 m)
theorem MaxOk.lt {w:World} (h:MaxOk w):1<w.heap.size:=by
 obtain ⟨m,h⟩:=h
 simp only [World.cell?] at h
 split at h
 ·rename_i hb
  exact (zhn.1 hb).1
 ·cases h
theorem MaxOk.below {w w':World} {B:Nat} (h:MaxOk w) (hb:Below B w w') (hB:w.heap.size<=B):MaxOk w':=by
 have hl:=h.lt
 obtain ⟨m,h⟩:=h
 exact ⟨m,(hb.cell (p:=⟨1,0,none⟩) (by show 1<B; omega)).trans h⟩
theorem str_toList (s:ByteArray):s.toList=s.data.toList:=by simp [ByteArray.toList_eq]
theorem byte_32 (b:UInt8):((b.toNat:Int)==32)=(some b==some 32):=by
 rw [zhi]
 simp
 constructor
 ·intro h; exact UInt8.toNat_inj.1 (by simpa using (by omega:b.toNat=32))
 ·rintro rfl; rfl
theorem byte_first (s:ByteArray) (h:0<s.size):(((s[0]'h).toNat:Int)==32)=(s.data.toList.head?==some 32):=by
 have e:s.data.toList.head?=some s[0]:=by
  rw [List.head?_eq_getElem?]
  have h':0<s.data.toList.length:=h
  rw [zf0 h']
  rfl
 rw [e,byte_32]
theorem byte_last (s:ByteArray) (h:0<s.size):(((s[s.size - 1]'(by omega)).toNat:Int)==32)=(s.data.toList.getLast?==some 32):=by
 have e:s.data.toList.getLast?=some (s[s.size - 1]'(by omega)):=by
  rw [List.getLast?_eq_getElem?]
  have h':s.size - 1<s.data.toList.length:=by show s.size - 1<s.size; omega
  rw [show s.data.toList.length - 1=s.size - 1 from rfl,zf0 h']
  rfl
 rw [e,byte_32]
def KeyPost (L:List Int) (er:Int) (w:World) (e:Ending) (w':World):Prop :=
 Below w.heap.size w w'/\∃ v,OI w' w.heap.size v L/\e=.returned (.tuple #[v,.int .i64 er])
theorem KeyPost.err {L:List Int} {er er':Int} {w w':World} (hb:Below w.heap.size w w') (h1:L=[]) (h2:er=er'):KeyPost L er w (.returned (.tuple #[.slice none 0 0,.int .i64 er'])) w':=by
 subst h1
 subst h2
 exact ⟨hb,_,OI.nil _ _,rfl⟩
theorem Nm.check_long {l:List UInt8} (h:40<l.length):Nm.check l=3:=by
 unfold Nm.check
 rw [if_neg (by intro e; rw [e] at h; simp at h),if_pos h]
theorem Nm.check_none {l:List UInt8} (h1:l≠[]) (h2:l.length<=40) (h:Gl.decode l=none):Nm.check l=4:=by
 unfold Nm.check
 rw [if_neg h1,if_neg (by omega),h]
theorem Nm.check_some {l:List UInt8} {L:List Int} (h1:l≠[]) (h2:l.length<=40) (h:Gl.decode l=some L):Nm.check l=if Nm.blanks L||Nm.common L then 14 else 0:=by
 unfold Nm.check
 rw [if_neg h1,if_neg (by omega),h]
theorem Nm.read_err {l:List UInt8} (h:Nm.check l≠0):Nm.read l=[]:=by unfold Nm.read; rw [if_neg h]
theorem zfy (s:ByteArray) (m:Int) (w:World) (hs:s.size<4294967281) (hm:w.cell? ⟨1,0,none⟩=some (.int .i64 m)) :
  Calls Tryz.prog 78 #[.string s,.string ⟨#[32,32]⟩] w fun e w'=>e=.returned (.bool (Lib.contains s.data.toList [32,32]))/\w=w' :=
 (Tryz.strings_Contains s _ m w hs hm).mono fun _ _ h=>⟨h.1,h.2.symm⟩
set_option maxHeartbeats 4000000 in
theorem read_any (s:ByteArray) (w:World) (ht:Gl.Tab w) (hm:MaxOk w) (hs:s.size<=1000000000000) :
  Calls Tryz.prog 50 #[.string s] w (KeyPost (Nm.read s.data.toList) (Nm.check s.data.toList) w):=by
 go_enter Tryz.func50,Tryz.ntmps50
 by_cases h0:s=⟨#[]⟩
 ·subst h0
  go_wp2_with fail
  go_ret2
  exact ⟨Below.refl _ _,_,OI.nil _ _,rfl⟩
 have h0d:s.data.toList≠[]:=fun e=>h0 (by cases s with | mk d=>simp at e; subst e; rfl)
 have h0s:s.size≠0:=fun e=>h0d (zhd.1 e)
 have h0b:s.toList.isEmpty=false:=by rw [str_toList]; simpa using h0d
 by_cases hl:40<s.size
 ·go_wp2_with fail
  go_ret2
  have e:Nm.check s.data.toList=3:=Nm.check_long (by simpa using hl)
  exact KeyPost.err (Below.refl _ _) (Nm.read_err (by rw [e]; decide)) e
 go_wp2_with (go_at_call 77; refine (gdecode_any _ _ ht (by omega)).mono ?_)
 intro e w1 hp1
 obtain ⟨hb1,v1,ho1,rfl⟩:=hp1.form
 have ht1:=ht.below hb1 (zf7 _)
 have hm1:=hm.below hb1 (zf7 _)
 have hl2:s.data.toList.length<=40:=by show s.size<=40; omega
 obtain ⟨o1,e1⟩:∃ o,Gl.decode s.data.toList=o:=⟨_,rfl⟩
 have E1:=Lib.hid e1
 rw [e1] at ho1
 rw [e1]
 clear e1 hp1
 cases o1 with
 | none =>
  rw [errOf_none]
  have hck:=Nm.check_none h0d hl2 E1.out
  go_wp2_with fail
  go_ret2
  exact KeyPost.err hb1 (Nm.read_err (by rw [hck]; decide)) hck
 | some L =>
 rw [errOf_some]
 replace ho1:OI w1 w.heap.size v1 L:=ho1
 obtain ⟨nL,hnL⟩:∃ n,L.length=n:=⟨_,rfl⟩
 obtain ⟨A1,c1,rfl,_,hR1,_⟩:=ho1.form_n hnL
 have hck:=Nm.check_some h0d hl2 E1.out
 obtain ⟨hv,hu⟩:=(Gl.decode_iff _ _).1 E1.out
 have hbl:=Nm.blanks_units hv
 rw [← hu] at hbl
 clear hu
 obtain ⟨m,hmm⟩:=hm1
 have hsz:s.size<4294967281:=by omega
 have hp0:0<s.size:=by omega
 have hn40:nL<=40:=by rw [← hnL]; have:=Gl.decode_len s.data.toList; rw [E1.out] at this; exact zhl this hl2
 have f0:(((s[0]'hp0).toNat:Int)==32)=(s.data.toList.head?==some 32):=byte_first s hp0
 have f1:(((s[s.size - 1]'(by omega)).toNat:Int)==32)=(s.data.toList.getLast?==some 32):=byte_last s hp0
 rcases Bool.eq_false_or_eq_true (s.data.toList.head?==some 32) with g0 | g0
 ·have f0':=f0.trans g0
  have hB:Nm.check s.data.toList=14:=by rw [hck,hbl,g0]; rfl
  clear f0 f1 hck hbl
  go_wp2_with fail
  go_ret2
  exact KeyPost.err hb1 (Nm.read_err (by rw [hB]; decide)) hB
 have f0':=f0.trans g0
 rcases Bool.eq_false_or_eq_true (s.data.toList.getLast?==some 32) with g1 | g1
 ·have f1':=f1.trans g1
  have hB:Nm.check s.data.toList=14:=by rw [hck,hbl,g0,g1]; rfl
  clear f0 f1 hck hbl
  go_wp2_with fail
  go_ret2
  exact KeyPost.err hb1 (Nm.read_err (by rw [hB]; decide)) hB
 have f1':=f1.trans g1
 clear f0 f1
 rcases Bool.eq_false_or_eq_true (Lib.contains s.data.toList [32,32]) with g2 | g2
 ·have hB:Nm.check s.data.toList=14:=by rw [hck,hbl,g0,g1,g2]; rfl
  clear hck hbl
  go_wp2_with (go_at_call 78; refine (zfy s m _ hsz hmm).mono ?_; first | rintro e w' rfl rfl | rintro e w' ⟨rfl,rfl⟩)
  go_ret2
  exact KeyPost.err hb1 (Nm.read_err (by rw [hB]; decide)) hB
 have hck2:Nm.check s.data.toList=if Nm.common L then 14 else 0:=by rw [hck,hbl,g0,g1,g2]; rfl
 have HCK:=Lib.hid hck2
 clear hck hbl hck2
 go_wp2_with (go_at_call 78; refine (zfy s m _ hsz hmm).mono ?_; first | rintro e w' rfl rfl | rintro e w' ⟨rfl,rfl⟩)
 go_loopw [2,5,36] (fun lv rv iv wr=>∃ i:Nat,lv=.slice A1 nL c1/\iv=.int .i64 i/\i<=nL/\Hid (∀ k,k<i->Gl.script (gi L k)=0)/\Below w1.heap.size w1 wr) (fun _ _ iv _=>nL - (intOf iv).toNat)
 case atStart=>exact ⟨0,rfl,rfl,by omega,fun k hk=>absurd hk (by omega),Below.refl _ _⟩
 case round =>
  obtain ⟨i,rfl,rfl,hi,hall,hbw⟩:=hrel
  by_cases hlt:i<nL
  ·obtain ⟨b1,o1,rfl,hbb1,hc1⟩:=hR1 i (by omega)
   have c1:=(hbw.cell (p:=⟨b1,o1+i,none⟩) hbb1).trans (hc1 i (by omega))
   clear hc1
   have htr:=ht1.below hbw (zf7 _)
   have hbr:Below w.heap.size w wr:=hb1.trans (hbw.mono hb1.size)
   by_cases hsc:Gl.script (gi L i)=0
   ·have hsb:(Gl.script (gi L i) != 0)=false:=by simp [hsc]
    have HS:=Lib.hid hsc
    clear hsc
    go_wp2_with (go_at_call 79; refine (ZI _ _ htr).mono ?_; first | rintro e w2 rfl hb2 | rintro e w2 ⟨rfl,hb2⟩)
    go_roundw
    case rel=>exact ⟨i+1,rfl,by go_num,by omega,fun k hk=>(Nat.lt_or_eq_of_le (Nat.le_of_lt_succ hk)).elim (hall.out k) (fun e=>by rw [e]; exact HS.out),hbw.trans (hb2.mono hbw.size)⟩
    case measure=>simp [intOf]; omega
   ·have hsb:(Gl.script (gi L i) != 0)=true:=by simp [hsc]
    have hcm:Nm.common L=false:=by
     unfold Nm.common
     rw [List.all_eq_false]
     have hlt':i<L.length:=by omega
     refine ⟨L[i],zgt hlt',?_⟩
     rw [← gi_eq hlt']
     simpa using hsc
    have hK:Nm.check s.data.toList=0:=by rw [HCK.out,hcm]; rfl
    have hRd:Nm.read s.data.toList=L:=by unfold Nm.read; rw [if_pos hK,E1.out]; rfl
    have HK:=Lib.hid hK
    have HR:=Lib.hid hRd
    clear hK hRd hcm
    go_wp2_with (go_at_call 79; refine (ZI _ _ htr).mono ?_; first | rintro e w2 rfl hb2 | rintro e w2 ⟨rfl,hb2⟩)
    go_ret2
    exact ⟨hbr.trans (hb2.mono hbr.size),_,by rw [HR.out]; exact ho1.below (hbw.trans (hb2.mono hbw.size)) (zf7 _),by rw [HK.out]; rfl⟩
  ·have hcm:Nm.common L=true:=by
    unfold Nm.common
    rw [zhg]
    intro x hx
    obtain ⟨k,hk,rfl⟩:=List.mem_iff_getElem.1 hx
    have:=hall.out k (by omega)
    rw [gi_eq hk] at this
    simpa using this
   have hK:Nm.check s.data.toList=14:=by rw [HCK.out,hcm]; rfl
   go_wp2_with fail
   go_ret2
   exact KeyPost.err (hb1.trans (hbw.mono hb1.size)) (Nm.read_err (by rw [hK]; decide)) hK
end Go.Proofs.YtdacpmgnhkmnkaaGreatDoor
namespace Go.Proofs.YtdacpmgnhkmnkaaGreatDoor
open Go.RowKit
theorem ncheck_any (s:ByteArray) (w:World) (ht:Gl.Tab w) (hm:MaxOk w) (hs:s.size<=1000000000000) :
  Calls Tryz.prog 26 #[.string s] w fun e w'=>e=.returned (.int .i64 (Nm.check s.data.toList))/\Below w.heap.size w w':=by
 go_enter Tryz.func26,Tryz.ntmps26
 go_wp2_with (go_at_call 50; refine (read_any _ _ ht hm hs).mono ?_)
 rintro e w1 ⟨hb1,v1,ho1,rfl⟩
 go_wp2_with fail
 go_ret
 exact ⟨rfl,hb1⟩
end Go.Proofs.YtdacpmgnhkmnkaaGreatDoor
end
section
namespace Go.Proofs
open Go.Shelf
def Tryz.sortQ_ren:Go.Shelf.Ren:=⟨fun | 6=>152 | 15=>146 | 14=>188 | 28=>184 | 29=>185 | 20=>221 | 21=>222 | 22=>223 | 23=>224 | 24=>225 | 25=>226 | 26=>227 | 27=>228 | 46=>238 | 47=>215 | 48=>216 | 49=>239 | 50=>240 | 57=>243 | n=>n,fun | 22=>24 | 24=>3 | 25=>137 | 3=>3 | 39=>177 | 0=>0 | 53=>202 | 55=>204 | 4=>4 | 46=>195 | 45=>194 | 50=>199 | 5=>5 | 9=>9 | 66=>219 | 70=>223 | 76=>235 | 77=>236 | n=>n,fun | n=>n⟩
theorem Tryz.sortQ:Go.Proofs.SlLaysF.n6 Tryz.prog Tryz.sortQ_ren:={
 mixed:=by kernel_rfl
 f6:=⟨Tryz.f152.name,by decide,Tryz.func152.trans (congrArg some (by kernel_rfl))⟩
 f14:=⟨Tryz.f188.name,by decide,Tryz.func188.trans (congrArg some (by kernel_rfl))⟩
 f15:=Tryz.func146.trans (congrArg some (by kernel_rfl))
 f20:=⟨Tryz.f221.name,by decide,Tryz.func221.trans (congrArg some (by kernel_rfl))⟩
 f21:=⟨Tryz.f222.name,by decide,Tryz.func222.trans (congrArg some (by kernel_rfl))⟩
 f22:=⟨Tryz.f223.name,by decide,Tryz.func223.trans (congrArg some (by kernel_rfl))⟩
 f23:=⟨Tryz.f224.name,by decide,Tryz.func224.trans (congrArg some (by kernel_rfl))⟩
 f24:=⟨Tryz.f225.name,by decide,Tryz.func225.trans (congrArg some (by kernel_rfl))⟩
 f25:=⟨Tryz.f226.name,by decide,Tryz.func226.trans (congrArg some (by kernel_rfl))⟩
 f26:=⟨Tryz.f227.name,by decide,Tryz.func227.trans (congrArg some (by kernel_rfl))⟩
 f27:=⟨Tryz.f228.name,by decide,Tryz.func228.trans (congrArg some (by kernel_rfl))⟩
 f28:=Tryz.func184.trans (congrArg some (by kernel_rfl))
 f29:=Tryz.func185.trans (congrArg some (by kernel_rfl))
 f46:=⟨Tryz.f238.name,by decide,Tryz.func238.trans (congrArg some (by kernel_rfl))⟩
 f47:=Tryz.func215.trans (congrArg some (by kernel_rfl))
 f48:=Tryz.func216.trans (congrArg some (by kernel_rfl))
 f49:=⟨Tryz.f239.name,by decide,Tryz.func239.trans (congrArg some (by kernel_rfl))⟩
 f50:=⟨Tryz.f240.name,by decide,Tryz.func240.trans (congrArg some (by kernel_rfl))⟩
 f57:=⟨Tryz.f243.name,by decide,Tryz.func243.trans (congrArg some (by kernel_rfl))⟩
 t0:=Tryz.underlying0
 a0:=Tryz.isAgg0
 z0:=Tryz.sizeOf0
 v0:=Tryz.zeroValue0
 t3:=Tryz.underlying3
 a3:=Tryz.isAgg3
 z3:=Tryz.sizeOf3
 v3:=Tryz.zeroValue3
 t4:=Tryz.underlying4
 a4:=Tryz.isAgg4
 z4:=Tryz.sizeOf4
 v4:=Tryz.zeroValue4
 t5:=Tryz.underlying5
 a5:=Tryz.isAgg5
 z5:=Tryz.sizeOf5
 v5:=Tryz.zeroValue5
 t9:=Tryz.underlying9
 a9:=Tryz.isAgg9
 z9:=Tryz.sizeOf9
 v9:=Tryz.zeroValue9
 t22:=Tryz.underlying24
 a22:=Tryz.isAgg24
 z22:=Tryz.sizeOf24
 v22:=Tryz.zeroValue24
 a24:=Tryz.isAgg3
 z24:=Tryz.sizeOf3
 t25:=Tryz.underlying137
 a25:=Tryz.isAgg137
 z25:=Tryz.sizeOf137
 v25:=Tryz.zeroValue137
 t39:=Tryz.underlying177
 a39:=Tryz.isAgg177
 z39:=Tryz.sizeOf177
 v39:=Tryz.zeroValue177
 t45:=Tryz.underlying194
 a45:=Tryz.isAgg194
 z45:=Tryz.sizeOf194
 v45:=Tryz.zeroValue194
 t46:=Tryz.underlying195
 a46:=Tryz.isAgg195
 z46:=Tryz.sizeOf195
 v46:=Tryz.zeroValue195
 t50:=Tryz.underlying199
 a50:=Tryz.isAgg199
 z50:=Tryz.sizeOf199
 v50:=Tryz.zeroValue199
 t53:=Tryz.underlying202
 a53:=Tryz.isAgg202
 z53:=Tryz.sizeOf202
 v53:=Tryz.zeroValue202
 t55:=Tryz.underlying204
 a55:=Tryz.isAgg204
 z55:=Tryz.sizeOf204
 v55:=Tryz.zeroValue204
 t66:=Tryz.underlying219
 a66:=Tryz.isAgg219
 z66:=Tryz.sizeOf219
 v66:=Tryz.zeroValue219
 t70:=Tryz.underlying223
 a70:=Tryz.isAgg223
 z70:=Tryz.sizeOf223
 v70:=Tryz.zeroValue223
 t76:=Tryz.underlying235
 a76:=Tryz.isAgg235
 z76:=Tryz.sizeOf235
 v76:=Tryz.zeroValue235
 t77:=Tryz.underlying236
 a77:=Tryz.isAgg236
 z77:=Tryz.sizeOf236
 v77:=Tryz.zeroValue236 }
def Tryz.sortU_ren:Go.Shelf.Ren:=⟨fun | 6=>104 | 15=>146 | 14=>145 | 28=>184 | 29=>185 | 20=>176 | 21=>177 | 22=>178 | 23=>179 | 24=>180 | 25=>181 | 26=>182 | 27=>183 | 46=>214 | 47=>215 | 48=>216 | 49=>217 | 50=>218 | 57=>237 | n=>n,fun | 22=>129 | 24=>136 | 25=>139 | 3=>3 | 39=>177 | 0=>0 | 53=>202 | 55=>204 | 4=>4 | 46=>195 | 45=>194 | 50=>199 | 5=>5 | 9=>9 | 66=>219 | 70=>223 | 76=>235 | 77=>236 | n=>n,fun | n=>n⟩
theorem Tryz.sortU:Go.Proofs.SlLaysF0.n6 Tryz.prog Tryz.sortU_ren:={
 mixed:=by kernel_rfl
 f6:=⟨Tryz.f104.name,by decide,Tryz.func104.trans (congrArg some (by kernel_rfl))⟩
 f14:=⟨Tryz.f145.name,by decide,Tryz.func145.trans (congrArg some (by kernel_rfl))⟩
 f15:=Tryz.func146.trans (congrArg some (by kernel_rfl))
 f20:=⟨Tryz.f176.name,by decide,Tryz.func176.trans (congrArg some (by kernel_rfl))⟩
 f21:=⟨Tryz.f177.name,by decide,Tryz.func177.trans (congrArg some (by kernel_rfl))⟩
 f22:=⟨Tryz.f178.name,by decide,Tryz.func178.trans (congrArg some (by kernel_rfl))⟩
 f23:=⟨Tryz.f179.name,by decide,Tryz.func179.trans (congrArg some (by kernel_rfl))⟩
 f24:=⟨Tryz.f180.name,by decide,Tryz.func180.trans (congrArg some (by kernel_rfl))⟩
 f25:=⟨Tryz.f181.name,by decide,Tryz.func181.trans (congrArg some (by kernel_rfl))⟩
 f26:=⟨Tryz.f182.name,by decide,Tryz.func182.trans (congrArg some (by kernel_rfl))⟩
 f27:=⟨Tryz.f183.name,by decide,Tryz.func183.trans (congrArg some (by kernel_rfl))⟩
 f28:=Tryz.func184.trans (congrArg some (by kernel_rfl))
 f29:=Tryz.func185.trans (congrArg some (by kernel_rfl))
 f46:=⟨Tryz.f214.name,by decide,Tryz.func214.trans (congrArg some (by kernel_rfl))⟩
 f47:=Tryz.func215.trans (congrArg some (by kernel_rfl))
 f48:=Tryz.func216.trans (congrArg some (by kernel_rfl))
 f49:=⟨Tryz.f217.name,by decide,Tryz.func217.trans (congrArg some (by kernel_rfl))⟩
 f50:=⟨Tryz.f218.name,by decide,Tryz.func218.trans (congrArg some (by kernel_rfl))⟩
 f57:=⟨Tryz.f237.name,by decide,Tryz.func237.trans (congrArg some (by kernel_rfl))⟩
 t0:=Tryz.underlying0
 a0:=Tryz.isAgg0
 z0:=Tryz.sizeOf0
 v0:=Tryz.zeroValue0
 t3:=Tryz.underlying3
 a3:=Tryz.isAgg3
 z3:=Tryz.sizeOf3
 v3:=Tryz.zeroValue3
 t4:=Tryz.underlying4
 a4:=Tryz.isAgg4
 z4:=Tryz.sizeOf4
 v4:=Tryz.zeroValue4
 t5:=Tryz.underlying5
 a5:=Tryz.isAgg5
 z5:=Tryz.sizeOf5
 v5:=Tryz.zeroValue5
 t9:=Tryz.underlying9
 a9:=Tryz.isAgg9
 z9:=Tryz.sizeOf9
 v9:=Tryz.zeroValue9
 t22:=Tryz.underlying129
 a22:=Tryz.isAgg129
 z22:=Tryz.sizeOf129
 v22:=Tryz.zeroValue129
 t25:=Tryz.underlying139
 a25:=Tryz.isAgg139
 z25:=Tryz.sizeOf139
 v25:=Tryz.zeroValue139
 t39:=Tryz.underlying177
 a39:=Tryz.isAgg177
 z39:=Tryz.sizeOf177
 v39:=Tryz.zeroValue177
 t45:=Tryz.underlying194
 a45:=Tryz.isAgg194
 z45:=Tryz.sizeOf194
 v45:=Tryz.zeroValue194
 t46:=Tryz.underlying195
 a46:=Tryz.isAgg195
 z46:=Tryz.sizeOf195
 v46:=Tryz.zeroValue195
 t50:=Tryz.underlying199
 a50:=Tryz.isAgg199
 z50:=Tryz.sizeOf199
 v50:=Tryz.zeroValue199
 t53:=Tryz.underlying202
 a53:=Tryz.isAgg202
 z53:=Tryz.sizeOf202
 v53:=Tryz.zeroValue202
 t55:=Tryz.underlying204
 a55:=Tryz.isAgg204
 z55:=Tryz.sizeOf204
 v55:=Tryz.zeroValue204
 t66:=Tryz.underlying219
 a66:=Tryz.isAgg219
 z66:=Tryz.sizeOf219
 v66:=Tryz.zeroValue219
 t70:=Tryz.underlying223
 a70:=Tryz.isAgg223
 z70:=Tryz.sizeOf223
 v70:=Tryz.zeroValue223
 t76:=Tryz.underlying235
 a76:=Tryz.isAgg235
 z76:=Tryz.sizeOf235
 v76:=Tryz.zeroValue235
 t77:=Tryz.underlying236
 a77:=Tryz.isAgg236
 z77:=Tryz.sizeOf236
 v77:=Tryz.zeroValue236 }
def Tryz.sortO_ren:Go.Shelf.Ren:=⟨fun | 189=>117 | 125=>146 | 257=>155 | 128=>184 | 129=>185 | 294=>190 | 295=>191 | 296=>192 | 297=>193 | 298=>194 | 299=>195 | 216=>196 | 300=>197 | 301=>198 | 328=>229 | 329=>215 | 330=>216 | 331=>230 | 332=>231 | 215=>147 | 343=>241 | n=>n,fun | 28=>24 | 3=>3 | 46=>177 | 0=>0 | 51=>202 | 53=>204 | 4=>4 | 183=>195 | 182=>194 | 131=>199 | 5=>5 | 9=>9 | 218=>219 | 222=>223 | 228=>235 | 229=>236 | n=>n,fun | n=>n⟩
theorem Tryz.sortO:Go.Proofs.Lays.n189 Tryz.prog Tryz.sortO_ren:={
 mixed:=by kernel_rfl
 f125:=Tryz.func146.trans (congrArg some (by kernel_rfl))
 f128:=Tryz.func184.trans (congrArg some (by kernel_rfl))
 f129:=Tryz.func185.trans (congrArg some (by kernel_rfl))
 f189:=Tryz.func117.trans (congrArg some (by kernel_rfl))
 f215:=Tryz.func147.trans (congrArg some (by kernel_rfl))
 f216:=Tryz.func196.trans (congrArg some (by kernel_rfl))
 f257:=Tryz.func155.trans (congrArg some (by kernel_rfl))
 f294:=Tryz.func190.trans (congrArg some (by kernel_rfl))
 f295:=Tryz.func191.trans (congrArg some (by kernel_rfl))
 f296:=Tryz.func192.trans (congrArg some (by kernel_rfl))
 f297:=Tryz.func193.trans (congrArg some (by kernel_rfl))
 f298:=Tryz.func194.trans (congrArg some (by kernel_rfl))
 f299:=Tryz.func195.trans (congrArg some (by kernel_rfl))
 f300:=Tryz.func197.trans (congrArg some (by kernel_rfl))
 f301:=Tryz.func198.trans (congrArg some (by kernel_rfl))
 f328:=Tryz.func229.trans (congrArg some (by kernel_rfl))
 f329:=Tryz.func215.trans (congrArg some (by kernel_rfl))
 f330:=Tryz.func216.trans (congrArg some (by kernel_rfl))
 f331:=Tryz.func230.trans (congrArg some (by kernel_rfl))
 f332:=Tryz.func231.trans (congrArg some (by kernel_rfl))
 f343:=Tryz.func241.trans (congrArg some (by kernel_rfl))
 t0:=Tryz.underlying0
 a0:=Tryz.isAgg0
 z0:=Tryz.sizeOf0
 v0:=Tryz.zeroValue0
 t3:=Tryz.underlying3
 a3:=Tryz.isAgg3
 z3:=Tryz.sizeOf3
 v3:=Tryz.zeroValue3
 t4:=Tryz.underlying4
 a4:=Tryz.isAgg4
 z4:=Tryz.sizeOf4
 v4:=Tryz.zeroValue4
 t5:=Tryz.underlying5
 a5:=Tryz.isAgg5
 z5:=Tryz.sizeOf5
 v5:=Tryz.zeroValue5
 t9:=Tryz.underlying9
 a9:=Tryz.isAgg9
 z9:=Tryz.sizeOf9
 v9:=Tryz.zeroValue9
 t28:=Tryz.underlying24
 a28:=Tryz.isAgg24
 z28:=Tryz.sizeOf24
 v28:=Tryz.zeroValue24
 t46:=Tryz.underlying177
 a46:=Tryz.isAgg177
 z46:=Tryz.sizeOf177
 v46:=Tryz.zeroValue177
 t51:=Tryz.underlying202
 a51:=Tryz.isAgg202
 z51:=Tryz.sizeOf202
 v51:=Tryz.zeroValue202
 t53:=Tryz.underlying204
 a53:=Tryz.isAgg204
 z53:=Tryz.sizeOf204
 v53:=Tryz.zeroValue204
 t131:=Tryz.underlying199
 a131:=Tryz.isAgg199
 z131:=Tryz.sizeOf199
 v131:=Tryz.zeroValue199
 t182:=Tryz.underlying194
 a182:=Tryz.isAgg194
 z182:=Tryz.sizeOf194
 v182:=Tryz.zeroValue194
 t183:=Tryz.underlying195
 a183:=Tryz.isAgg195
 z183:=Tryz.sizeOf195
 v183:=Tryz.zeroValue195
 t218:=Tryz.underlying219
 a218:=Tryz.isAgg219
 z218:=Tryz.sizeOf219
 v218:=Tryz.zeroValue219
 t222:=Tryz.underlying223
 a222:=Tryz.isAgg223
 z222:=Tryz.sizeOf223
 v222:=Tryz.zeroValue223
 t228:=Tryz.underlying235
 a228:=Tryz.isAgg235
 z228:=Tryz.sizeOf235
 v228:=Tryz.zeroValue235
 t229:=Tryz.underlying236
 a229:=Tryz.isAgg236
 z229:=Tryz.sizeOf236
 v229:=Tryz.zeroValue236 }
end Go.Proofs
end
section
namespace Go.Proofs.YtdacpmgnhkmnkaaGreatDoor
open Go
section
noncomputable def chkL (P:Program) (l:List (FuncId × IFn)):List (Option IFn):=List.rec (motive:=fun _=>List (Option IFn)) [] (fun p _ r=>(bif Nat.blt p.2.mode 4 then (P.funcs[p.1]?).bind fun fn=>cFn P fn p.2.mode else some p.2)::r) l
theorem zbx {P:Program}:∀ {l:List (FuncId × IFn)},chkL P l=l.map (fun p=>some p.2)->∀ p∈l,Nat.blt p.2.mode 4=true->∃ fn,P.funcs[p.1]?=some fn/\cFn P fn p.2.mode=some p.2
 | [],_,p,h=>by cases h
 | q::l,h,p,hp=>fun h4=>by
  have h:(bif Nat.blt q.2.mode 4 then (P.funcs[q.1]?).bind fun fn=>cFn P fn q.2.mode else some q.2)::chkL P l=some q.2::l.map (fun p=>some p.2):=h
  simp only [List.cons.injEq] at h
  rcases zgf.1 hp with rfl | hp
  ·rw [h4] at h
   cases hf:P.funcs[p.1]? with
   | none=>rw [hf] at h; cases h.1
   | some fn=>rw [hf] at h; exact ⟨fn,rfl,h.1⟩
  ·exact zbx h.2 p hp h4
end
section
theorem tc0:chkL Tryz.prog tab0.all=tab0.all.map (fun p=>some p.2):=by kernel_rfl
end
section
theorem tc1:chkL Tryz.prog tab1.all=tab1.all.map (fun p=>some p.2):=by kernel_rfl
end
section
theorem tc2:chkL Tryz.prog tab2.all=tab2.all.map (fun p=>some p.2):=by kernel_rfl
end
section
theorem tc3:chkL Tryz.prog tab3.all=tab3.all.map (fun p=>some p.2):=by kernel_rfl
end
section
theorem tab_srt:tabT.all.all (fun p=>Nat.blt p.2.mode 4||Nat.beq p.1 104||Nat.beq p.1 117||Nat.beq p.1 152)=true:=by kernel_rfl
theorem sort_ok104:SortOK Tryz.prog 104 i104:=⟨⟨Tryz.f104,Tryz.func104,by decide,rfl⟩,Nat.le_of_ble_eq_true rfl,Tryz.sortU_ren,.inr (.inl ⟨rfl,by decide,rfl,Tryz.sortU,Tryz.isAgg136,Tryz.sizeOf136⟩)⟩
theorem sort_ok117:SortOK Tryz.prog 117 i117:=⟨⟨Tryz.f117,Tryz.func117,by decide,rfl⟩,Nat.le_of_ble_eq_true rfl,Tryz.sortO_ren,.inr (.inr ⟨rfl,rfl,rfl,Tryz.sortO⟩)⟩
theorem sort_ok152:SortOK Tryz.prog 152 i152:=⟨⟨Tryz.f152,Tryz.func152,by decide,rfl⟩,Nat.le_of_ble_eq_true rfl,Tryz.sortQ_ren,.inl ⟨rfl,rfl,rfl,Tryz.sortQ⟩⟩
theorem tab_ok:TabOK Tryz.prog Ftab:=by
 intro f i h
 have hm0:(f,i)∈tabT.all:=FT.mem (t:=tabT) h
 have hs:=zhg.1 tab_srt _ hm0
 cases h4:Nat.blt i.mode 4 with
 | true =>
  refine .inl ⟨Nat.le_of_ble_eq_true h4,?_⟩
  have hm:(f,i)∈(tab0.all++tab1.all)++(tab2.all++tab3.all):=hm0
  rw [zhf,zhf,zhf] at hm
  rcases hm with (hm | hm) | hm | hm
  ·exact zbx tc0 _ hm h4
  ·exact zbx tc1 _ hm h4
  ·exact zbx tc2 _ hm h4
  ·exact zbx tc3 _ hm h4
 | false =>
  refine .inr ?_
  simp only [h4,zhm,zha] at hs
  rcases hs with (e | e) | e
  ·obtain rfl:=Nat.eq_of_beq_eq_true e
   obtain rfl:i104=i:=zgy (show some i104=some i from h)
   exact sort_ok104
  ·obtain rfl:=Nat.eq_of_beq_eq_true e
   obtain rfl:i117=i:=zgy (show some i117=some i from h)
   exact sort_ok117
  ·obtain rfl:=Nat.eq_of_beq_eq_true e
   obtain rfl:i152=i:=zgy (show some i152=some i from h)
   exact sort_ok152
end
section
theorem tab_all:tabT.all.all (fun p=>clIC p.2.body)=true:=by kernel_rfl
theorem tab_cl:TabCl Ftab:=fun f i h=>zhg.1 tab_all (f,i) (FT.mem (t:=tabT) h)
end
end Go.Proofs.YtdacpmgnhkmnkaaGreatDoor
end
section
namespace Go.Proofs.YtdacpmgnhkmnkaaGreatDoor
open Go Go.RowKit
section
noncomputable def S0:ySM:=fun f args=>bif Nat.beq f 26 then (match args with
 | [.str s]=>bif Nat.ble s.size 1000000000000 then some (.int .i64 (Nm.check s.data.toList)) else none
 | _=>none) else none
noncomputable def planX:IV:=.agg [.slC [.int .i64 1,.int .i64 0,.int .i64 0] 1 3 true,.slC [.int .i64 1,.int .i64 1,.int .i64 1,.slC [.int .i64 10,.int .i64 0,.int .i64 10,.int .i64 10,.int .i64 0,.int .i64 10] 3 2 true,.int .i64 1,.int .i64 0] 1 6 true,.slC [.int .i64 1] 1 1 true]
noncomputable def S1:ySM:=ptS 36 [planX] (.int .i64 0) S0
noncomputable def S2:ySM:=ptS 20 [planX] (.int .i64 0) S1
noncomputable def S3:ySM:=ptS 6 [] (.bool true) S2
noncomputable def SL:ySM:=ptS 6 [] (.bool true) S0
theorem run_pcheck:callN Ftab S0 400 0 (fun _=>[]) [] [] 0 36 [planX]=some (.r,.int .i64 0,[]):=by kernel_rfl
theorem run_gcheck:callN Ftab S1 400 0 (fun _=>[]) [] [] 0 20 [planX]=some (.r,.int .i64 0,[]):=by kernel_rfl
theorem run_awake:callN Ftab S2 400 0 (fun _=>[]) [] [] 0 6 []=some (.r,.bool true,[]):=by kernel_rfl
theorem y4:Tryz.prog.follows .mixedOrders=true:=by kernel_rfl
theorem sum0 {W0:World} (ht:Gl.Tab W0) (hm:MaxOk W0):SumOK Tryz.prog W0.heap.size W0 S0:=by
 intro f args v h
 unfold S0 at h
 cases hf:Nat.beq f 26
 ·rw [hf] at h
  cases h
 ·rw [hf,cond_true] at h
  obtain rfl:=Nat.eq_of_beq_eq_true hf
  split at h
  ·rename_i s
   cases hs:Nat.ble s.size 1000000000000
   ·rw [hs] at h
    cases h
   ·rw [hs,cond_true] at h
    cases h
    refine ⟨⟨Tryz.f26,Tryz.func26,by decide +kernel,by rfl⟩,fun β W args' hb hva=>?_⟩
    obtain ⟨y,rfl⟩:∃ y,args'=[y]:=by
     cases args' with
     | nil=>have:=hva.1; simp at this
     | cons y t=>cases t with
      | nil=>exact ⟨y,rfl⟩
      | cons _ _=>have:=hva.1; simp at this
    have hy:=hva.2 0 _ _ rfl rfl
    obtain rfl:=zby hy
    refine (ncheck_any s W (ht.below hb.below (zf7 _)) (hm.below hb.below (zf7 _)) (Nat.le_of_ble_eq_true hs)).mono ?_
    rintro e w' ⟨rfl,hbel⟩
    exact ⟨_,rfl,hbel,.int _ _⟩
  ·cases h
theorem sum3 {W0:World} (ht:Gl.Tab W0) (hm:MaxOk W0):SumOK Tryz.prog W0.heap.size W0 S3 :=
 sum_pt y4 tab_ok (sum_pt y4 tab_ok (sum_pt y4 tab_ok (sum0 ht hm) run_pcheck rfl rfl) run_gcheck rfl rfl) run_awake rfl rfl
theorem sumL {W0:World} (ht:Gl.Tab W0) (hm:MaxOk W0):SumOK Tryz.prog W0.heap.size W0 SL:=by
 intro f args v h
 cases hc:(Nat.beq f 6&&beqIVs args [])
 ·refine sum0 ht hm f args v ?_
  unfold SL ptS at h
  rw [hc] at h
  exact h
 ·refine sum3 ht hm f args v ?_
  unfold SL ptS at h
  unfold S3 ptS
  rw [hc] at h ⊢
  exact h
theorem zdt {f:FuncId} (h:f≠26) (args:List IV):S0 f args=none:=by
 unfold S0
 cases hb:Nat.beq f 26
 ·rfl
 ·exact absurd (Nat.eq_of_beq_eq_true hb) h
theorem sl_none {f:FuncId} (h1:f≠26) (h2:f≠6) (args:List IV):SL f args=none:=by
 unfold SL ptS
 cases hb:Nat.beq f 6
 ·rw [zgo,cond_false,zdt h1]
 ·exact absurd (Nat.eq_of_beq_eq_true hb) h2
theorem nosL:NoS SL:=fun f args h1 h2 _ _=>sl_none h1.1 h2 args
theorem aw_sum:SL 6 []=some (.bool true):=by kernel_rfl
theorem sumclL:SumCl SL:=by
 intro k f args
 cases h2:Nat.beq f 6
 ·have e:∀ args,SL f args=S0 f args:=fun args=>by
   unfold SL ptS
   rw [h2,zgo,cond_false]
  rw [e,e]
  cases h1:Nat.beq f 26
  ·have hne:f≠26:=fun h=>by
    rw [h] at h1
    exact absurd h1 (by decide)
   rw [zdt hne,zdt hne]
   rfl
  ·unfold S0
   rw [h1,cond_true,cond_true]
   match args with
   | []=>rfl
   | [.str s] =>
    simp only [zg3,zh9,sh]
    cases Nat.ble s.size 1000000000000 <;> simp [sh]
   | [.ptrM ..]=>simp [sh]
   | [.ptrC ..]=>simp [sh]
   | [.slM ..]=>simp [sh]
   | [.slC ..]=>simp [sh]
   | [.mapM ..]=>simp [sh]
   | [.mapC ..]=>simp [sh]
   | [.fn ..]=>simp [sh]
   | [.agg ..]=>simp [sh]
   | [.tuple ..]=>simp [sh]
   | [.bool ..]=>simp [sh]
   | [.int ..]=>simp [sh]
   | [.nilptr]=>simp [sh]
   | [.nilsl]=>simp [sh]
   | [.nilmap]=>simp [sh]
   | [.nilfn]=>simp [sh]
   | x::y::z=>simp
 ·obtain rfl:=Nat.eq_of_beq_eq_true h2
  cases args with
  | nil=>simp [aw_sum,sh]
  | cons x xs =>
   have e:∀ (y:IV) (ys:List IV),SL 6 (y::ys)=none:=fun y ys=>by
    unfold SL ptS
    simp only [beqIVs,zh3,cond_false]
    exact zdt (by decide) _
   rw [zg3,e,e]
   rfl
theorem str_ne:∀ {a:ByteArray},0<a.size->(a.toList==(bs []).toList)=false
 | ⟨⟨l⟩⟩,h=>by
  rw [show (ByteArray.mk { toList:=l })=ByteArray.mk l.toArray from rfl,ByteArray.toList_mk]
  have hl:(ByteArray.mk { toList:=l }).size=l.length:=rfl
  rw [hl] at h
  have e:(bs []).toList=[]:=by rw [show bs []=ByteArray.mk ([]:List UInt8).toArray from rfl,ByteArray.toList_mk]
  rw [e]
  cases l with
  | nil=>simp at h
  | cons a b=>rfl
theorem nmL:NmOK SL fun s=>Nm.check s.data.toList:=fun s=>by
 cases hs:Nat.ble s.1.size 1000000000000
 ·have hbig:1000000000000<s.1.size:=by
   rw [← zh8,Nat.ble_eq] at hs
   omega
  have hnm:Nm.check s.1.data.toList=3:=by
   have hl:s.1.data.toList.length=s.1.size:=rfl
   unfold Nm.check
   rw [if_neg (fun h=>by rw [h] at hl; simp at hl; omega),if_pos (by omega)]
  have hnone:SL 26 [.str s.1]=none:=by
   unfold SL ptS S0
   simp only [show Nat.beq 26 6=false from rfl,show Nat.beq 26 26=true from rfl,zgo,cond_false,cond_true,hs]
  show GivesN SL 20 26 [.str s.1] (.int .i64 (Nm.check s.1.data.toList))
  rw [hnm]
  have hmax:s.1.size<9223372036854775808:=Nat.lt_of_le_of_lt s.2 (by decide)
  have hne:(s.1.toList==(bs []).toList)=false:=str_ne (by omega)
  have hgt:decide ((s.1.size:Int) > 40)=true:=by rw [decide_eq_true_iff]; omega
  have hR:∀ m,4<=m->∀ d out ownV own id,callN Ftab SL m d out ownV own id 50 [.str s.1]=some (.r,.tuple [.nilsl,.int .i64 3],own):=by
   refine yg (i:=i50) (ns nosL (by rfl)) rfl rfl (lb rfl) 3 fun m hm d out t hfr=>?_
   obtain ⟨m,rfl⟩:∃ q,m=q+2:=⟨m - 2,by omega⟩
   simp only [V2,Xb,i50] at hfr
   simp only [i50,V0,sevalprocAttr,hfr,strBin,hne,hgt,yo,lenV,resultI,zhy,List.mapM_nil,zio,zia]
   exact ⟨_,rfl,rfl⟩
  refine zh (i:=i26) hnone rfl rfl (lb rfl) 19 (by omega) zo fun m hm d out t hfr=>?_
  simp only [V2,Xb,i26] at hfr
  have c0:=hR m (by omega)
  simp only [i26,V0,sevalprocAttr,hfr,c0]
 ·intro m hm d out ownV own id
  refine gives_sum ?_ m (by omega) d out ownV own id
  unfold SL ptS S0
  simp only [show Nat.beq 26 6=false from rfl,show Nat.beq 26 26=true from rfl,zgo,cond_false,cond_true,hs]
end
section
section
variable {S:ySM}
theorem law_sums (hT:TabCl Ftab) (hSc:SumCl S) (hS:NoS S) (hSp:∀ args,S 36 args=none) (hSg:∀ args,S 20 args=none) {nm:ByteArray->Int} (hN:NmOK S nm) (hA:S 6 []=some (.bool true)) (s:Sv):∃ N,GivesN S N 4 [.agg s.c] (.bool true):=by
 obtain ⟨b,N0,hN0,hok⟩:=small_givesX hT hSc hS hSp hSg hN s
 have haw:=fun m (hm:1<=m) d out ownV own i=>gives_sum (F:=Ftab) hA m hm d out ownV own i
 cases b
 ·refine ⟨N0+4,zh (i:=i4) (ns hS (by rfl)) rfl rfl (lb rfl) (N0+3) (by omega) zn fun m hm d out t hfr=>?_⟩
  simp only [V2,Xb,i4,Sv.c] at hfr
  have c0:=hN0 m (by omega)
  have ca:=haw m (by omega)
  simp only [Sv.c] at c0
  simp only [i4,V0,sevalprocAttr,hfr,c0,ca]
 have hv:=hok rfl
 obtain ⟨_,_,hft,hpa⟩:=Yc hv.few
 obtain ⟨N1,hN1⟩:=Yv (P:=fun i m=>∀ f,s.ft.l[i]?=some f->SumAt S m s i f) (List.range s.ft.l.length) fun i hi=>by
  obtain ⟨N,hN⟩:=sum_at hS hv (zf0 (zht.1 hi))
  exact ⟨N,fun m hm f hf=>by
   rw [zf0 (zht.1 hi)] at hf
   cases hf
   exact hN m hm⟩
 refine ⟨N0+N1+1400,zh (i:=i4) (ns hS (by rfl)) rfl rfl (lb rfl) (N0+N1+1399) (by omega) zn fun m hm d out t hfr=>?_⟩
 simp only [V2,Xb,i4,Sv.c] at hfr
 have c0:=hN0 m (by omega)
 have ca:=haw m (by omega)
 have c1:=fun d out ownV own id k=>Zu hS k m (by omega) d out ownV own id
 simp only [Sv.c,zf] at c0 c1
 have hlf:=s.ft.few
 simp only [i4,V0,sevalprocAttr,hfr,c0]
 refine zd (fun jj st=>∃ (i:Nat) (R:yLO),s.ft.l.length - i<=jj/\i<=s.ft.l.length/\st.own=.cells s.c::R/\Slots 70 st.t [(1,.ptrM d 0 0),(3,iv i)]) s.ft.l.length (by omega) ⟨0,_,by omega,by omega,rfl,by simp only [V0,sevalprocAttr,hfr,zg4]⟩ ?_
 clear hfr
 rintro jj ⟨t,own⟩ KA ⟨i,R,hjj,hi,ho,hfr⟩ hnA heA hrA
 dsimp only at ho hfr
 subst ho
 simp only [V3] at hfr
 by_cases h:i<s.ft.l.length
 ·have hx:s.ft.l[i]?=some s.ft.l[i]:=zf0 h
  have hmem:s.ft.l[i]∈s.ft.l:=zgt h
  generalize s.ft.l[i]=f at hx hmem
  have hrd:rdN (s.ft.l.flatMap Ft.c) (i*5) 5=some [.int .i64 f.id,.int .i64 f.kind,.int .i64 f.cls,.str f.name.1,f.parts.v]:=(zb Ft.c_len 0 5 hx (by omega)).trans rfl
  have hw:wrapI .i64 ((i:Int)+1)=((i+1:Nat):Int):=we
  have gE:∀ (a x:IObj) (r:yLO),(a::(R++x::r))[R.length+1]?=some x:=fun a x r=>by
   rw [zgc,YI]
  have sE:∀ (a x v:IObj) (r:yLO),(a::(R++x::r)).set (R.length+1) v=a::(R++v::r):=fun a x v r=>by
   rw [zim,YJ]
  obtain ⟨n,cA,hn0,hn3⟩:=hN1 i (zht.2 h) m (by omega) f hx
  simp only [Sv.c] at cA
  by_cases h3:shapeI f.kind=3
  ·obtain ⟨a,b,q1,q2,w1,w2,rfl,ha,hb,hab,s1,s2,cw1,cw2,cA1,cA2⟩:=hn3 h3
   simp only [Sv.c] at cw1 cw2
   have e3:(shapeI f.kind != 3)=false:=by rw [h3]; rfl
   have hd0:∀ (vis:List Nat) (a:IObj) (l:yLO),(hide vis (R.length+3+1) (a::l))[0]?=some a:=fun vis a l=>by
    rw [zw]
    simp
   have hd1:∀ (vis:List Nat) (a x:IObj) (r:yLO),(hide vis (R.length+3+1) (a::(R++x::r)))[R.length+1]?=some x:=fun vis a x r=>by
    rw [zw,gE]
    simp
   have d1:decide (a+b<1)=false:=by simp; omega
   have d2:decide (a<1)=false:=by simp; omega
   have d3:decide (b<0)=false:=by simp; omega
   have ew:wrapI .i64 (a+b)=a+b:=zA (by omega) (by omega)
   have e4:(a+b != a+b)=false:=by simp
   simp only [V0,sevalprocAttr,hfr,h,za s.ft h,hrd,gE,sE,c1,cA,e3,hd0,hd1,zaz,s1,s2,cw1,cw2,cA1,cA2,Sv.c]
   refine ⟨by simp [comm],?_⟩
   simp only [V0,sevalprocAttr,hfr,d1,d2,d3,ew,e4,hw]
   exact hnA _ (s.ft.l.length - (i+1)) (by omega) ⟨i+1,_,by omega,by omega,rfl,by simp only [V0,sevalprocAttr,hfr,hw]⟩
  ·obtain rfl:=hn0 h3
   have e3:(shapeI f.kind != 3)=true:=by simpa using h3
   have e0:((0:Int) != 0)=false:=rfl
   simp only [V0,sevalprocAttr,hfr,h,za s.ft h,hrd,gE,sE,c1,cA,e3,e0,hw,Sv.c]
   exact hnA _ (s.ft.l.length - (i+1)) (by omega) ⟨i+1,_,by omega,by omega,rfl,by simp only [V0,sevalprocAttr,hfr,hw]⟩
 ·simp only [V0,sevalprocAttr,hfr,h,Sv.c]
  refine heA _ _ ?_
  simp only [V0,sevalprocAttr,hfr,ca]
end
theorem sums_call (W:World) (ht:Gl.Tab W) (hm:MaxOk W) (s:Sv) (v:Value) (hv:VR noPl W (.agg s.c) v):Calls Tryz.prog 4 #[v] W fun e W'=>e=.returned (.bool true)/\Below W.heap.size W W':=by
 obtain ⟨N,hN⟩:=law_sums tab_cl sumclL nosL (fun args=>sl_none (by decide) (by decide) args) (fun args=>sl_none (by decide) (by decide) args) nmL aw_sum s
 have h:=run_calls y4 tab_ok (W:=W) (sumL ht hm) (hN N (zf7 _) 0 (fun _=>[]) [] [] 0) (args':=[v]) (VRs.nil.cons hv)
 refine h.mono ?_
 rintro e W' ⟨y,β',rfl,hy,hb⟩
 obtain rfl:=ZM hy
 exact ⟨rfl,hb⟩
end
end Go.Proofs.YtdacpmgnhkmnkaaGreatDoor
end
