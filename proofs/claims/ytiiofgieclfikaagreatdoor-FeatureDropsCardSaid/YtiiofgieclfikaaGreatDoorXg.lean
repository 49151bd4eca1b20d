/-
  A part of the proof: the small machine, its simulation and its walks.
-/
import Derived.Test.YtiiofgieclfikaaGreatDoorXb
import Derived.Test.YtiiofgieclfikaaGreatDoorXe
import Derived.Test.YtiiofgieclfikaaGreatDoorXf
set_option linter.unusedVariables false
set_option linter.unusedSimpArgs false
set_option maxRecDepth 1000000
set_option maxHeartbeats 3200000
section
namespace Go.Proofs.YtiiofgieclfikaaGreatDoor
open Go Go.RowKit
section
def GivesN (S:ySM) (N:Nat) (f:FuncId) (args:List IV) (v:IV):Prop:=∀ m,N<=m->∀ d out ownV own id,callN Ftab S m d out ownV own id f args=some (.r,v,own)
theorem Yc (a b:IV):rep [a,b] 3=[a,b,a,b,a,b]:=zck rfl rfl
theorem zag (a b:IV):rep [a,b] 4=[a,b,a,b,a,b,a,b]:=zck rfl rfl
def nearP (p:Pt):Bool:=!(decide (p.x < -2097152)||decide (2097152<p.x)||decide (p.y < -2097152)||decide (2097152<p.y))
noncomputable def twI (a b c:Pt):Int:=wrapI .i64 (wrapI .i64 (wrapI .i64 (b.x - a.x)*wrapI .i64 (c.y - a.y)) - wrapI .i64 (wrapI .i64 (b.y - a.y)*wrapI .i64 (c.x - a.x)))
section
variable {S:ySM}
theorem zbi (hS:NoS S) (a b c:Pt):GivesN S 2 104 [.agg a.c,.agg b.c,.agg c.c] (.int .i64 (twI a b c)):=by
 refine zj (i:=i104) (ns hS (by rfl)) rfl rfl (lb rfl) 1 (by omega) zy fun m hm d out t hfr=>?_
 simp only [V2,Nat.reduceAdd,i104,Pt.c] at hfr
 simp only [i104,V0,sevalprocAttr,hfr,twI]
theorem at_before (hS:NoS S) (a b:Pt):GivesN S 2 148 [.agg a.c,.agg b.c] (.bool (decide (a.x<b.x)||(a.x==b.x&&decide (a.y<b.y)))):=by
 refine zj (i:=i148) (ns hS (by rfl)) rfl rfl (lb rfl) 1 (by omega) zx fun m hm d out t hfr=>?_
 simp only [V2,Nat.reduceAdd,i148,Pt.c] at hfr
 cases h1:decide (a.x<b.x)
 ·cases h2:a.x==b.x
  ·simp only [i148,V0,sevalprocAttr,hfr,h1,h2,zde,zcw]
  ·simp only [i148,V0,sevalprocAttr,hfr,h1,h2,zde,zds]
 ·simp only [i148,V0,sevalprocAttr,hfr,h1,zdm]
theorem at_lower (hS:NoS S) (a b:Pt):GivesN S 2 126 [.agg a.c,.agg b.c] (.bool (decide (b.y<a.y)||(b.y==a.y&&decide (b.x<a.x)))):=by
 refine zj (i:=i126) (ns hS (by rfl)) rfl rfl (lb rfl) 1 (by omega) zx fun m hm d out t hfr=>?_
 simp only [V2,Nat.reduceAdd,i126,Pt.c] at hfr
 cases h1:decide (b.y<a.y)
 ·cases h2:b.y==a.y
  ·simp only [i126,V0,sevalprocAttr,hfr,h1,h2,zde,zcw]
  ·simp only [i126,V0,sevalprocAttr,hfr,h1,h2,zde,zds]
 ·simp only [i126,V0,sevalprocAttr,hfr,h1,zdm]
theorem zan (hS:NoS S) (l:List Pt) (hl:l.length<=1000):GivesN S (l.length+4) 103 [.slC (l.flatMap Pt.c) l.length 2 true] (.bool (l.all nearP)):=by
 refine zj (i:=i103) (ns hS (by rfl)) rfl rfl (lb rfl) (l.length+3) (by omega) zx fun m hm d out t hfr=>?_
 simp only [V2,Nat.reduceAdd,i103] at hfr
 have hE:∀ x:Pt,x.c=[.int .i64 x.x,.int .i64 x.y]:=fun x=>rfl
 simp only [i103,V0,sevalprocAttr,hfr]
 refine zb (fun jj st=>∃ (i:Nat) (O:yLO),l.length - i<=jj/\i<=l.length/\(l.take i).all nearP=true/\st.own=O/\Slots 30 st.t [(5,.slC (l.flatMap Pt.c) l.length 2 true),(6,iv (l.length:Nat)),(7,iv i)]) l.length (by omega) ⟨0,[],by omega,by omega,by simp,rfl,by simp only [V0,sevalprocAttr,hfr,zcp]⟩ ?_
 rintro jj ⟨t,own⟩ K ⟨i,O,hjj,hi,ha,ho,hfr⟩ hn he hr
 dsimp only at ho hfr
 subst ho
 simp only [V3] at hfr
 by_cases h:i<l.length
 ·have hx:l[i]?=some l[i]:=zb7 h
  have hmem:l[i]∈l:=zdj h
  generalize l[i]=x at hx hmem
  have hrd:rdN (l.flatMap Pt.c) (i*2) 2=some [.int .i64 x.x,.int .i64 x.y]:=(zc (sz:=2) (fun _=>rfl) 0 2 hx (by omega)).trans rfl
  have hw:wrapI .i64 ((i:Int)+1)=((i+1:Nat):Int):=we
  have fin:nearP x=false->l.all nearP=false:=fun hf=>by
   rw [List.all_eq_false]
   exact ⟨x,hmem,by rw [hf]; decide⟩
  cases h1:decide (x.x < -2097152)
  ·cases h2:decide (2097152<x.x)
   ·cases h3:decide (x.y < -2097152)
    ·cases h4:decide (2097152<x.y)
     ·simp only [V0,sevalprocAttr,hfr,h,z7,hrd,gt_iff_lt,h1,h2,h3,h4,hw]
      refine hn _ (l.length - (i+1)) (by omega) ⟨i+1,_,by omega,by omega,?_,rfl,by simp only [V0,sevalprocAttr,hfr,h1,h2,h3,h4,hw]⟩
      rw [zd1,hx,Option.toList_some,List.all_append,ha]
      simp [nearP,h1,h2,h3,h4]
     ·simp only [V0,sevalprocAttr,hfr,h,z7,hrd,gt_iff_lt,h1,h2,h3,h4]
      refine hr _ ?_
      simp only [V0,sevalprocAttr,hfr,fin (by simp [nearP,h1,h2,h3,h4])]
    ·simp only [V0,sevalprocAttr,hfr,h,z7,hrd,gt_iff_lt,h1,h2,h3]
     refine hr _ ?_
     simp only [V0,sevalprocAttr,hfr,fin (by simp [nearP,h1,h2,h3])]
   ·simp only [V0,sevalprocAttr,hfr,h,z7,hrd,gt_iff_lt,h1,h2]
    refine hr _ ?_
    simp only [V0,sevalprocAttr,hfr,fin (by simp [nearP,h1,h2])]
  ·simp only [V0,sevalprocAttr,hfr,h,z7,hrd,gt_iff_lt,h1]
   refine hr _ ?_
   simp only [V0,sevalprocAttr,hfr,fin (by simp [nearP,h1])]
 ·simp only [V0,sevalprocAttr,hfr,h]
  refine he _ _ ?_
  have hall:l.all nearP=true:=by rw [← zcr (l:=l) (i:=i) (by omega)]; exact ha
  simp only [V0,sevalprocAttr,hfr,hall]
noncomputable def twG (a b c:Pt):Int:=bif [a,b,c].all nearP then twI a b c else 0
theorem at_twiceG (hS:NoS S) (a b c:Pt):GivesN S 8 147 [.agg a.c,.agg b.c,.agg c.c] (.int .i64 (twG a b c)):=by
 refine zj (i:=i147) (ns hS (by rfl)) rfl rfl (lb rfl) (7) (by omega) zy fun m hm d out t hfr=>?_
 simp only [V2,Nat.reduceAdd,i147,Pt.c] at hfr
 have c0:=fun d out ownV own i=>zan hS [a,b,c] (by simp) m (by simp; omega) d out ownV own i
 simp only [zcs,zdo,Pt.c,zcu,zc4,zg,zcc,zci,zcq,Nat.reduceAdd] at c0
 have c1:=zbi hS a b c m (by omega)
 simp only [Pt.c,zg] at c1
 unfold twG
 cases hb:[a,b,c].all nearP
 ·simp only [hb] at c0
  simp only [i147,V0,sevalprocAttr,hfr,Yc,c0,c1,cond_false]
 ·simp only [hb] at c0
  simp only [i147,V0,sevalprocAttr,hfr,Yc,c0,c1,cond_true]
noncomputable def sideI (a b c:Pt):Int:=bif decide (0<twG a b c) then 1 else bif decide (twG a b c<0) then -1 else 0
theorem at_side (hS:NoS S) (a b c:Pt):GivesN S 10 123 [.agg a.c,.agg b.c,.agg c.c] (.int .i64 (sideI a b c)):=by
 refine zj (i:=i123) (ns hS (by rfl)) rfl rfl (lb rfl) (9) (by omega) zy fun m hm d out t hfr=>?_
 simp only [V2,Nat.reduceAdd,i123,Pt.c] at hfr
 have c1:=at_twiceG hS a b c m (by omega)
 simp only [Pt.c,zg] at c1
 unfold sideI
 generalize twG a b c=w at c1
 cases h1:decide (0<w)
 ·cases h2:decide (w<0)
  ·simp only [i123,V0,sevalprocAttr,hfr,c1,gt_iff_lt,h1,h2,cond_false]
  ·simp only [i123,V0,sevalprocAttr,hfr,c1,gt_iff_lt,h1,h2,cond_false,cond_true]
 ·simp only [i123,V0,sevalprocAttr,hfr,c1,gt_iff_lt,h1,cond_true]
def mnI (a b:Int):Int:=if b<a then b else a
def mxI (a b:Int):Int:=if a<b then b else a
noncomputable def onI (a b p:Pt):Bool:=([a,b,p].all nearP&&twI a b p==0)&&(decide (mnI a.x b.x<=p.x)&&(decide (p.x<=mxI a.x b.x)&&(decide (mnI a.y b.y<=p.y)&&decide (p.y<=mxI a.y b.y))))
theorem at_on (hS:NoS S) (a b p:Pt):GivesN S 8 85 [.agg a.c,.agg b.c,.agg p.c] (.bool (onI a b p)):=by
 refine zj (i:=i85) (ns hS (by rfl)) rfl rfl (lb rfl) (7) (by omega) zx fun m hm d out t hfr=>?_
 simp only [V2,Nat.reduceAdd,i85,Pt.c] at hfr
 have c0:=fun d out ownV own i=>zan hS [a,b,p] (by simp) m (by simp; omega) d out ownV own i
 simp only [zcs,zdo,Pt.c,zcu,zc4,zg,zcc,zci,zcq,Nat.reduceAdd] at c0
 have c1:=zbi hS a b p m (by omega)
 simp only [Pt.c,zg] at c1
 unfold onI
 have hmn:∀ a b:Int,(if b<a then b else a)=mnI a b:=fun _ _=>rfl
 have hmx:∀ a b:Int,(if a<b then b else a)=mxI a b:=fun _ _=>rfl
 cases hb:[a,b,p].all nearP
 ·simp only [hb] at c0
  simp only [i85,V0,sevalprocAttr,hfr,Yc,c0,c1,zcw]
 ·simp only [hb] at c0
  have hbne:∀ z:Int,(z != 0)=!(z==0):=fun z=>rfl
  cases h0:twI a b p==0
  ·simp only [i85,V0,sevalprocAttr,hfr,Yc,c0,c1,hbne,h0,zdt,zcw]
  ·cases h1:decide (mnI a.x b.x<=p.x)
   ·simp only [i85,V0,sevalprocAttr,hfr,Yc,c0,c1,hbne,h0,hmn,hmx,gt_iff_lt,h1,zdt,zcw]
   ·cases h2:decide (p.x<=mxI a.x b.x)
    ·simp only [i85,V0,sevalprocAttr,hfr,Yc,c0,c1,hbne,h0,hmn,hmx,gt_iff_lt,h1,h2,zdt,zcw]
    ·cases h3:decide (mnI a.y b.y<=p.y)
     ·simp only [i85,V0,sevalprocAttr,hfr,Yc,c0,c1,hbne,h0,hmn,hmx,gt_iff_lt,h1,h2,h3,zdt,zcw]
     ·simp only [i85,V0,sevalprocAttr,hfr,Yc,c0,c1,hbne,h0,hmn,hmx,gt_iff_lt,h1,h2,h3]
end
end
section
theorem yf (a b c d:Int):eqvs [1,1] [.int .i64 a,.int .i64 b] [.int .i64 c,.int .i64 d]=some ((a==c)&&(b==d)):=by
 simp only [eqvs,eqv]
 cases h1:a==c <;> cases h2:b==d <;> simp [h1,h2]
def ptE (a b:Pt):Bool:=(a.x==b.x)&&(a.y==b.y)
def bfP (a b:Pt):Bool:=decide (a.x<b.x)||(a.x==b.x&&decide (a.y<b.y))
def lwP (a b:Pt):Bool:=decide (b.y<a.y)||(b.y==a.y&&decide (b.x<a.x))
def swP (a b:Pt):Pt × Pt:=bif bfP b a then (b,a) else (a,b)
def sharedI (a b c d:Pt):Int :=
 let f:=bif bfP (swP a b).1 (swP c d).1 then (swP c d).1 else (swP a b).1
 let l:=bif bfP (swP c d).2 (swP a b).2 then (swP c d).2 else (swP a b).2
 bif ptE f l then 1 else bif bfP f l then 2 else 0
section
variable {S:ySM}
theorem at_shared (hS:NoS S) (a b c d:Pt):GivesN S 4 124 [.agg a.c,.agg b.c,.agg c.c,.agg d.c] (.int .i64 (sharedI a b c d)):=by
 refine zj (i:=i124) (ns hS (by rfl)) rfl rfl (lb rfl) (3) (by omega) zy fun m hm dd out t hfr=>?_
 simp only [V2,Nat.reduceAdd,i124,Pt.c] at hfr
 have cb:∀ (u v:Pt) dd out ownV own i,callN Ftab S m dd out ownV own i 148 [.agg [.int .i64 u.x,.int .i64 u.y],.agg [.int .i64 v.x,.int .i64 v.y]]=some (.r,.bool (bfP u v),own):=fun u v dd out ownV own i=>at_before hS u v m (by omega) dd out ownV own i
 unfold sharedI
 obtain ⟨p1,p2,hp,hs1⟩:∃ p1 p2:Pt,swP a b=(p1,p2)/\True:=⟨_,_,rfl,trivial⟩
 obtain ⟨q1,q2,hq,hs2⟩:∃ q1 q2:Pt,swP c d=(q1,q2)/\True:=⟨_,_,rfl,trivial⟩
 simp only [hp,hq]
 have fin:∀ (K:yKM) (t:List IV),Slots 39 t [(4,.ptrM dd 0 0),(5,.ptrM dd 1 0),(6,.ptrM dd 2 0),(7,.ptrM dd 3 0)] ->
   (∀ t' O',Slots 39 t' [(8,.int .i64 (let f:=bif bfP p1 q1 then q1 else p1; let l:=bif bfP q2 p2 then q2 else p2; bif ptE f l then 1 else bif bfP f l then 2 else 0))]->K .ret ⟨t',O'⟩) ->
   Ex (callN Ftab S m) dd out m (i124.body.sub [1,1,1]) K ⟨t,.cells [.int .i64 p1.x,.int .i64 p1.y]::.cells [.int .i64 p2.x,.int .i64 p2.y]::.cells [.int .i64 q1.x,.int .i64 q1.y]::.cells [.int .i64 q2.x,.int .i64 q2.y]::[.free,.free]⟩:=by
  intro K t hfr hK
  simp only [zd,zh] at hfr
  simp only [i124,IC.sub,V0,sevalprocAttr,hfr]
  refine ⟨by simp [comm],?_⟩
  cases h1:bfP p1 q1 <;> cases h2:bfP q2 p2
  ·cases h3:ptE p1 p2
   ·cases h4:bfP p1 p2
    ·have h3':=h3
     unfold ptE at h3'
     simp only [V0,sevalprocAttr,hfr,cb,h1,h2,h4,yf,h3',zc7]
     exact hK _ _ (by simp only [V0,sevalprocAttr,hfr,h1,h2,h3,h4,cond_true,cond_false])
    ·have h3':=h3
     unfold ptE at h3'
     simp only [V0,sevalprocAttr,hfr,cb,h1,h2,h4,yf,h3',zc7]
     exact hK _ _ (by simp only [V0,sevalprocAttr,hfr,h1,h2,h3,h4,cond_true,cond_false])
   ·have h3':=h3
    unfold ptE at h3'
    simp only [V0,sevalprocAttr,hfr,cb,h1,h2,yf,h3',zc7]
    exact hK _ _ (by simp only [V0,sevalprocAttr,hfr,h1,h2,h3,cond_true,cond_false])
  ·cases h3:ptE p1 q2
   ·cases h4:bfP p1 q2
    ·have h3':=h3
     unfold ptE at h3'
     simp only [V0,sevalprocAttr,hfr,cb,h1,h2,h4,yf,h3',zc7]
     exact hK _ _ (by simp only [V0,sevalprocAttr,hfr,h1,h2,h3,h4,cond_true,cond_false])
    ·have h3':=h3
     unfold ptE at h3'
     simp only [V0,sevalprocAttr,hfr,cb,h1,h2,h4,yf,h3',zc7]
     exact hK _ _ (by simp only [V0,sevalprocAttr,hfr,h1,h2,h3,h4,cond_true,cond_false])
   ·have h3':=h3
    unfold ptE at h3'
    simp only [V0,sevalprocAttr,hfr,cb,h1,h2,yf,h3',zc7]
    exact hK _ _ (by simp only [V0,sevalprocAttr,hfr,h1,h2,h3,cond_true,cond_false])
  ·cases h3:ptE q1 p2
   ·cases h4:bfP q1 p2
    ·have h3':=h3
     unfold ptE at h3'
     simp only [V0,sevalprocAttr,hfr,cb,h1,h2,h4,yf,h3',zc7]
     exact hK _ _ (by simp only [V0,sevalprocAttr,hfr,h1,h2,h3,h4,cond_true,cond_false])
    ·have h3':=h3
     unfold ptE at h3'
     simp only [V0,sevalprocAttr,hfr,cb,h1,h2,h4,yf,h3',zc7]
     exact hK _ _ (by simp only [V0,sevalprocAttr,hfr,h1,h2,h3,h4,cond_true,cond_false])
   ·have h3':=h3
    unfold ptE at h3'
    simp only [V0,sevalprocAttr,hfr,cb,h1,h2,yf,h3',zc7]
    exact hK _ _ (by simp only [V0,sevalprocAttr,hfr,h1,h2,h3,cond_true,cond_false])
  ·cases h3:ptE q1 q2
   ·cases h4:bfP q1 q2
    ·have h3':=h3
     unfold ptE at h3'
     simp only [V0,sevalprocAttr,hfr,cb,h1,h2,h4,yf,h3',zc7]
     exact hK _ _ (by simp only [V0,sevalprocAttr,hfr,h1,h2,h3,h4,cond_true,cond_false])
    ·have h3':=h3
     unfold ptE at h3'
     simp only [V0,sevalprocAttr,hfr,cb,h1,h2,h4,yf,h3',zc7]
     exact hK _ _ (by simp only [V0,sevalprocAttr,hfr,h1,h2,h3,h4,cond_true,cond_false])
   ·have h3':=h3
    unfold ptE at h3'
    simp only [V0,sevalprocAttr,hfr,cb,h1,h2,yf,h3',zc7]
    exact hK _ _ (by simp only [V0,sevalprocAttr,hfr,h1,h2,h3,cond_true,cond_false])
 have hsw:∀ u v:Pt,swP u v=bif bfP v u then (v,u) else (u,v):=fun _ _=>rfl
 rw [show i124.body=.seq (i124.body.sub [0]) (.seq (i124.body.sub [1,0]) (.seq (i124.body.sub [1,1,0]) (i124.body.sub [1,1,1]))) from rfl]
 generalize hB:i124.body.sub [1,1,1]=B at fin ⊢
 rw [hsw] at hp hq
 cases h1:bfP b a <;> cases h2:bfP d c
 ·rw [h1] at hp
  rw [h2] at hq
  simp only [cond_true,cond_false,zdv] at hp hq
  obtain ⟨rfl,rfl⟩:=hp
  obtain ⟨rfl,rfl⟩:=hq
  simp only [i124,IC.sub,V0,sevalprocAttr,hfr,cb,h1,h2]
  refine fin _ _ (by simp only [V0,sevalprocAttr,hfr]) fun t' O' ht=>?_
  simp only [zd,zh] at ht
  simp only [V0,sevalprocAttr,ht]
 ·rw [h1] at hp
  rw [h2] at hq
  simp only [cond_true,cond_false,zdv] at hp hq
  obtain ⟨rfl,rfl⟩:=hp
  obtain ⟨rfl,rfl⟩:=hq
  simp only [i124,IC.sub,V0,sevalprocAttr,hfr,cb,h1,h2]
  refine fin _ _ (by simp only [V0,sevalprocAttr,hfr]) fun t' O' ht=>?_
  simp only [zd,zh] at ht
  simp only [V0,sevalprocAttr,ht]
 ·rw [h1] at hp
  rw [h2] at hq
  simp only [cond_true,cond_false,zdv] at hp hq
  obtain ⟨rfl,rfl⟩:=hp
  obtain ⟨rfl,rfl⟩:=hq
  simp only [i124,IC.sub,V0,sevalprocAttr,hfr,cb,h1,h2]
  refine fin _ _ (by simp only [V0,sevalprocAttr,hfr]) fun t' O' ht=>?_
  simp only [zd,zh] at ht
  simp only [V0,sevalprocAttr,ht]
 ·rw [h1] at hp
  rw [h2] at hq
  simp only [cond_true,cond_false,zdv] at hp hq
  obtain ⟨rfl,rfl⟩:=hp
  obtain ⟨rfl,rfl⟩:=hq
  simp only [i124,IC.sub,V0,sevalprocAttr,hfr,cb,h1,h2]
  refine fin _ _ (by simp only [V0,sevalprocAttr,hfr]) fun t' O' ht=>?_
  simp only [zd,zh] at ht
  simp only [V0,sevalprocAttr,ht]
noncomputable def meetI (a b c d:Pt):Int:=bif [a,b,c,d].all nearP then (bif ptE a b then (bif onI c d a then 1 else 0) else bif ptE c d then (bif onI a b c then 1 else 0) else
 bif sideI a b c==0&&sideI a b d==0 then sharedI a b c d else
 bif decide (wrapI .i64 (sideI a b c*sideI a b d)<=0)&&decide (wrapI .i64 (sideI c d a*sideI c d b)<=0) then 1 else 0) else 0
theorem at_meet (hS:NoS S) (a b c d:Pt):GivesN S 14 102 [.agg a.c,.agg b.c,.agg c.c,.agg d.c] (.int .i64 (meetI a b c d)):=by
 refine zj (i:=i102) (ns hS (by rfl)) rfl rfl (lb rfl) (13) (by omega) zy fun m hm dd out t hfr=>?_
 simp only [V2,Nat.reduceAdd,i102,Pt.c] at hfr
 have c0:=fun dd out ownV own i=>zan hS [a,b,c,d] (by simp) m (by simp; omega) dd out ownV own i
 simp only [zcs,zdo,Pt.c,zcu,zc4,zg,zcc,zci,zcq,Nat.reduceAdd] at c0
 have cs:∀ (u v w:Pt) dd out ownV own i,callN Ftab S m dd out ownV own i 123 [.agg [.int .i64 u.x,.int .i64 u.y],.agg [.int .i64 v.x,.int .i64 v.y],.agg [.int .i64 w.x,.int .i64 w.y]]=some (.r,.int .i64 (sideI u v w),own):=fun u v w dd out ownV own i=>at_side hS u v w m (by omega) dd out ownV own i
 have co:∀ (u v w:Pt) dd out ownV own i,callN Ftab S m dd out ownV own i 85 [.agg [.int .i64 u.x,.int .i64 u.y],.agg [.int .i64 v.x,.int .i64 v.y],.agg [.int .i64 w.x,.int .i64 w.y]]=some (.r,.bool (onI u v w),own):=fun u v w dd out ownV own i=>at_on hS u v w m (by omega) dd out ownV own i
 have ch:=fun dd out ownV own i=>at_shared hS a b c d m (by omega) dd out ownV own i
 simp only [Pt.c,zg] at ch
 unfold meetI
 cases hb:[a,b,c,d].all nearP
 ·simp only [hb] at c0
  simp only [i102,V0,sevalprocAttr,hfr,zag,c0,cond_false]
 ·simp only [hb] at c0
  cases h1:ptE a b
  ·have h1':(a.x==b.x&&a.y==b.y)=false:=h1
   cases h2:ptE c d
   ·have h2':(c.x==d.x&&c.y==d.y)=false:=h2
    cases h3:sideI a b c==0
    ·cases h5:decide (wrapI .i64 (sideI a b c*sideI a b d)<=0)
     ·simp only [i102,V0,sevalprocAttr,hfr,zag,c0,cs,co,ch,yf,h1',h2',h3,h5,zc7,cond_false,cond_true,zcw]
      refine ⟨by simp [comm],?_⟩
      simp only [V0,sevalprocAttr,hfr]
     ·cases h6:decide (wrapI .i64 (sideI c d a*sideI c d b)<=0)
      ·simp only [i102,V0,sevalprocAttr,hfr,zag,c0,cs,co,ch,yf,h1',h2',h3,h5,h6,zc7,cond_false,cond_true,zcw]
       refine ⟨by simp [comm],?_⟩
       simp only [V0,sevalprocAttr,hfr]
      ·simp only [i102,V0,sevalprocAttr,hfr,zag,c0,cs,co,ch,yf,h1',h2',h3,h5,h6,zc7,cond_false,cond_true,zcw]
       refine ⟨by simp [comm],?_⟩
       simp only [V0,sevalprocAttr,hfr]
    ·cases h4:sideI a b d==0
     ·cases h5:decide (wrapI .i64 (sideI a b c*sideI a b d)<=0)
      ·simp only [i102,V0,sevalprocAttr,hfr,zag,c0,cs,co,ch,yf,h1',h2',h3,h4,h5,zc7,cond_false,cond_true,zcw,zdt]
       refine ⟨by simp [comm],?_⟩
       simp only [V0,sevalprocAttr,hfr]
      ·cases h6:decide (wrapI .i64 (sideI c d a*sideI c d b)<=0)
       ·simp only [i102,V0,sevalprocAttr,hfr,zag,c0,cs,co,ch,yf,h1',h2',h3,h4,h5,h6,zc7,cond_false,cond_true,zcw,zdt]
        refine ⟨by simp [comm],?_⟩
        simp only [V0,sevalprocAttr,hfr]
       ·simp only [i102,V0,sevalprocAttr,hfr,zag,c0,cs,co,ch,yf,h1',h2',h3,h4,h5,h6,zc7,cond_false,cond_true,zcw,zdt]
        refine ⟨by simp [comm],?_⟩
        simp only [V0,sevalprocAttr,hfr]
     ·simp only [i102,V0,sevalprocAttr,hfr,zag,c0,cs,co,ch,yf,h1',h2',h3,h4,zc7,cond_false,cond_true]
   ·have h2':(c.x==d.x&&c.y==d.y)=true:=h2
    cases h3:onI a b c
    ·simp only [i102,V0,sevalprocAttr,hfr,zag,c0,cs,co,ch,yf,h1',h2',h3,zc7,cond_false,cond_true]
    ·simp only [i102,V0,sevalprocAttr,hfr,zag,c0,cs,co,ch,yf,h1',h2',h3,zc7,cond_false,cond_true]
  ·have h1':(a.x==b.x&&a.y==b.y)=true:=h1
   cases h3:onI c d a
   ·simp only [i102,V0,sevalprocAttr,hfr,zag,c0,cs,co,ch,yf,h1',h3,zc7,cond_false,cond_true]
   ·simp only [i102,V0,sevalprocAttr,hfr,zag,c0,cs,co,ch,yf,h1',h3,zc7,cond_false,cond_true]
noncomputable def lessP (o a b:Pt):Bool:=([o,a,b].all nearP&&!ptE a o&&!ptE b o)&&(bif (lwP o a != lwP o b) then lwP o b else decide (0<twI o a b))
theorem at_less (hS:NoS S) (o a b:Pt):GivesN S 8 108 [.agg o.c,.agg a.c,.agg b.c] (.bool (lessP o a b)):=by
 refine zj (i:=i108) (ns hS (by rfl)) rfl rfl (lb rfl) (7) (by omega) zx fun m hm d out t hfr=>?_
 simp only [V2,Nat.reduceAdd,i108,Pt.c] at hfr
 have c0:=fun d out ownV own i=>zan hS [o,a,b] (by simp) m (by simp; omega) d out ownV own i
 simp only [zcs,zdo,Pt.c,zcu,zc4,zg,zcc,zci,zcq,Nat.reduceAdd] at c0
 have cl:∀ (u v:Pt) d out ownV own i,callN Ftab S m d out ownV own i 126 [.agg [.int .i64 u.x,.int .i64 u.y],.agg [.int .i64 v.x,.int .i64 v.y]]=some (.r,.bool (lwP u v),own):=fun u v d out ownV own i=>at_lower hS u v m (by omega) d out ownV own i
 have ct:=zbi hS o a b m (by omega)
 simp only [Pt.c,zg] at ct
 unfold lessP
 cases hb:[o,a,b].all nearP
 ·simp only [hb] at c0
  simp only [i108,V0,sevalprocAttr,hfr,Yc,c0,zcw]
 ·simp only [hb] at c0
  cases h1:ptE a o
  ·have h1':(a.x==o.x&&a.y==o.y)=false:=h1
   cases h2:ptE b o
   ·have h2':(b.x==o.x&&b.y==o.y)=false:=h2
    have q1:(true != (false==false))=false:=rfl
    have q2:(true != (false==true))=true:=rfl
    have q3:(true != (true==false))=true:=rfl
    have q4:(true != (true==true))=false:=rfl
    have r1:(false != false)=false:=rfl
    have r2:(false != true)=true:=rfl
    have r3:(true != false)=true:=rfl
    have r4:(true != true)=false:=rfl
    cases h3:lwP o a <;> cases h4:lwP o b
    ·simp only [i108,V0,sevalprocAttr,hfr,Yc,c0,cl,ct,yf,h1',h2',h3,h4,zc7,eqbI,e_eqb]
     refine ⟨by simp [comm],?_⟩
     simp only [V0,sevalprocAttr,hfr,cl,ct,h3,h4,gt_iff_lt,q1,q2,q3,q4,r1,r2,r3,r4,cond_true,cond_false]
    ·simp only [i108,V0,sevalprocAttr,hfr,Yc,c0,cl,ct,yf,h1',h2',h3,h4,zc7,eqbI,e_eqb]
     refine ⟨by simp [comm],?_⟩
     simp only [V0,sevalprocAttr,hfr,cl,ct,h3,h4,gt_iff_lt,q1,q2,q3,q4,r1,r2,r3,r4,cond_true,cond_false]
    ·simp only [i108,V0,sevalprocAttr,hfr,Yc,c0,cl,ct,yf,h1',h2',h3,h4,zc7,eqbI,e_eqb]
     refine ⟨by simp [comm],?_⟩
     simp only [V0,sevalprocAttr,hfr,cl,ct,h3,h4,gt_iff_lt,q1,q2,q3,q4,r1,r2,r3,r4,cond_true,cond_false]
    ·simp only [i108,V0,sevalprocAttr,hfr,Yc,c0,cl,ct,yf,h1',h2',h3,h4,zc7,eqbI,e_eqb]
     refine ⟨by simp [comm],?_⟩
     simp only [V0,sevalprocAttr,hfr,cl,ct,h3,h4,gt_iff_lt,q1,q2,q3,q4,r1,r2,r3,r4,cond_true,cond_false]
   ·have h2':(b.x==o.x&&b.y==o.y)=true:=h2
    simp only [i108,V0,sevalprocAttr,hfr,Yc,c0,cl,ct,yf,h1',h2',zc7,zdt,zcw]
  ·have h1':(a.x==o.x&&a.y==o.y)=true:=h1
   simp only [i108,V0,sevalprocAttr,hfr,Yc,c0,cl,ct,yf,h1',zc7,zdt,zcw]
end
end
section
def ascL:List Int->Bool
 | a::b::t=>decide (a<b)&&ascL (b::t)
 | _=>true
def ascTo (l:List Int) (k:Nat):Prop:=∀ i x y,i+1<k->l[i]?=some x->l[i+1]?=some y->x<y
theorem y6:∀ {l:List Int},ascL l=true↔ascTo l l.length
 | []=>by simp [ascL,ascTo]
 | [a]=>by simp [ascL,ascTo]
 | a::b::t=>by
  have ih:=y6 (l:=b::t)
  simp only [ascL,zcm,decide_eq_true_eq,ih]
  constructor
  ·rintro ⟨h1,h2⟩ i x y hi hx hy
   cases i with
   | zero =>
    simp only [zc2,zcg,zca,zcq] at hx hy
    subst hx hy
    exact h1
   | succ i =>
    simp only [zcg] at hx hy
    exact h2 i x y (by simp only [zcc] at hi ⊢; omega) hx hy
  ·intro h
   refine ⟨h 0 a b (by simp) rfl rfl,fun i x y hi hx hy=>h (i+1) x y (by simp only [zcc] at hi ⊢; omega) ?_ ?_⟩
   ·simpa using hx
   ·simpa using hy
def fIdx {α:Type} (q:α->Bool) (l:List α):Int:=match l.findIdx? q with
 | some i=>(i:Int)
 | none=>-1
theorem zao {α:Type} {q:α->Bool} {l:List α} {i:Nat} {x:α} (hx:l[i]?=some x) (hq:q x=true) (ha:(l.take i).findIdx? q=none):fIdx q l=(i:Int):=by
 have h:l.findIdx? q=some i:=by
  rw [zdq]
  obtain ⟨h1,rfl⟩:=zb6.1 hx
  refine ⟨h1,hq,fun j hj=>?_⟩
  have hm:=List.findIdx?_eq_none_iff.1 ha (l[j]'(by omega)) (by
   rw [List.mem_iff_getElem]
   exact ⟨j,by simp; omega,by simp⟩)
  simp [hm]
 simp only [fIdx,h]
theorem YD {α:Type} {q:α->Bool} {l:List α}:decide (0<=fIdx q l)=l.any q:=by
 unfold fIdx
 cases h:l.findIdx? q with
 | none =>
  have:=List.findIdx?_eq_none_iff.1 h
  have h2:l.any q=false:=by
   rw [List.any_eq_false]
   intro x hx
   simp [this x hx]
  simp [h2]
 | some i =>
  obtain ⟨h1,h2,_⟩:=zdq.1 h
  have h3:l.any q=true:=List.any_eq_true.2 ⟨_,zdj h1,h2⟩
  rw [h3]
  simp only [decide_eq_true_eq]
  omega
section
variable {S:ySM}
theorem at_asc (hS:NoS S) (l:SlOf 1 intc):GivesN S (l.l.length+4) 55 [l.v] (.bool (ascL l.l)):=by
 refine zj (i:=i55) (ns hS (by rfl)) rfl rfl (lb rfl) (l.l.length+3) (by omega) zx fun m hm d out t hfr=>?_
 simp only [V2,Nat.reduceAdd,i55] at hfr
 have hlf:=l.few
 simp only [i55,V0,sevalprocAttr,hfr]
 refine zb (fun jj st=>∃ (i:Nat) (O:yLO),l.l.length - i<=jj/\(1<=i/\i<=l.l.length+1)/\ascTo l.l i/\st.own=O/\Slots 20 st.t [(0,l.v),(3,iv i)]) l.l.length (by omega) ⟨1,[],by omega,by omega,fun i x y h _ _=>by omega,rfl,by simp only [V0,sevalprocAttr,hfr,Int.natCast_one]⟩ ?_
 rintro jj ⟨t,own⟩ K ⟨i,O,hjj,hi,ha,ho,hfr⟩ hn he hr
 dsimp only at ho hfr
 subst ho
 simp only [V3] at hfr
 by_cases h:i<l.l.length
 ·obtain ⟨x,hx⟩:=gx (l:=l.l) (i:=i) h
  have h0:i - 1<l.l.length:=by omega
  obtain ⟨y,hy⟩:=gx (l:=l.l) (i:=i - 1) h0
  have hrx:rdN (l.l.flatMap intc) (i*1) 1=some [.int .i64 x]:=zc zi 0 1 hx (by omega)
  have hry:rdN (l.l.flatMap intc) ((i - 1)*1) 1=some [.int .i64 y]:=zc zi 0 1 hy (by omega)
  have hw:wrapI .i64 ((i:Int)+1)=((i+1:Nat):Int):=we
  have hv:wrapI .i64 ((i:Int) - 1)=((i - 1:Nat):Int):=we
  by_cases hb:x<=y
  ·simp only [V0,sevalprocAttr,hfr,h,za l h,za l h0,hrx,hry,hv,ge_iff_le,hb]
   refine ⟨by simp [comm],?_⟩
   simp only [V0,sevalprocAttr,hfr]
   refine hr _ ?_
   have hf:ascL l.l=false:=by
    rw [← Bool.not_eq_true]
    intro hc
    have:=y6.1 hc (i - 1) y x (by omega) hy (by rw [show i - 1+1=i by omega]; exact hx)
    omega
   simp only [V0,sevalprocAttr,hfr,hf]
  ·simp only [V0,sevalprocAttr,hfr,h,za l h,za l h0,hrx,hry,hv,ge_iff_le,hb]
   refine ⟨by simp [comm],?_⟩
   simp only [V0,sevalprocAttr,hfr,hw]
   refine hn _ (l.l.length - (i+1)) (by omega) ⟨i+1,_,by omega,by omega,?_,rfl,by simp only [V0,sevalprocAttr,hfr,hw]⟩
   intro j u v hj hu hv
   by_cases hj2:j+1<i
   ·exact ha j u v hj2 hu hv
   ·have e:j=i - 1:=by omega
    subst e
    rw [show i - 1+1=i by omega] at hv
    rw [hy] at hu
    rw [hx] at hv
    cases hu
    cases hv
    omega
 ·simp only [V0,sevalprocAttr,hfr,h]
  refine he _ _ ?_
  have hf:ascL l.l=true:=y6.2 fun j u v hj hu hv=>ha j u v (by omega) hu hv
  simp only [V0,sevalprocAttr,hfr,hf]
theorem at_idxI (hS:NoS S) (l:SlOf 1 intc) {α':Type} (q:Int->Bool) (gf:FuncId) (caps:List IV) (Nc:Nat) (hc:∀ m,Nc<=m->∀ d out ownV own id (x:Int),callN Ftab S m d out ownV own id gf (iv x::caps)=some (.r,.bool (q x),own)) :
  GivesN S (Nc+l.l.length+4) 71 [l.v,.fn gf [] caps] (.int .i64 (fIdx q l.l)):=by
 refine zj (i:=i71) (ns hS (by rfl)) rfl rfl (lb rfl) (Nc+l.l.length+3) (by omega) zy fun m hm d out t hfr=>?_
 simp only [V2,Nat.reduceAdd,i71] at hfr
 simp only [i71,V0,sevalprocAttr,hfr]
 have hlf:=l.few
 refine zb (fun jj st=>∃ (i:Nat) (O:yLO),l.l.length - i<=jj/\i<=l.l.length/\(l.l.take i).findIdx? q=none/\st.own=O/\Slots 19 st.t [(0,l.v),(1,.fn gf [] caps),(7,iv (l.l.length:Nat)),(8,iv i)]) l.l.length (by omega) ⟨0,[],by omega,by omega,by simp,rfl,by simp only [V0,sevalprocAttr,hfr,zcp]⟩ ?_
 rintro jj ⟨t,own⟩ K ⟨i,O,hjj,hi,ha,ho,hfr⟩ hn he hr
 dsimp only at ho hfr
 subst ho
 simp only [V3] at hfr
 by_cases h:i<l.l.length
 ·obtain ⟨x,hx⟩:=gx (l:=l.l) (i:=i) h
  have hrd:rdN (l.l.flatMap intc) (i*1) 1=some [.int .i64 x]:=zc zi 0 1 hx (by omega)
  have hw:wrapI .i64 ((i:Int)+1)=((i+1:Nat):Int):=we
  have cc:=fun d out ownV own id=>hc m (by omega) d out ownV own id x
  simp only [zg,Pt.c] at cc
  cases hq:q x
  ·simp only [V0,sevalprocAttr,hfr,h,za l h,hrd,cc,hq,hw]
   refine hn _ (l.l.length - (i+1)) (by omega) ⟨i+1,_,by omega,by omega,?_,rfl,by simp only [V0,sevalprocAttr,hfr,cc,hq,hw]⟩
   rw [zd1,hx,Option.toList_some,List.findIdx?_append,ha]
   simp [List.findIdx?_cons,hq]
  ·simp only [V0,sevalprocAttr,hfr,h,za l h,hrd,cc,hq]
   refine hr _ ?_
   simp only [V0,sevalprocAttr,hfr,zao hx hq ha]
 ·simp only [V0,sevalprocAttr,hfr,h]
  refine he _ _ ?_
  have hall:fIdx q l.l=-1:=by
   rw [zcr (by omega)] at ha
   simp only [fIdx,ha]
  simp only [V0,sevalprocAttr,hfr,hall]
theorem at_conI (hS:NoS S) (l:SlOf 1 intc) (q:Int->Bool) (gf:FuncId) (caps:List IV) (Nc:Nat) (hc:∀ m,Nc<=m->∀ d out ownV own id (x:Int),callN Ftab S m d out ownV own id gf (iv x::caps)=some (.r,.bool (q x),own)) :
  GivesN S (Nc+l.l.length+6) 46 [l.v,.fn gf [] caps] (.bool (l.l.any q)):=by
 refine zj (i:=i46) (ns hS (by rfl)) rfl rfl (lb rfl) (Nc+l.l.length+5) (by omega) zx fun m hm d out t hfr=>?_
 simp only [V2,Nat.reduceAdd,i46] at hfr
 have cc:=fun d out ownV own id=>at_idxI hS l (α':=Unit) q gf caps Nc hc m (by omega) d out ownV own id
 have hz:decide (0<=fIdx q l.l)=l.l.any q:=YD
 simp only [i46,V0,sevalprocAttr,hfr,cc,ge_iff_le,hz]
theorem at_idxP (hS:NoS S) (l:SlOf 2 Pt.c) {α':Type} (q:Pt->Bool) (gf:FuncId) (caps:List IV) (Nc:Nat) (hc:∀ m,Nc<=m->∀ d out ownV own id (x:Pt),callN Ftab S m d out ownV own id gf (.agg x.c::caps)=some (.r,.bool (q x),own)) :
  GivesN S (Nc+l.l.length+4) 98 [l.v,.fn gf [] caps] (.int .i64 (fIdx q l.l)):=by
 refine zj (i:=i98) (ns hS (by rfl)) rfl rfl (lb rfl) (Nc+l.l.length+3) (by omega) zy fun m hm d out t hfr=>?_
 simp only [V2,Nat.reduceAdd,i98] at hfr
 simp only [i98,V0,sevalprocAttr,hfr]
 have hlf:=l.few
 refine zb (fun jj st=>∃ (i:Nat) (O:yLO),l.l.length - i<=jj/\i<=l.l.length/\(l.l.take i).findIdx? q=none/\st.own=O/\Slots 19 st.t [(0,l.v),(1,.fn gf [] caps),(7,iv (l.l.length:Nat)),(8,iv i)]) l.l.length (by omega) ⟨0,[],by omega,by omega,by simp,rfl,by simp only [V0,sevalprocAttr,hfr,zcp]⟩ ?_
 rintro jj ⟨t,own⟩ K ⟨i,O,hjj,hi,ha,ho,hfr⟩ hn he hr
 dsimp only at ho hfr
 subst ho
 simp only [V3] at hfr
 by_cases h:i<l.l.length
 ·obtain ⟨x,hx⟩:=gx (l:=l.l) (i:=i) h
  have hrd:rdN (l.l.flatMap Pt.c) (i*2) 2=some [.int .i64 x.x,.int .i64 x.y]:=(zc (sz:=2) (fun _=>rfl) 0 2 hx (by omega)).trans rfl
  have hw:wrapI .i64 ((i:Int)+1)=((i+1:Nat):Int):=we
  have cc:=fun d out ownV own id=>hc m (by omega) d out ownV own id x
  simp only [zg,Pt.c] at cc
  cases hq:q x
  ·simp only [V0,sevalprocAttr,hfr,h,za l h,hrd,cc,hq,hw]
   refine hn _ (l.l.length - (i+1)) (by omega) ⟨i+1,_,by omega,by omega,?_,rfl,by simp only [V0,sevalprocAttr,hfr,cc,hq,hw]⟩
   rw [zd1,hx,Option.toList_some,List.findIdx?_append,ha]
   simp [List.findIdx?_cons,hq]
  ·simp only [V0,sevalprocAttr,hfr,h,za l h,hrd,cc,hq]
   refine hr _ ?_
   simp only [V0,sevalprocAttr,hfr,zao hx hq ha]
 ·simp only [V0,sevalprocAttr,hfr,h]
  refine he _ _ ?_
  have hall:fIdx q l.l=-1:=by
   rw [zcr (by omega)] at ha
   simp only [fIdx,ha]
  simp only [V0,sevalprocAttr,hfr,hall]
theorem at_conP (hS:NoS S) (l:SlOf 2 Pt.c) (q:Pt->Bool) (gf:FuncId) (caps:List IV) (Nc:Nat) (hc:∀ m,Nc<=m->∀ d out ownV own id (x:Pt),callN Ftab S m d out ownV own id gf (.agg x.c::caps)=some (.r,.bool (q x),own)) :
  GivesN S (Nc+l.l.length+6) 76 [l.v,.fn gf [] caps] (.bool (l.l.any q)):=by
 refine zj (i:=i76) (ns hS (by rfl)) rfl rfl (lb rfl) (Nc+l.l.length+5) (by omega) zx fun m hm d out t hfr=>?_
 simp only [V2,Nat.reduceAdd,i76] at hfr
 have cc:=fun d out ownV own id=>at_idxP hS l (α':=Unit) q gf caps Nc hc m (by omega) d out ownV own id
 have hz:decide (0<=fIdx q l.l)=l.l.any q:=YD
 simp only [i76,V0,sevalprocAttr,hfr,cc,ge_iff_le,hz]
def badId (n:Int):Bool:=decide (n<1)||decide (1073741824<n)
theorem at_num1 (hS:NoS S) (x:Int):GivesN S 2 74 [iv x] (.bool (badId x)):=by
 refine zj (i:=i74) (ns hS (by rfl)) rfl rfl (lb rfl) (1) (by omega) zx fun m hm d out t hfr=>?_
 simp only [V2,Nat.reduceAdd,i74] at hfr
 unfold badId
 cases h1:decide (x<1)
 ·simp only [i74,V0,sevalprocAttr,hfr,gt_iff_lt,h1,zde]
 ·simp only [i74,V0,sevalprocAttr,hfr,gt_iff_lt,h1,zdm]
theorem at_num (hS:NoS S) (l:SlOf 1 intc):GivesN S (l.l.length+10) 56 [l.v] (.bool (!(l.l.any badId))):=by
 refine zj (i:=i56) (ns hS (by rfl)) rfl rfl (lb rfl) (l.l.length+9) (by omega) zx fun m hm d out t hfr=>?_
 simp only [V2,Nat.reduceAdd,i56] at hfr
 have cc:=fun d out ownV own id=>at_conI hS l badId 74 [] 2 (fun m hm d out ownV own id x=>at_num1 hS x m hm d out ownV own id) m (by omega) d out ownV own id
 simp only [i56,V0,sevalprocAttr,hfr,cc]
def badPt (p:Pt):Bool:=decide (p.x < -1048576)||(decide (1048576<p.x)||(decide (p.y < -1048576)||decide (1048576<p.y)))
theorem zbj (hS:NoS S) (p:Pt):GivesN S 2 75 [.agg p.c] (.bool (badPt p)):=by
 refine zj (i:=i75) (ns hS (by rfl)) rfl rfl (lb rfl) (1) (by omega) zx fun m hm d out t hfr=>?_
 simp only [V2,Nat.reduceAdd,i75,Pt.c] at hfr
 unfold badPt
 cases h1:decide (p.x < -1048576)
 ·cases h2:decide (1048576<p.x)
  ·cases h3:decide (p.y < -1048576)
   ·simp only [i75,V0,sevalprocAttr,hfr,gt_iff_lt,h1,h2,h3,zde]
   ·simp only [i75,V0,sevalprocAttr,hfr,gt_iff_lt,h1,h2,h3,zde,zdm]
  ·simp only [i75,V0,sevalprocAttr,hfr,gt_iff_lt,h1,h2,zde,zdm]
 ·simp only [i75,V0,sevalprocAttr,hfr,gt_iff_lt,h1,zdm]
end
end
section
section
variable {x y z:IObj} {O R:yLO}
theorem zR:(x::(O++y::R))[O.length+1]?=some y:=by simp
theorem zW:(x::(O++y::R)).set (O.length+1) z=x::(O++z::R):=by simp
end
theorem y7 {α:Type} {l:List α} {q:α->Bool} {i:Nat} {x:α} (hx:l[i]?=some x) (ha:(l.take i).any q=false) (hq:q x=false):(l.take (i+1)).any q=false:=by
 rw [zd1,hx,Option.toList_some,List.any_append,ha]
 simp [hq]
theorem ZM {α:Type} {l:List α} {q:α->Bool} {i:Nat} {x:α} (hx:l[i]?=some x) (hq:q x=true):l.any q=true:=List.any_eq_true.2 ⟨x,List.mem_of_getElem? hx,hq⟩
section
variable {S:ySM}
theorem at_index (hS:NoS S) (l:SlOf 1 intc) (n:Int):GivesN S (l.l.length+4) 53 [l.v,iv n] (.int .i64 (fIdx (fun x=>n==x) l.l)):=by
 refine zj (i:=i53) (ns hS (by rfl)) rfl rfl (lb rfl) (l.l.length+3) (by omega) zy fun m hm d out t hfr=>?_
 simp only [V2,Nat.reduceAdd,i53] at hfr
 simp only [i53,V0,sevalprocAttr,hfr]
 have hlf:=l.few
 refine zb (fun jj st=>∃ (i:Nat) (O:yLO),l.l.length - i<=jj/\i<=l.l.length/\(l.l.take i).findIdx? (fun x=>n==x)=none/\st.own=O/\Slots 19 st.t [(0,l.v),(1,iv n),(7,iv (l.l.length:Nat)),(8,iv i)]) l.l.length (by omega) ⟨0,[],by omega,by omega,by simp,rfl,by simp only [V0,sevalprocAttr,hfr,zcp]⟩ ?_
 rintro jj ⟨t,own⟩ K ⟨i,O,hjj,hi,ha,ho,hfr⟩ hn he hr
 dsimp only at ho hfr
 subst ho
 simp only [V3] at hfr
 by_cases h:i<l.l.length
 ·obtain ⟨x,hx⟩:=gx (l:=l.l) (i:=i) h
  have hrd:rdN (l.l.flatMap intc) (i*1) 1=some [.int .i64 x]:=zc zi 0 1 hx (by omega)
  have hw:wrapI .i64 ((i:Int)+1)=((i+1:Nat):Int):=we
  cases hq:n==x
  ·simp only [V0,sevalprocAttr,hfr,h,za l h,hrd,hq,hw]
   refine hn _ (l.l.length - (i+1)) (by omega) ⟨i+1,_,by omega,by omega,?_,rfl,by simp only [V0,sevalprocAttr,hfr,hq,hw]⟩
   rw [zd1,hx,Option.toList_some,List.findIdx?_append,ha]
   simp [List.findIdx?_cons,hq]
  ·simp only [V0,sevalprocAttr,hfr,h,za l h,hrd,hq]
   refine hr _ ?_
   simp only [V0,sevalprocAttr,hfr,zao (q:=fun x=>n==x) hx hq ha]
 ·simp only [V0,sevalprocAttr,hfr,h]
  refine he _ _ ?_
  have hall:fIdx (fun x=>n==x) l.l=-1:=by
   rw [zcr (by omega)] at ha
   simp only [fIdx,ha]
  simp only [V0,sevalprocAttr,hfr,hall]
theorem Y9 (hS:NoS S) (l:SlOf 1 intc) (n:Int):GivesN S (l.l.length+6) 34 [l.v,iv n] (.bool (l.l.any fun x=>n==x)):=by
 refine zj (i:=i34) (ns hS (by rfl)) rfl rfl (lb rfl) (l.l.length+5) (by omega) zx fun m hm d out t hfr=>?_
 simp only [V2,Nat.reduceAdd,i34] at hfr
 have cc:=at_index hS l n m (by omega)
 have hz:decide (0<=fIdx (fun x=>n==x) l.l)=l.l.any fun x=>n==x:=YD
 simp only [zg] at cc
 simp only [i34,V0,sevalprocAttr,hfr,cc,ge_iff_le,hz]
def placedB (p:Pn):Bool:=!(p.ns.l.any fun n=>badPt n.at')&&!(p.as.l.any fun a=>a.via.l.any badPt)
theorem at_placed (hS:NoS S) (p:Pn) (V:Nat) (hV:∀ a∈p.as.l,a.via.l.length<=V):GivesN S (p.ns.l.length+p.as.l.length+V+20) 57 [.agg p.c] (.bool (placedB p)):=by
 refine zj (i:=i57) (ns hS (by rfl)) rfl rfl (lb rfl) (p.ns.l.length+p.as.l.length+V+19) (by omega) zx fun m hm d out t hfr=>?_
 simp only [V2,Nat.reduceAdd,i57,Pn.c] at hfr
 have hnf:=p.ns.few
 have haf:=p.as.few
 simp only [i57,V0,sevalprocAttr,hfr]
 refine zb (fun jj st=>∃ (i:Nat) (O:yLO),p.ns.l.length - i<=jj/\i<=p.ns.l.length/\(p.ns.l.take i).any (fun n=>badPt n.at')=false/\st.own=.cells [p.ns.v,p.as.v,p.fs.v]::O/\Slots 32 st.t [(1,.ptrM d 0 0),(3,.fn 75 [] []),(9,p.ns.v),(10,iv (p.ns.l.length:Nat)),(11,iv i)]) p.ns.l.length (by omega) ⟨0,[],by omega,by omega,by simp,rfl,by simp only [V0,sevalprocAttr,hfr,zcp]⟩ ?_
 rintro jj ⟨t,own⟩ K ⟨i,O,hjj,hi,ha,ho,hfr⟩ hn he hr
 dsimp only at ho hfr
 subst ho
 simp only [V3] at hfr
 by_cases h:i<p.ns.l.length
 ·obtain ⟨x,hx⟩:=gx (l:=p.ns.l) (i:=i) h
  have hrd:rdN (p.ns.l.flatMap Nd.c) (i*3) 3=some [.int .i64 x.id,.int .i64 x.at'.x,.int .i64 x.at'.y]:=(zc Nd.c_len 0 3 hx (by omega)).trans rfl
  have hw:wrapI .i64 ((i:Int)+1)=((i+1:Nat):Int):=we
  have cc:=fun d out ownV own id=>zbj hS x.at' m (by omega) d out ownV own id
  simp only [zg,Pt.c] at cc
  cases hq:badPt x.at'
  ·simp only [V0,sevalprocAttr,hfr,h,za p.ns h,hrd,cc,hq,hw,zR,zW]
   exact hn _ (p.ns.l.length - (i+1)) (by omega) ⟨i+1,_,by omega,by omega,y7 hx ha hq,rfl,by simp only [V0,sevalprocAttr,hfr,cc,hq,hw]⟩
  ·simp only [V0,sevalprocAttr,hfr,h,za p.ns h,hrd,cc,hq,zR,zW]
   refine hr _ ?_
   have hf:placedB p=false:=by
    unfold placedB
    rw [ZM (q:=fun n=>badPt n.at') hx hq]
    rfl
   simp only [V0,sevalprocAttr,hfr,hf]
 ·have h1:p.ns.l.any (fun n=>badPt n.at')=false:=by
   rw [← zcr (l:=p.ns.l) (i:=i) (by omega)]
   exact ha
  simp only [V0,sevalprocAttr,hfr,h]
  refine he _ _ ?_
  simp only [V0,sevalprocAttr,hfr]
  refine zb (fun jj st=>∃ (i:Nat) (O:yLO),p.as.l.length - i<=jj/\i<=p.as.l.length/\(p.as.l.take i).any (fun a=>a.via.l.any badPt)=false/\st.own=.cells [p.ns.v,p.as.v,p.fs.v]::O/\Slots 32 st.t [(1,.ptrM d 0 0),(3,.fn 75 [] []),(21,p.as.v),(22,iv (p.as.l.length:Nat)),(23,iv i)]) p.as.l.length (by omega) ⟨0,O,by omega,by omega,by simp,rfl,by simp only [V0,sevalprocAttr,hfr,zcp]⟩ ?_
  clear ha hfr
  rintro jj ⟨t,own⟩ K2 ⟨i,O,hjj,hi,ha,ho,hfr⟩ hn he hr
  dsimp only at ho hfr
  subst ho
  simp only [V3] at hfr
  by_cases h:i<p.as.l.length
  ·have hx:p.as.l[i]?=some p.as.l[i]:=zb7 h
   have hm0:=hV _ (zdj h)
   generalize p.as.l[i]=x at hx hm0
   have hrd:rdN (p.as.l.flatMap Ac.c) (i*6) 6=some [.int .i64 x.id,.int .i64 x.fr,.int .i64 x.to,x.via.v,.int .i64 x.l,.int .i64 x.r]:=(zc Ac.c_len 0 6 hx (by omega)).trans rfl
   have hw:wrapI .i64 ((i:Int)+1)=((i+1:Nat):Int):=we
   have cc:=fun d out ownV own id=>at_conP hS x.via badPt 75 [] 2 (fun m hm d out ownV own id x=>zbj hS x m hm d out ownV own id) m (by omega) d out ownV own id
   cases hq:x.via.l.any badPt
   ·simp only [V0,sevalprocAttr,hfr,h,za p.as h,hrd,cc,hq,hw,zR,zW]
    exact hn _ (p.as.l.length - (i+1)) (by omega) ⟨i+1,_,by omega,by omega,y7 hx ha hq,rfl,by simp only [V0,sevalprocAttr,hfr,cc,hq,hw]⟩
   ·simp only [V0,sevalprocAttr,hfr,h,za p.as h,hrd,cc,hq,zR,zW]
    refine hr _ ?_
    have hf:placedB p=false:=by
     unfold placedB
     rw [ZM (q:=fun a=>a.via.l.any badPt) hx hq]
     simp
    simp only [V0,sevalprocAttr,hfr,hf]
  ·have h2:p.as.l.any (fun a=>a.via.l.any badPt)=false:=by
    rw [← zcr (l:=p.as.l) (i:=i) (by omega)]
    exact ha
   simp only [V0,sevalprocAttr,hfr,h]
   refine he _ _ ?_
   have hf:placedB p=true:=by
    unfold placedB
    rw [h1,h2]
    rfl
   simp only [V0,sevalprocAttr,hfr,hf]
end
end
section
section
variable {x y z w:IObj} {O R Q:yLO}
theorem pk_geti:(O++y::(R++z::Q))[O.length+(R.length+1)]?=some z:=by
 rw [zcb (by omega),show O.length+(R.length+1) - O.length=R.length+1 by omega,zcg]
 simp
theorem pk_seti:(O++y::(R++z::Q)).set (O.length+(R.length+1)) w=O++y::(R++w::Q):=by
 rw [zdl _ _ (by omega),show O.length+(R.length+1) - O.length=R.length+1 by omega,zd3]
 simp
theorem pk_get:(x::(O++y::(R++z::Q)))[O.length+(R.length+1)+1]?=some z:=by
 rw [zcg,zcb (by omega),show O.length+(R.length+1) - O.length=R.length+1 by omega,zcg]
 simp
theorem pk_set:(x::(O++y::(R++z::Q))).set (O.length+(R.length+1)+1) w=x::(O++y::(R++w::Q)):=by
 rw [zd3,zdl _ _ (by omega),show O.length+(R.length+1) - O.length=R.length+1 by omega,zd3]
 simp
end
theorem zbk {sz:Nat} {α:Type} {g:α->List IV} (hg:∀ a,(g a).length=sz) (q:SlOf sz g) {i:Nat} (h:i<q.l.length):∃ q2:SlOf sz g,q2.l=q.l.take i/\∀ (t:List IV) (x:Opd),ρ t x=.int .i64 (i:Int)->sliceI sz t q.v none (some x) none=some q2.v:=by
 have hh:∀ (cs:List IV) (n:Nat) (v:IV),Sl sz cs n v->i<n->∃ tight,∀ (t:List IV) (x:Opd),ρ t x=.int .i64 (i:Int)->sliceI sz t v none (some x) none=some (.slC (cs.take (i*sz)) i sz tight):=fun cs n v hs hi=>by
  cases hs with
  | nil=>omega
  | row cs n tight hl =>
   refine ⟨tight&&i==n,fun t x hx=>?_⟩
   simp only [sliceI,optI,hx,z8,zf,Option.isSome_none,zco,if_false]
   rw [if_pos ⟨⟨zcf _,by omega,Nat.zero_le _⟩,trivial⟩]
   simp
 obtain ⟨tight,h1⟩:=hh _ _ _ q.ok h
 have ht:(q.l.flatMap g).take (i*sz)=(q.l.take i).flatMap g:=by
  conv=>lhs; rw [← List.take_append_drop i q.l,List.flatMap_append]
  rw [List.take_left' (by rw [zu hg,zd2,Nat.min_eq_left (by omega)])]
 have hli:(q.l.take i).length=i:=by rw [zd2,Nat.min_eq_left (by omega)]
 refine ⟨⟨q.l.take i,.slC ((q.l.take i).flatMap g) i sz tight,by
  rw [hli]
  exact .row _ _ _ (by rw [zu hg,hli]),by have:=q.few; omega⟩,rfl,fun t x hx=>?_⟩
 rw [h1 t x hx,ht]
def hasI (l:List Int) (n:Int):Bool:=l.any fun x=>n==x
def dupPt (l:List Nd):Bool:=l.zipIdx.any fun ni=>(l.take ni.2).any fun m=>ptE ni.1.at' m.at'
def loose (nodes:List Int) (a:Ac):Bool:=!hasI nodes a.fr||!hasI nodes a.to
def offSide (fs:List Int) (f:Int):Bool:=f != 0&&!hasI fs f
def connE (p:Pn) (nodes:List Int):Int:=bif dupPt p.ns.l then 8 else bif p.as.l.any (loose nodes) then 7 else bif p.as.l.any (fun a=>offSide p.fs.l a.l||offSide p.fs.l a.r) then 12 else 0
section
variable {S:ySM}
theorem at_conn (hS:NoS S) (p:Pn) (q:SlOf 1 intc):GivesN S (p.ns.l.length+p.as.l.length+p.fs.l.length+q.l.length+20) 58 [.agg p.c,q.v] (.int .i64 (connE p q.l)):=by
 refine zj (i:=i58) (ns hS (by rfl)) rfl rfl (lb rfl) (p.ns.l.length+p.as.l.length+p.fs.l.length+q.l.length+19) (by omega) zy fun m hm d out t hfr=>?_
 simp only [V2,Nat.reduceAdd,i58,Pn.c] at hfr
 have hnf:=p.ns.few
 have haf:=p.as.few
 simp only [i58,V0,Nat.reduceLT,Nat.reduceAdd,Nat.reduceMul,Nat.reduceLeDiff,Nat.reduceEqDiff,reduceCtorEq,hfr]
 refine zb (fun jj st=>∃ (i:Nat) (O:yLO),p.ns.l.length - i<=jj/\i<=p.ns.l.length/\(p.ns.l.zipIdx.take i).any (fun ni=>(p.ns.l.take ni.2).any fun m=>ptE ni.1.at' m.at')=false/\st.own=.cells [p.ns.v,p.as.v,p.fs.v]::O/\Slots 85 st.t [(1,q.v),(2,.ptrM d 0 0),(16,p.ns.v),(17,iv (p.ns.l.length:Nat)),(18,iv i)]) p.ns.l.length (by omega) ⟨0,[],by omega,by omega,by simp,rfl,by simp only [V0,Nat.reduceLT,Nat.reduceAdd,Nat.reduceMul,Nat.reduceLeDiff,Nat.reduceEqDiff,reduceCtorEq,hfr,zcp]⟩ ?_
 rintro jj ⟨t,own⟩ KA ⟨i,O,hjj,hi,ha,ho,hfr⟩ hnA heA hrA
 dsimp only at ho hfr
 subst ho
 simp only [V3] at hfr
 by_cases h:i<p.ns.l.length
 ·obtain ⟨x,hx⟩:=gx (l:=p.ns.l) (i:=i) h
  have hxz:p.ns.l.zipIdx[i]?=some (x,i):=by rw [List.getElem?_zipIdx,hx]; simp
  have hrd:rdN (p.ns.l.flatMap Nd.c) (i*3) 3=some [.int .i64 x.id,.int .i64 x.at'.x,.int .i64 x.at'.y]:=(zc Nd.c_len 0 3 hx (by omega)).trans rfl
  have hw:wrapI .i64 ((i:Int)+1)=((i+1:Nat):Int):=we
  obtain ⟨q2,hq2,hsl⟩:=zbk Nd.c_len p.ns h
  have hq2l:q2.l.length=i:=by rw [hq2,zd2,Nat.min_eq_left (by omega)]
  simp only [V0,Nat.reduceLT,Nat.reduceAdd,Nat.reduceMul,Nat.reduceLeDiff,Nat.reduceEqDiff,reduceCtorEq,hfr,h,za p.ns h,hrd,zR,zW,ym,hsl]
  refine zb (fun jj st=>∃ (k:Nat) (R:yLO),q2.l.length - k<=jj/\k<=q2.l.length/\(q2.l.take k).any (fun m=>ptE x.at' m.at')=false/\st.own=.cells [p.ns.v,p.as.v,p.fs.v]::(O++.cells [.int .i64 x.id,.int .i64 x.at'.x,.int .i64 x.at'.y]::R)/\Slots 85 st.t [(1,q.v),(2,.ptrM d 0 0),(16,p.ns.v),(17,iv (p.ns.l.length:Nat)),(18,iv i),(6,.ptrM d (O.length+1) 0),(26,q2.v),(27,iv (q2.l.length:Nat)),(28,iv k)]) q2.l.length (by omega) ⟨0,_,by omega,by omega,by simp,rfl,by simp only [V0,Nat.reduceLT,Nat.reduceAdd,Nat.reduceMul,Nat.reduceLeDiff,Nat.reduceEqDiff,reduceCtorEq,hfr,zcp,hsl]⟩ ?_
  clear hfr
  rintro jj2 ⟨t,own⟩ KB ⟨k,R,hjk,hk,hb,ho,hfr⟩ hnB heB hrB
  dsimp only at ho hfr
  subst ho
  simp only [V3] at hfr
  by_cases h2:k<q2.l.length
  ·obtain ⟨y,hy⟩:=gx (l:=q2.l) (i:=k) h2
   have hry:rdN (q2.l.flatMap Nd.c) (k*3) 3=some [.int .i64 y.id,.int .i64 y.at'.x,.int .i64 y.at'.y]:=(zc Nd.c_len 0 3 hy (by omega)).trans rfl
   have hwk:wrapI .i64 ((k:Int)+1)=((k+1:Nat):Int):=we
   cases hq:ptE x.at' y.at'
   ·have hq':=hq
    unfold ptE at hq'
    simp only [V0,Nat.reduceLT,Nat.reduceAdd,Nat.reduceMul,Nat.reduceLeDiff,Nat.reduceEqDiff,reduceCtorEq,hfr,h2,za q2 h2,hry,zR,zW,pk_get,pk_set,pk_geti,pk_seti,yf,hq',zc7,hwk]
    exact hnB _ (q2.l.length - (k+1)) (by omega) ⟨k+1,_,by omega,by omega,y7 hy hb hq,rfl,by simp only [V0,Nat.reduceLT,Nat.reduceAdd,Nat.reduceMul,Nat.reduceLeDiff,Nat.reduceEqDiff,reduceCtorEq,hfr,hwk,hq',zR,pk_get,pk_geti,yf]⟩
   ·have hq':=hq
    unfold ptE at hq'
    simp only [V0,Nat.reduceLT,Nat.reduceAdd,Nat.reduceMul,Nat.reduceLeDiff,Nat.reduceEqDiff,reduceCtorEq,hfr,h2,za q2 h2,hry,zR,zW,pk_get,pk_set,pk_geti,pk_seti,yf,hq',zc7]
    refine hrB _ ?_
    simp only [V0,Nat.reduceLT,Nat.reduceAdd,Nat.reduceMul,Nat.reduceLeDiff,Nat.reduceEqDiff,reduceCtorEq,hfr]
    refine hrA _ ?_
    have hf:dupPt p.ns.l=true:=by
     refine ZM hxz ?_
     show (p.ns.l.take i).any (fun m=>ptE x.at' m.at')=true
     rw [← hq2]
     exact ZM (q:=fun m=>ptE x.at' m.at') hy hq
    simp only [V0,Nat.reduceLT,Nat.reduceAdd,Nat.reduceMul,Nat.reduceLeDiff,Nat.reduceEqDiff,reduceCtorEq,hfr,connE,hf,cond_true]
  ·simp only [V0,Nat.reduceLT,Nat.reduceAdd,Nat.reduceMul,Nat.reduceLeDiff,Nat.reduceEqDiff,reduceCtorEq,hfr,h2]
   refine heB _ _ ?_
   simp only [V0,Nat.reduceLT,Nat.reduceAdd,Nat.reduceMul,Nat.reduceLeDiff,Nat.reduceEqDiff,reduceCtorEq,hfr,hw]
   have hq0:(p.ns.l.take i).any (fun m=>ptE x.at' m.at')=false:=by
    rw [← hq2,← zcr (l:=q2.l) (i:=k) (by omega)]
    exact hb
   exact hnA _ (p.ns.l.length - (i+1)) (by omega) ⟨i+1,_,by omega,by omega,y7 hxz ha hq0,rfl,by simp only [V0,Nat.reduceLT,Nat.reduceAdd,Nat.reduceMul,Nat.reduceLeDiff,Nat.reduceEqDiff,reduceCtorEq,hfr,hw]⟩
 ·have hdup:dupPt p.ns.l=false:=by
   unfold dupPt
   rw [← zcr (l:=p.ns.l.zipIdx) (i:=i) (by rw [List.length_zipIdx]; omega)]
   exact ha
  simp only [V0,Nat.reduceLT,Nat.reduceAdd,Nat.reduceMul,Nat.reduceLeDiff,Nat.reduceEqDiff,reduceCtorEq,hfr,h]
  refine heA _ _ ?_
  simp only [V0,Nat.reduceLT,Nat.reduceAdd,Nat.reduceMul,Nat.reduceLeDiff,Nat.reduceEqDiff,reduceCtorEq,hfr]
  refine zb (fun jj st=>∃ (i:Nat) (O:yLO),p.as.l.length - i<=jj/\i<=p.as.l.length/\(p.as.l.take i).any (loose q.l)=false/\st.own=.cells [p.ns.v,p.as.v,p.fs.v]::O/\Slots 85 st.t [(1,q.v),(2,.ptrM d 0 0),(40,p.as.v),(41,iv (p.as.l.length:Nat)),(42,iv i)]) p.as.l.length (by omega) ⟨0,O,by omega,by omega,by simp,rfl,by simp only [V0,Nat.reduceLT,Nat.reduceAdd,Nat.reduceMul,Nat.reduceLeDiff,Nat.reduceEqDiff,reduceCtorEq,hfr,zcp]⟩ ?_
  clear hfr ha hnA heA hrA
  rintro jj ⟨t,own⟩ KA ⟨i,O,hjj,hi,ha,ho,hfr⟩ hnA heA hrA
  dsimp only at ho hfr
  subst ho
  simp only [V3] at hfr
  by_cases h:i<p.as.l.length
  ·obtain ⟨x,hx⟩:=gx (l:=p.as.l) (i:=i) h
   have hrd:rdN (p.as.l.flatMap Ac.c) (i*6) 6=some [.int .i64 x.id,.int .i64 x.fr,.int .i64 x.to,x.via.v,.int .i64 x.l,.int .i64 x.r]:=(zc Ac.c_len 0 6 hx (by omega)).trans rfl
   have hw:wrapI .i64 ((i:Int)+1)=((i+1:Nat):Int):=we
   have c1:∀ n dd oo ownV own id,callN Ftab S m dd oo ownV own id 34 [q.v,.int .i64 n]=some (.r,.bool (hasI q.l n),own):=fun n dd oo ownV own id=>Y9 hS q n m (by omega) dd oo ownV own id
   cases h1:hasI q.l x.fr
   ·simp only [V0,Nat.reduceLT,Nat.reduceAdd,Nat.reduceMul,Nat.reduceLeDiff,Nat.reduceEqDiff,reduceCtorEq,hfr,h,za p.as h,hrd,zR,zW,c1,h1]
    refine hrA _ ?_
    have hf:p.as.l.any (loose q.l)=true:=ZM hx (by simp [loose,h1])
    simp only [V0,Nat.reduceLT,Nat.reduceAdd,Nat.reduceMul,Nat.reduceLeDiff,Nat.reduceEqDiff,reduceCtorEq,hfr,connE,hdup,hf,cond_true,cond_false]
   ·cases h2:hasI q.l x.to
    ·simp only [V0,Nat.reduceLT,Nat.reduceAdd,Nat.reduceMul,Nat.reduceLeDiff,Nat.reduceEqDiff,reduceCtorEq,hfr,h,za p.as h,hrd,zR,zW,c1,h1,h2]
     refine hrA _ ?_
     have hf:p.as.l.any (loose q.l)=true:=ZM hx (by simp [loose,h2])
     simp only [V0,Nat.reduceLT,Nat.reduceAdd,Nat.reduceMul,Nat.reduceLeDiff,Nat.reduceEqDiff,reduceCtorEq,hfr,connE,hdup,hf,cond_true,cond_false]
    ·simp only [V0,Nat.reduceLT,Nat.reduceAdd,Nat.reduceMul,Nat.reduceLeDiff,Nat.reduceEqDiff,reduceCtorEq,hfr,h,za p.as h,hrd,zR,zW,c1,h1,h2,hw]
     exact hnA _ (p.as.l.length - (i+1)) (by omega) ⟨i+1,_,by omega,by omega,y7 hx ha (by simp [loose,h1,h2]),rfl,by simp only [V0,Nat.reduceLT,Nat.reduceAdd,Nat.reduceMul,Nat.reduceLeDiff,Nat.reduceEqDiff,reduceCtorEq,hfr,hw,c1,h1,h2]⟩
  ·have hlo:p.as.l.any (loose q.l)=false:=by
    rw [← zcr (l:=p.as.l) (i:=i) (by omega)]
    exact ha
   simp only [V0,Nat.reduceLT,Nat.reduceAdd,Nat.reduceMul,Nat.reduceLeDiff,Nat.reduceEqDiff,reduceCtorEq,hfr,h]
   refine heA _ _ ?_
   simp only [V0,Nat.reduceLT,Nat.reduceAdd,Nat.reduceMul,Nat.reduceLeDiff,Nat.reduceEqDiff,reduceCtorEq,hfr]
   refine zb (fun jj st=>∃ (i:Nat) (O:yLO),p.as.l.length - i<=jj/\i<=p.as.l.length/\(p.as.l.take i).any (fun a=>offSide p.fs.l a.l||offSide p.fs.l a.r)=false/\st.own=.cells [p.ns.v,p.as.v,p.fs.v]::O/\Slots 85 st.t [(2,.ptrM d 0 0),(60,p.as.v),(61,iv (p.as.l.length:Nat)),(62,iv i)]) p.as.l.length (by omega) ⟨0,O,by omega,by omega,by simp,rfl,by simp only [V0,Nat.reduceLT,Nat.reduceAdd,Nat.reduceMul,Nat.reduceLeDiff,Nat.reduceEqDiff,reduceCtorEq,hfr,zcp]⟩ ?_
   clear hfr ha hnA heA hrA
   rintro jj ⟨t,own⟩ KA ⟨i,O,hjj,hi,ha,ho,hfr⟩ hnA heA hrA
   dsimp only at ho hfr
   subst ho
   simp only [V3] at hfr
   by_cases h:i<p.as.l.length
   ·obtain ⟨x,hx⟩:=gx (l:=p.as.l) (i:=i) h
    have hrd:rdN (p.as.l.flatMap Ac.c) (i*6) 6=some [.int .i64 x.id,.int .i64 x.fr,.int .i64 x.to,x.via.v,.int .i64 x.l,.int .i64 x.r]:=(zc Ac.c_len 0 6 hx (by omega)).trans rfl
    have hw:wrapI .i64 ((i:Int)+1)=((i+1:Nat):Int):=we
    have c1:∀ n dd oo ownV own id,callN Ftab S m dd oo ownV own id 34 [p.fs.v,.int .i64 n]=some (.r,.bool (hasI p.fs.l n),own):=fun n dd oo ownV own id=>Y9 hS p.fs n m (by omega) dd oo ownV own id
    have hz2:rep [IV.int .i64 0] 2=[.int .i64 0,.int .i64 0]:=zck rfl rfl
    simp only [V0,Nat.reduceLT,Nat.reduceAdd,Nat.reduceMul,Nat.reduceLeDiff,Nat.reduceEqDiff,reduceCtorEq,hfr,h,za p.as h,hrd,zR,zW]
    refine zb (fun jj st=>∃ (k:Nat) (O:yLO),2 - k<=jj/\k<=2/\(1<=k->offSide p.fs.l x.l=false)/\(2<=k->offSide p.fs.l x.r=false)/\st.own=.cells [p.ns.v,p.as.v,p.fs.v]::O/\Slots 85 st.t [(2,.ptrM d 0 0),(60,p.as.v),(61,iv (p.as.l.length:Nat)),(62,iv i),(70,.agg [.int .i64 x.l,.int .i64 x.r]),(71,iv k)]) 2 (by omega) ⟨0,_,by omega,by omega,by omega,by omega,rfl,by simp only [V0,Nat.reduceLT,Nat.reduceAdd,Nat.reduceMul,Nat.reduceLeDiff,Nat.reduceEqDiff,reduceCtorEq,hfr,zcp]⟩ ?_
    clear hfr
    rintro jj2 ⟨t,own⟩ KB ⟨k,R,hjk,hk,hk1,hk2,ho,hfr⟩ hnB heB hrB
    dsimp only at ho hfr
    subst ho
    simp only [V3] at hfr
    have bad:∀ f:Int,f=x.l∨f=x.r->offSide p.fs.l f=true->p.as.l.any (fun a=>offSide p.fs.l a.l||offSide p.fs.l a.r)=true:=fun f hf h=>ZM (q:=fun a=>offSide p.fs.l a.l||offSide p.fs.l a.r) hx (by
     rcases hf with rfl | rfl <;> simp [h])
    have hbne:∀ z:Int,(z != 0)=!(z==0):=fun z=>rfl
    have hcase:k=0∨k=1∨k=2:=by omega
    rcases hcase with rfl | rfl | rfl
    ·have hlt:(((0:Nat):Int)<2)=True:=eq_true (by decide)
     have hw0:wrapI .i64 (((0:Nat):Int)+1)=((1:Nat):Int):=rfl
     have hn0:natI (.int .i64 ((0:Nat):Int))=some 0:=z8
     have h02:(0<2)=True:=eq_true (by decide)
     cases h1:x.l==0
     ·cases h2:hasI p.fs.l x.l
      ·simp only [V0,Nat.reduceLT,Nat.reduceAdd,Nat.reduceMul,Nat.reduceLeDiff,Nat.reduceEqDiff,reduceCtorEq,hfr,hlt,zD,e_index,hn0,h02,zdf,hbne,h1,c1,h2]
       refine hrB _ ?_
       simp only [V0,Nat.reduceLT,Nat.reduceAdd,Nat.reduceMul,Nat.reduceLeDiff,Nat.reduceEqDiff,reduceCtorEq,hfr]
       refine hrA _ ?_
       simp only [V0,Nat.reduceLT,Nat.reduceAdd,Nat.reduceMul,Nat.reduceLeDiff,Nat.reduceEqDiff,reduceCtorEq,hfr,connE,hdup,hlo,bad x.l (.inl rfl) (by simp [offSide,hbne,h1,h2]),cond_true,cond_false]
      ·simp only [V0,Nat.reduceLT,Nat.reduceAdd,Nat.reduceMul,Nat.reduceLeDiff,Nat.reduceEqDiff,reduceCtorEq,hfr,hlt,zD,e_index,hn0,h02,zdf,hbne,h1,c1,h2,hw0]
       exact hnB _ 1 (by omega) ⟨1,_,by omega,by omega,fun _=>by simp [offSide,h2],by omega,rfl,by simp only [V0,Nat.reduceLT,Nat.reduceAdd,Nat.reduceMul,Nat.reduceLeDiff,Nat.reduceEqDiff,reduceCtorEq,hfr,hlt,hbne,h1,h2,c1,hw0]⟩
     ·simp only [V0,Nat.reduceLT,Nat.reduceAdd,Nat.reduceMul,Nat.reduceLeDiff,Nat.reduceEqDiff,reduceCtorEq,hfr,hlt,zD,e_index,hn0,h02,zdf,hbne,h1,c1,hw0]
      exact hnB _ 1 (by omega) ⟨1,_,by omega,by omega,fun _=>by simp [offSide,hbne,h1],by omega,rfl,by simp only [V0,Nat.reduceLT,Nat.reduceAdd,Nat.reduceMul,Nat.reduceLeDiff,Nat.reduceEqDiff,reduceCtorEq,hfr,hlt,hbne,h1,c1,hw0]⟩
    ·have hlt:(((1:Nat):Int)<2)=True:=eq_true (by decide)
     have hw0:wrapI .i64 (((1:Nat):Int)+1)=((2:Nat):Int):=rfl
     have hn0:natI (.int .i64 ((1:Nat):Int))=some 1:=z8
     have h02:(1<2)=True:=eq_true (by decide)
     cases h1:x.r==0
     ·cases h2:hasI p.fs.l x.r
      ·simp only [V0,Nat.reduceLT,Nat.reduceAdd,Nat.reduceMul,Nat.reduceLeDiff,Nat.reduceEqDiff,reduceCtorEq,hfr,hlt,zD,e_index,hn0,h02,zdu,hbne,h1,c1,h2]
       refine hrB _ ?_
       simp only [V0,Nat.reduceLT,Nat.reduceAdd,Nat.reduceMul,Nat.reduceLeDiff,Nat.reduceEqDiff,reduceCtorEq,hfr]
       refine hrA _ ?_
       simp only [V0,Nat.reduceLT,Nat.reduceAdd,Nat.reduceMul,Nat.reduceLeDiff,Nat.reduceEqDiff,reduceCtorEq,hfr,connE,hdup,hlo,bad x.r (.inr rfl) (by simp [offSide,hbne,h1,h2]),cond_true,cond_false]
      ·simp only [V0,Nat.reduceLT,Nat.reduceAdd,Nat.reduceMul,Nat.reduceLeDiff,Nat.reduceEqDiff,reduceCtorEq,hfr,hlt,zD,e_index,hn0,h02,zdu,hbne,h1,c1,h2,hw0]
       exact hnB _ 0 (by omega) ⟨2,_,by omega,by omega,fun _=>hk1 (by omega),fun _=>by simp [offSide,h2],rfl,by simp only [V0,Nat.reduceLT,Nat.reduceAdd,Nat.reduceMul,Nat.reduceLeDiff,Nat.reduceEqDiff,reduceCtorEq,hfr,hlt,hbne,h1,h2,c1,hw0]⟩
     ·simp only [V0,Nat.reduceLT,Nat.reduceAdd,Nat.reduceMul,Nat.reduceLeDiff,Nat.reduceEqDiff,reduceCtorEq,hfr,hlt,zD,e_index,hn0,h02,zdu,hbne,h1,c1,hw0]
      exact hnB _ 0 (by omega) ⟨2,_,by omega,by omega,fun _=>hk1 (by omega),fun _=>by simp [offSide,hbne,h1],rfl,by simp only [V0,Nat.reduceLT,Nat.reduceAdd,Nat.reduceMul,Nat.reduceLeDiff,Nat.reduceEqDiff,reduceCtorEq,hfr,hlt,hbne,h1,c1,hw0]⟩
    ·have hlt:(((2:Nat):Int)<2)=False:=eq_false (by decide)
     simp only [V0,Nat.reduceLT,Nat.reduceAdd,Nat.reduceMul,Nat.reduceLeDiff,Nat.reduceEqDiff,reduceCtorEq,hfr,hlt]
     refine heB _ _ ?_
     simp only [V0,Nat.reduceLT,Nat.reduceAdd,Nat.reduceMul,Nat.reduceLeDiff,Nat.reduceEqDiff,reduceCtorEq,hfr,hw]
     exact hnA _ (p.as.l.length - (i+1)) (by omega) ⟨i+1,_,by omega,by omega,y7 hx ha (by simp [hk1 (by omega),hk2 (by omega)]),rfl,by simp only [V0,Nat.reduceLT,Nat.reduceAdd,Nat.reduceMul,Nat.reduceLeDiff,Nat.reduceEqDiff,reduceCtorEq,hfr,hw]⟩
   ·have hof:p.as.l.any (fun a=>offSide p.fs.l a.l||offSide p.fs.l a.r)=false:=by
     rw [← zcr (l:=p.as.l) (i:=i) (by omega)]
     exact ha
    simp only [V0,Nat.reduceLT,Nat.reduceAdd,Nat.reduceMul,Nat.reduceLeDiff,Nat.reduceEqDiff,reduceCtorEq,hfr,h]
    refine heA _ _ ?_
    simp only [V0,Nat.reduceLT,Nat.reduceAdd,Nat.reduceMul,Nat.reduceLeDiff,Nat.reduceEqDiff,reduceCtorEq,hfr,connE,hdup,hlo,hof,cond_false]
end
end
section
theorem yd {S:ySM} {f:FuncId} {i:IFn} {args:List IV} {w:IV} (hS:S f args=none) (hi:Ftab f=some i) (hm:i.mode=0) (hl:args.length<=i.ntmps) (N:Nat)
  (h:∀ m,N<=m->∀ d out t,Slots i.ntmps t (slotsOf 0 args)->Ex (callN Ftab S m) d out m i.body (FinF d out i.res m w) ⟨t,[]⟩):∀ m,N+1<=m->∀ d out ownV own id,callN Ftab S m d out ownV own id f args=some (.r,w,own):=by
 intro m hm1 d out ownV own id
 obtain ⟨m,rfl⟩:∃ q,m=q+1:=⟨m - 1,by omega⟩
 obtain ⟨o,st,h1,h2,v,h3,h4⟩:=h m (by omega) (d+1) (fun l=>if l=d then ownV else out l) (args++List.replicate (i.ntmps - args.length) (.tuple [])) ⟨by simp; omega,fun p hp=>by
  obtain ⟨j,h1,h2⟩:=yi hp
  rw [zH,zc6,h1,zcq,zb8 (zb6.1 h2).1,h2]
  rfl⟩
 have hm0:¬ (0=2):=by decide
 have hm00:¬ (0=3):=by decide
 simp only [callN,hS,hi,hm,hm0,hm00,if_false,zf,h1]
 rcases h2 with rfl | rfl <;> simp [ended,h3,leave,h4]
section
variable {x y z w:IObj} {O R Q J:yLO}
theorem pq_get:(O++(J++x::R))[O.length+J.length]?=some x:=by
 rw [zcb (by omega),zdd]
 simp
theorem pq_set:(O++(J++x::R)).set (O.length+J.length) w=O++(J++w::R):=by
 rw [zdl _ _ (by omega),zdd]
 simp
end
theorem fz_tuple2 {n d:Nat} {own:yLO} {a b a' b':IV} (h1:freeze n d own a=some a') (h2:freeze n d own b=some b'):freeze (n+1) d own (.tuple [a,b])=some (.tuple [a',b']):=by
 simp [freeze,h1,h2]
theorem map_take {α β:Type} {f:α->β} {l:List α} {i:Nat} {x:α} (hx:l[i]?=some x):(l.take (i+1)).map f=(l.take i).map f++[f x]:=by
 rw [zd1,hx]
 simp
section
variable {S:ySM}
theorem ZN {α:Type} {l:List α} {f:α->Int} (h:l.length<=1000000):(l.map f).length<9223372036854775808:=by rw [zdi]; omega
theorem at_ident (hS:NoS S) (p:Pn) (h1:p.ns.l.length<=1000000) (h2:p.as.l.length<=1000000):GivesN S (p.ns.l.length+p.as.l.length+10) 54 [.agg p.c] (.tuple [(rowQ zi (p.ns.l.map Nd.id) (ZN h1)).v,(rowQ zi (p.as.l.map Ac.id) (ZN h2)).v]):=by
 refine yd (i:=i54) (ns hS (by rfl)) rfl rfl (lb rfl) (p.ns.l.length+p.as.l.length+9) fun m hm d out t hfr=>?_
 simp only [V2,Nat.reduceAdd,i54,Pn.c] at hfr
 simp only [i54,V0,sevalprocAttr,hfr]
 refine zb (fun jj st=>∃ (i:Nat) (J:yLO) (lv:IV),p.ns.l.length - i<=jj/\i<=p.ns.l.length/\OwnJ intc 1 d 1 J lv ((p.ns.l.take i).map Nd.id)/\st.own=.cells [p.ns.v,p.as.v,p.fs.v]::J/\Slots 36 st.t [(1,.ptrM d 0 0),(2,lv),(3,.nilsl),(9,p.ns.v),(10,iv (p.ns.l.length:Nat)),(11,iv i)]) p.ns.l.length (by omega) ⟨0,[],.nilsl,by omega,by omega,.inl ⟨by simp,rfl⟩,rfl,by simp only [V0,sevalprocAttr,hfr,zcp]⟩ ?_
 clear hfr
 rintro jj ⟨t,own⟩ KA ⟨i,J,lv,hjj,hi,hO,ho,hfr⟩ hnA heA hrA
 dsimp only at ho hfr
 subst ho
 simp only [V3] at hfr
 by_cases h:i<p.ns.l.length
 ·obtain ⟨x,hx⟩:=gx (l:=p.ns.l) (i:=i) h
  have hrd:rdN (p.ns.l.flatMap Nd.c) (i*3) 3=some [.int .i64 x.id,.int .i64 x.at'.x,.int .i64 x.at'.y]:=(zc Nd.c_len 0 3 hx (by omega)).trans rfl
  have hw:wrapI .i64 ((i:Int)+1)=((i+1:Nat):Int):=we
  have hlt:((p.ns.l.take i).map Nd.id).length=i:=by rw [zdi,zd2,Nat.min_eq_left (by omega)]
  obtain ⟨e,lv',J2,happ,hO2⟩:=YC (Pre:=[.cells [p.ns.v,p.as.v,p.fs.v]]) (n0:=J.length+1+1) (slot:=0) (k:=1) (out:=out) (R:=[.cells [.int .i64 x.id,.int .i64 x.at'.x,.int .i64 x.at'.y],.free]) zi hO (ys:=[x.id]) (by simp) (by simp only [hlt,zcc,zci]; omega) (by simp only [zcc,zci]; omega) rfl rfl
  simp only [zcu,zc4,zcs,zdo,intc,zg,zcc,zci,zda,zcq] at happ
  rw [← map_take (f:=Nd.id) hx] at hO2
  simp only [V0,sevalprocAttr,hfr,h,za p.ns h,hrd,zR,zW,rep,zw,zF,zJ,yG,happ,hw]
  exact hnA _ (p.ns.l.length - (i+1)) (by omega) ⟨i+1,J2,lv',by omega,by omega,hO2,rfl,by simp only [V0,sevalprocAttr,hfr,hw]⟩
 ·simp only [V0,sevalprocAttr,hfr,h]
  refine heA _ _ ?_
  simp only [V0,sevalprocAttr,hfr]
  have hO1:OwnJ intc 1 d 1 J lv (p.ns.l.map Nd.id):=by
   rw [zcr (by omega)] at hO
   exact hO
  clear hO
  refine zb (fun jj st=>∃ (i:Nat) (J2:yLO) (lw:IV),p.as.l.length - i<=jj/\i<=p.as.l.length/\OwnJ intc 1 d (J.length+1) J2 lw ((p.as.l.take i).map Ac.id)/\st.own=.cells [p.ns.v,p.as.v,p.fs.v]::(J++J2)/\Slots 36 st.t [(2,lv),(3,lw),(22,p.as.v),(23,iv (p.as.l.length:Nat)),(24,iv i)]) p.as.l.length (by omega) ⟨0,[],.nilsl,by omega,by omega,.inl ⟨by simp,rfl⟩,by simp,by simp only [V0,sevalprocAttr,hfr,zcp]⟩ ?_
  clear hfr hnA heA hrA
  rintro jj ⟨t,own⟩ KA ⟨i,J2,lw,hjj,hi,hO,ho,hfr⟩ hnA heA hrA
  dsimp only at ho hfr
  subst ho
  simp only [V3] at hfr
  by_cases h:i<p.as.l.length
  ·obtain ⟨x,hx⟩:=gx (l:=p.as.l) (i:=i) h
   have hrd:rdN (p.as.l.flatMap Ac.c) (i*6) 6=some [.int .i64 x.id,.int .i64 x.fr,.int .i64 x.to,x.via.v,.int .i64 x.l,.int .i64 x.r]:=(zc Ac.c_len 0 6 hx (by omega)).trans rfl
   have hw:wrapI .i64 ((i:Int)+1)=((i+1:Nat):Int):=we
   have hlt:((p.as.l.take i).map Ac.id).length=i:=by rw [zdi,zd2,Nat.min_eq_left (by omega)]
   obtain ⟨e,lv',J3,happ,hO2⟩:=YC (Pre:=.cells [p.ns.v,p.as.v,p.fs.v]::J) (n0:=J.length+(J2.length+1)+1) (slot:=0) (k:=1) (out:=out) (R:=[.cells [.int .i64 x.id,.int .i64 x.fr,.int .i64 x.to,x.via.v,.int .i64 x.l,.int .i64 x.r],.free]) zi hO (ys:=[x.id]) (by simp) (by simp only [hlt,zcc,zci]; omega) (by simp only [zcc,zci]; omega) rfl rfl
   simp only [zcu,zc4,zcs,zdo,intc,zg,zcc,zci,zda,zcq] at happ
   rw [← map_take (f:=Ac.id) hx] at hO2
   simp only [V0,sevalprocAttr,hfr,h,za p.as h,hrd,pq_get,pq_set,rep,zw,zF,zJ,yG,happ,hw]
   exact hnA _ (p.as.l.length - (i+1)) (by omega) ⟨i+1,J3,lv',by omega,by omega,hO2,rfl,by simp only [V0,sevalprocAttr,hfr,hw]⟩
  ·simp only [V0,sevalprocAttr,hfr,h]
   refine heA _ _ ?_
   have hO2:OwnJ intc 1 d (J.length+1) J2 lw (p.as.l.map Ac.id):=by
    rw [zcr (by omega)] at hO
    exact hO
   obtain ⟨m,rfl⟩:∃ q,m=q+1:=⟨m - 1,by omega⟩
   have f1:=YB (Pre:=[.cells [p.ns.v,p.as.v,p.fs.v]]) (m:=m) zi (fun a x hx=>by
    simp only [intc,zcx,zc1,or_false] at hx
    subst hx
    exact zy) (by omega) (ZN h1) (hO1.more J2)
   have f2:=YB (Pre:=.cells [p.ns.v,p.as.v,p.fs.v]::J) (m:=m) zi (fun a x hx=>by
    simp only [intc,zcx,zc1,or_false] at hx
    subst hx
    exact zy) (by omega) (ZN h2) hO2
   simp only [zcu,zc4] at f1 f2
   simp only [V0,sevalprocAttr,hfr,zY]
   exact ⟨_,rfl,fz_tuple2 f1 f2⟩
end
end
section
def lineC (a:Ac) (path:SlOf 2 Pt.c):List IV:=[.int .i64 a.id,.int .i64 a.fr,.int .i64 a.to,a.via.v,.int .i64 a.l,.int .i64 a.r,path.v]
structure Sg where
 a:Ac
 path:SlOf 2 Pt.c
 k:Nat
 hk:k+1<path.l.length
def Sg.g (s:Sg):List IV:=[.ptrC (lineC s.a s.path) 0,.int .i64 (s.k:Int)]
def Sg.e (s:Sg):IV:=.agg s.g
def Sg.p0 (s:Sg):Pt:=s.path.l[s.k]'(by have:=s.hk; omega)
def Sg.p1 (s:Sg):Pt:=s.path.l[s.k+1]'s.hk
def Sg.w (s:Sg):Int:=mnI s.p0.x s.p1.x
def Sg.ea (s:Sg):Int:=mxI s.p0.x s.p1.x
def cmpI (x y:Int):Int:=if x<y then -1 else if y<x then 1 else 0
theorem sg_elt:Elt Sg.g Sg.e 2 true:=⟨fun _=>rfl,fun _=>rfl,fun _=>rfl,fun _=>rfl⟩
theorem sg_r0 (s:Sg):rdN (s.path.l.flatMap Pt.c) (s.k*2) 2=some [.int .i64 s.p0.x,.int .i64 s.p0.y]:=(zc (sz:=2) (fun _=>rfl) 0 2 (zb7 (by have:=s.hk; omega)) (by omega)).trans rfl
theorem sg_r1 (s:Sg):rdN (s.path.l.flatMap Pt.c) ((s.k+1)*2) 2=some [.int .i64 s.p1.x,.int .i64 s.p1.y]:=(zc (sz:=2) (fun _=>rfl) 0 2 (zb7 s.hk) (by omega)).trans rfl
section
variable {S:ySM}
theorem YE (hS:NoS S) (s:Sg):GivesN S 4 84 [.agg s.g] (.tuple [.agg s.p0.c,.agg s.p1.c]):=by
 refine yd (i:=i84) (ns hS (by rfl)) rfl rfl (lb rfl) (3) fun m hm d out t hfr=>?_
 simp only [V2,Nat.reduceAdd,i84,Sg.g,lineC] at hfr
 have hk:=s.hk
 have h0:s.k<s.path.l.length:=by omega
 have hf:=s.path.few
 have hw:wrapI .i64 ((s.k:Int)+1)=((s.k+1:Nat):Int):=we
 have r0:=sg_r0 s
 have r1:=sg_r1 s
 simp only [i84,V0,sevalprocAttr,hfr,za s.path h0,za s.path hk,r0,r1,hw]
 refine ⟨by simp [comm],?_⟩
 obtain ⟨m,rfl⟩:∃ q,m=q+3:=⟨m - 3,by omega⟩
 simp only [V0,sevalprocAttr,hfr,zY,Pt.c]
 exact ⟨_,rfl,by simp [freeze]⟩
theorem at_first (hS:NoS S) (s:Sg):GivesN S 2 86 [.agg s.g] (.bool ((s.k:Int)==0)):=by
 refine zj (i:=i86) (ns hS (by rfl)) rfl rfl (lb rfl) (1) (by omega) zx fun m hm d out t hfr=>?_
 simp only [V2,Nat.reduceAdd,i86,Sg.g,lineC] at hfr
 simp only [i86,V0,sevalprocAttr,hfr]
theorem at_last (hS:NoS S) (s:Sg):GivesN S 2 87 [.agg s.g] (.bool ((s.k:Int)==((s.path.l.length - 2:Nat):Int))):=by
 refine zj (i:=i87) (ns hS (by rfl)) rfl rfl (lb rfl) (1) (by omega) zx fun m hm d out t hfr=>?_
 simp only [V2,Nat.reduceAdd,i87,Sg.g,lineC] at hfr
 have hk:=s.hk
 have hf:=s.path.few
 have hw:wrapI .i64 ((s.path.l.length:Int) - 2)=((s.path.l.length - 2:Nat):Int):=we
 simp only [i87,V0,sevalprocAttr,hfr,hw]
 refine ⟨by simp [comm],?_⟩
 simp only [V0,sevalprocAttr,hfr]
theorem at_west (hS:NoS S) (s:Sg):GivesN S 6 81 [.agg s.g] (.int .i64 s.w):=by
 refine zj (i:=i81) (ns hS (by rfl)) rfl rfl (lb rfl) (5) (by omega) zy fun m hm d out t hfr=>?_
 simp only [V2,Nat.reduceAdd,i81,Sg.g,lineC] at hfr
 have c0:=YE hS s m (by omega)
 simp only [Sg.g,lineC,Pt.c,zg] at c0
 have hmn:∀ a b:Int,(if b<a then b else a)=mnI a b:=fun _ _=>rfl
 simp only [i81,V0,sevalprocAttr,hfr,c0,hmn,Sg.w]
theorem at_east (hS:NoS S) (s:Sg):GivesN S 6 82 [.agg s.g] (.int .i64 s.ea):=by
 refine zj (i:=i82) (ns hS (by rfl)) rfl rfl (lb rfl) (5) (by omega) zy fun m hm d out t hfr=>?_
 simp only [V2,Nat.reduceAdd,i82,Sg.g,lineC] at hfr
 have c0:=YE hS s m (by omega)
 simp only [Sg.g,lineC,Pt.c,zg] at c0
 have hmx:∀ a b:Int,(if a<b then b else a)=mxI a b:=fun _ _=>rfl
 simp only [i82,V0,sevalprocAttr,hfr,c0,gt_iff_lt,hmx,Sg.ea]
theorem at_cmp (hS:NoS S) (x y:Int):GivesN S 4 80 [iv x,iv y] (.int .i64 (cmpI x y)):=by
 refine zj (i:=i80) (ns hS (by rfl)) rfl rfl (lb rfl) (3) (by omega) zy fun m hm d out t hfr=>?_
 simp only [V2,Nat.reduceAdd,i80] at hfr
 have c0:=fun x d out ownV own i=>gives_nan hS x m (by omega) d out ownV own i
 unfold cmpI
 by_cases h:x<y
 ·rw [if_pos h]
  simp only [i80,V0,sevalprocAttr,hfr,c0,h]
 ·rw [if_neg h]
  by_cases h2:y<x
  ·rw [if_pos h2]
   simp only [i80,V0,sevalprocAttr,hfr,c0,h,gt_iff_lt,h2]
  ·rw [if_neg h2]
   simp only [i80,V0,sevalprocAttr,hfr,c0,h,gt_iff_lt,h2]
theorem at_planar1 (hS:NoS S) (s u:Sg):GivesN S 8 79 [.agg s.g,.agg u.g] (.int .i64 (cmpI s.w u.w)):=by
 refine zj (i:=i79) (ns hS (by rfl)) rfl rfl (lb rfl) (7) (by omega) zy fun m hm d out t hfr=>?_
 simp only [V2,Nat.reduceAdd,i79,Sg.g,lineC] at hfr
 have c0:=at_west hS s m (by omega)
 have c1:=at_west hS u m (by omega)
 have c2:=at_cmp hS s.w u.w m (by omega)
 simp only [Sg.g,lineC,zg] at c0 c1 c2
 simp only [i79,V0,sevalprocAttr,hfr,c0,c1,c2]
 refine ⟨by simp [comm],?_⟩
 simp only [V0,sevalprocAttr,hfr]
theorem planar_cmp (hS:NoS S) {d:Nat} {out:yLM} {own0:yLO} {b:Nat}:CmpOK S 8 d out own0 b Sg.e 79 [] (fun s u=>cmpI s.w u.w):=fun m hm ownV own id x y _=>at_planar1 hS x y m hm d out ownV own id
end
end
section
theorem Zq {S:ySM} {f:FuncId} {i:IFn} {args:List IV} {v:IV} (hS:S f args=none) (hi:Ftab f=some i) (hm:i.mode=0) (hl:args.length<=i.ntmps) {N m d:Nat} {out:yLM} {ownV own:yLO} {id:Nat} (hN:1<=N) (hmN:N+1<=m) (hv:Fz 1 v)
  (h:∀ m,N<=m->∀ t,Slots i.ntmps t (slotsOf 0 args)->Ex (callN Ftab S m) (d+1) (fun l=>if l=d then ownV else out l) m i.body (Fin (d+1) (fun l=>if l=d then ownV else out l) i.res v) ⟨t,[]⟩):callN Ftab S m d out ownV own id f args=some (.r,v,own):=by
 obtain ⟨m,rfl⟩:∃ q,m=q+1:=⟨m - 1,by omega⟩
 obtain ⟨o,st,h1,h2,h3⟩:=h m (by omega) (args++List.replicate (i.ntmps - args.length) (.tuple [])) ⟨by simp; omega,fun p hp=>by
  obtain ⟨j,h1,h2⟩:=yi hp
  rw [zH,zc6,h1,zcq,zb8 (zb6.1 h2).1,h2]
  rfl⟩
 have hm0:¬ (0=2):=by decide
 have hm00:¬ (0=3):=by decide
 have hf:freeze m (d+1) st.own v=some v:=hv m (by omega) _ _
 simp only [callN,hS,hi,hm,hm0,hm00,if_false,zf,h1]
 rcases h2 with rfl | rfl <;> simp [ended,h3,leave,hf]
def ptKs (L:List (Int × Pt)):List IV:=L.map fun kv=>.int .i64 kv.1
def ptVs (L:List (Int × Pt)):List IV:=L.map fun kv=>.agg kv.2.c
def lkP (L:List (Int × Pt)) (id:Int):Pt:=((L.find? fun kv=>id==kv.1).map Prod.snd).getD ⟨0,0⟩
theorem ZW (id:Int):∀ (L:List (Int × Pt)) (n:Nat),findIx (false,[1]) (.int .i64 id) (ptKs L) n=some ((L.findIdx? fun kv=>id==kv.1).map (n+·))
 | [],n=>rfl
 | kv::L,n=>by
  have ih:=ZW id L (n+1)
  have e:eqk (false,[1]) (.int .i64 id) (.int .i64 kv.1)=some (id==kv.1):=by
   have:eqvs [1] [.int .i64 id] [.int .i64 kv.1]=some (id==kv.1):=by
    simp only [eqvs,eqv]
    cases h1:id==kv.1 <;> simp [h1]
   exact this
  show (match eqk (false,[1]) (.int .i64 id) (.int .i64 kv.1) with | some true=>some (some n) | some false=>findIx (false,[1]) (.int .i64 id) (ptKs L) (n+1) | none=>none)=_
  rw [e]
  cases h:id==kv.1
  ·simp only [ih,List.findIdx?_cons,h]
   cases L.findIdx? fun kv=>id==kv.1 with
   | none=>rfl
   | some j=>simp; omega
  ·simp [List.findIdx?_cons,h]
theorem zbl (id:Int) (L:List (Int × Pt)):∃ r:Option IV,findK (false,[1]) (.int .i64 id) (ptKs L) (ptVs L)=some r/\r.getD (.agg [.int .i64 0,.int .i64 0])=.agg [.int .i64 (lkP L id).x,.int .i64 (lkP L id).y]:=by
 have h0:(kindB false (IV.int .i64 id)&&(IV.int .i64 id).cells.length==[1].length)=true:=rfl
 unfold findK
 rw [if_pos h0,ZW]
 cases h:L.findIdx? fun kv=>id==kv.1 with
 | none =>
  refine ⟨none,rfl,?_⟩
  have h1:(L.find? fun kv=>id==kv.1)=none:=by
   rw [List.findIdx?_eq_none_iff] at h
   rw [List.find?_eq_none]
   intro x hx
   simp [h x hx]
  simp [lkP,h1]
 | some j =>
  obtain ⟨hj,hq,hmin⟩:=zdq.1 h
  have h1:(L.find? fun kv=>id==kv.1)=some L[j]:=by
   rw [List.find?_eq_some_iff_getElem]
   exact ⟨hq,j,hj,rfl,fun k hk=>by simpa using hmin k hk⟩
  refine ⟨some (.agg (L[j]).2.c),?_,?_⟩
  ·simp [ptVs,hj]
  ·simp [lkP,h1,Pt.c,zg]
end
section
def sameRes (c:Int) (s u:Sg):Bool:=bif (((s.k+1:Nat):Int)==(u.k:Int))||((s.a.fr==s.a.to)&&(((s.k:Int)==0)&&((u.k:Int)==((u.path.l.length - 2:Nat):Int)))) then c==1 else c==0
section
variable {S:ySM}
theorem comp_same (hS:NoS S) (s u:Sg) (c:Int) {m d:Nat} {out:yLM} (hm:4<=m) {K:yKM} (t:List IV) (O:yLO) (hfr:Slots 137 t [(3,.ptrM d 0 0),(4,.ptrM d 1 0),(11,.int .i64 c)])
  (hK:∀ t' O',Slots 137 t' [(6,.bool (sameRes c s u))]->K .ret ⟨t',O'⟩):Ex (callN Ftab S m) d out m (i83.body.sub [1,1,1,1,0,1,0,1]) K ⟨t,.cells s.g::.cells u.g::O⟩:=by
 simp only [zd,zh] at hfr
 have hk:=s.hk
 have hf:=s.path.few
 have hw:wrapI .i64 ((s.k:Int)+1)=((s.k+1:Nat):Int):=we
 have c1:=at_first hS s m (by omega)
 have c2:=at_last hS u m (by omega)
 simp only [Sg.g,lineC] at c1 c2
 cases h1:((s.k+1:Nat):Int)==(u.k:Int)
 ·cases h2:s.a.fr==s.a.to
  ·simp only [i83,IC.sub,V0,Nat.reduceLT,Nat.reduceAdd,Nat.reduceMul,Nat.reduceLeDiff,Nat.reduceEqDiff,reduceCtorEq,hfr,Sg.g,lineC,hw,h1,h2]
   refine ⟨by simp [comm],?_⟩
   simp only [V0,Nat.reduceLT,Nat.reduceAdd,Nat.reduceMul,Nat.reduceLeDiff,Nat.reduceEqDiff,reduceCtorEq,hfr]
   exact hK _ _ (by simp only [V0,Nat.reduceLT,Nat.reduceAdd,Nat.reduceMul,Nat.reduceLeDiff,Nat.reduceEqDiff,reduceCtorEq,hfr,sameRes,hw,h1,h2,Bool.or_false,zde,zcw,cond_false])
  ·cases h3:(s.k:Int)==0
   ·simp only [i83,IC.sub,V0,Nat.reduceLT,Nat.reduceAdd,Nat.reduceMul,Nat.reduceLeDiff,Nat.reduceEqDiff,reduceCtorEq,hfr,Sg.g,lineC,hw,h1,h2,c1,h3]
    refine ⟨by simp [comm],?_⟩
    simp only [V0,Nat.reduceLT,Nat.reduceAdd,Nat.reduceMul,Nat.reduceLeDiff,Nat.reduceEqDiff,reduceCtorEq,hfr]
    exact hK _ _ (by simp only [V0,Nat.reduceLT,Nat.reduceAdd,Nat.reduceMul,Nat.reduceLeDiff,Nat.reduceEqDiff,reduceCtorEq,hfr,sameRes,hw,h1,h2,h3,Bool.or_false,zde,zcw,zdt,cond_false])
   ·cases h4:(u.k:Int)==((u.path.l.length - 2:Nat):Int)
    ·simp only [i83,IC.sub,V0,Nat.reduceLT,Nat.reduceAdd,Nat.reduceMul,Nat.reduceLeDiff,Nat.reduceEqDiff,reduceCtorEq,hfr,Sg.g,lineC,hw,h1,h2,c1,c2,h3,h4]
     refine ⟨by simp [comm],?_⟩
     simp only [V0,Nat.reduceLT,Nat.reduceAdd,Nat.reduceMul,Nat.reduceLeDiff,Nat.reduceEqDiff,reduceCtorEq,hfr]
     exact hK _ _ (by simp only [V0,Nat.reduceLT,Nat.reduceAdd,Nat.reduceMul,Nat.reduceLeDiff,Nat.reduceEqDiff,reduceCtorEq,hfr,sameRes,hw,h1,h2,h3,h4,Bool.or_false,zde,zcw,zdt,cond_false])
    ·simp only [i83,IC.sub,V0,Nat.reduceLT,Nat.reduceAdd,Nat.reduceMul,Nat.reduceLeDiff,Nat.reduceEqDiff,reduceCtorEq,hfr,Sg.g,lineC,hw,h1,h2,c1,c2,h3,h4]
     refine ⟨by simp [comm],?_⟩
     simp only [V0,Nat.reduceLT,Nat.reduceAdd,Nat.reduceMul,Nat.reduceLeDiff,Nat.reduceEqDiff,reduceCtorEq,hfr]
     exact hK _ _ (by simp only [V0,Nat.reduceLT,Nat.reduceAdd,Nat.reduceMul,Nat.reduceLeDiff,Nat.reduceEqDiff,reduceCtorEq,hfr,sameRes,hw,h1,h2,h3,h4,Bool.or_true,zde,Bool.and_true,cond_true])
 ·simp only [i83,IC.sub,V0,Nat.reduceLT,Nat.reduceAdd,Nat.reduceMul,Nat.reduceLeDiff,Nat.reduceEqDiff,reduceCtorEq,hfr,Sg.g,lineC,hw,h1]
  refine ⟨by simp [comm],?_⟩
  simp only [V0,Nat.reduceLT,Nat.reduceAdd,Nat.reduceMul,Nat.reduceLeDiff,Nat.reduceEqDiff,reduceCtorEq,hfr]
  exact hK _ _ (by simp only [V0,Nat.reduceLT,Nat.reduceAdd,Nat.reduceMul,Nat.reduceLeDiff,Nat.reduceEqDiff,reduceCtorEq,hfr,sameRes,hw,h1,zdm,cond_true])
noncomputable def atNode (L:List (Int × Pt)) (s u:Sg) (id:Int):Bool:=(id==u.a.fr||id==u.a.to)&&(onI s.p0 s.p1 (lkP L id)&&onI u.p0 u.p1 (lkP L id))
theorem comp_node (hS:NoS S) (s u:Sg) (L:List (Int × Pt)) {m d dm j:Nat} {out:yLM} (hm:12<=m) {bs:List Nat} {ck:Nat} (hdm:dm<d) (hmap:(out dm)[j]?=some (.map (ptKs L) (ptVs L) bs ck)) {K:yKM} (t:List IV) (F1 F2:IObj) (O:yLO)
  (hfr:Slots 137 t [(2,.mapM dm j),(3,.ptrM d 0 0),(4,.ptrM d 1 0),(7,.ptrM d 3 0),(8,.ptrM d 4 0),(9,.ptrM d 6 0),(10,.ptrM d 7 0)])
  (hK:∀ t' O',Slots 137 t' [(6,.bool (atNode L s u s.a.fr||atNode L s u s.a.to))]->K .ret ⟨t',O'⟩) :
  Ex (callN Ftab S m) d out m (i83.body.sub [1,1,1,1,1,1]) K ⟨t,.cells s.g::.cells u.g::F1::.cells s.p0.c::.cells s.p1.c::F2::.cells u.p0.c::.cells u.p1.c::O⟩:=by
 simp only [zd,zh] at hfr
 have hz2:rep [IV.int .i64 0] 2=[.int .i64 0,.int .i64 0]:=zck rfl rfl
 have co:∀ (u v w:Pt) d out ownV own i,callN Ftab S m d out ownV own i 85 [.agg [.int .i64 u.x,.int .i64 u.y],.agg [.int .i64 v.x,.int .i64 v.y],.agg [.int .i64 w.x,.int .i64 w.y]]=some (.r,.bool (onI u v w),own):=fun u v w d out ownV own i=>at_on hS u v w m (by omega) d out ownV own i
 have hne:¬ (dm=d):=by omega
 simp only [i83,IC.sub,V0,Nat.reduceLT,Nat.reduceAdd,Nat.reduceMul,Nat.reduceLeDiff,Nat.reduceEqDiff,reduceCtorEq,hfr,Sg.g,lineC,Pt.c,hz2]
 refine ⟨by simp [comm],?_⟩
 simp only [V0,Nat.reduceLT,Nat.reduceAdd,Nat.reduceMul,Nat.reduceLeDiff,Nat.reduceEqDiff,reduceCtorEq,hfr]
 refine zb (fun jj st=>∃ (k:Nat) (O:yLO),2 - k<=jj/\k<=2/\(1<=k->atNode L s u s.a.fr=false)/\(2<=k->atNode L s u s.a.to=false)/\st.own=.cells [.ptrC (lineC s.a s.path) 0,.int .i64 (s.k:Int)]::.cells [.ptrC (lineC u.a u.path) 0,.int .i64 (u.k:Int)]::F1::.cells [.int .i64 s.p0.x,.int .i64 s.p0.y]::.cells [.int .i64 s.p1.x,.int .i64 s.p1.y]::F2::.cells [.int .i64 u.p0.x,.int .i64 u.p0.y]::.cells [.int .i64 u.p1.x,.int .i64 u.p1.y]::O/\Slots 137 st.t [(2,.mapM dm j),(3,.ptrM d 0 0),(4,.ptrM d 1 0),(7,.ptrM d 3 0),(8,.ptrM d 4 0),(9,.ptrM d 6 0),(10,.ptrM d 7 0),(99,.agg [.int .i64 s.a.fr,.int .i64 s.a.to]),(100,iv k)]) 2 (by omega) ⟨0,O,by omega,by omega,by omega,by omega,rfl,by simp only [V0,Nat.reduceLT,Nat.reduceAdd,Nat.reduceMul,Nat.reduceLeDiff,Nat.reduceEqDiff,reduceCtorEq,hfr,zcp]⟩ ?_
 clear hfr
 rintro jj ⟨t,own⟩ KB ⟨k,O,hjk,hk,hk1,hk2,ho,hfr⟩ hnB heB hrB
 dsimp only at ho hfr
 subst ho
 simp only [V3] at hfr
 have hcase:k=0∨k=1∨k=2:=by omega
 rcases hcase with rfl | rfl | rfl
 ·have hlt:(((0:Nat):Int)<2)=True:=eq_true (by decide)
  have hw0:wrapI .i64 (((0:Nat):Int)+1)=((1:Nat):Int):=rfl
  have hn0:natI (.int .i64 ((0:Nat):Int))=some 0:=z8
  have h02:(0<2)=True:=eq_true (by decide)
  obtain ⟨r,hr1,hr2⟩:=zbl s.a.fr L
  have ev:∀ (C:Call) (n0:Nat) (ownV own:yLO) (t:List IV) (x ix:Opd),ρ t x=.mapM dm j->ρ t ix=.int .i64 s.a.fr->evOp C d out n0 ownV own t (.lookup (.agg [.int .i64 0,.int .i64 0]) (false,[1]) false x ix)=some (.r,.agg [.int .i64 (lkP L s.a.fr).x,.int .i64 (lkP L s.a.fr).y],own):=fun C n0 ownV own t x ix h1 h2=>by
   rw [yY]
   simp only [e_lookup,h1,h2,look,if_neg hne,if_pos hdm,hmap,hr1,zb9,hr2]
   rfl
  cases a1:s.a.fr==u.a.fr
  ·cases a2:s.a.fr==u.a.to
   ·skip
    have hat:atNode L s u s.a.fr=false:=by simp [atNode,a1,a2]
    simp only [V0,Nat.reduceLT,Nat.reduceAdd,Nat.reduceMul,Nat.reduceLeDiff,Nat.reduceEqDiff,reduceCtorEq,hfr,Sg.g,lineC,hlt,zD,e_index,hn0,h02,hw0,zdf,zdu,ev,co,a1,a2]
    exact hnB _ 1 (by omega) ⟨1,_,by omega,by omega,fun _=>hat,fun h=>absurd h (by omega),rfl,by simp only [V0,Nat.reduceLT,Nat.reduceAdd,Nat.reduceMul,Nat.reduceLeDiff,Nat.reduceEqDiff,reduceCtorEq,hfr,hlt,hw0,ev,a1,a2]⟩
   ·skip
    cases o1:onI s.p0 s.p1 (lkP L s.a.fr)
    ·skip
     have hat:atNode L s u s.a.fr=false:=by simp [atNode,a1,a2,o1]
     simp only [V0,Nat.reduceLT,Nat.reduceAdd,Nat.reduceMul,Nat.reduceLeDiff,Nat.reduceEqDiff,reduceCtorEq,hfr,Sg.g,lineC,hlt,zD,e_index,hn0,h02,hw0,zdf,zdu,ev,co,a1,a2,o1]
     exact hnB _ 1 (by omega) ⟨1,_,by omega,by omega,fun _=>hat,fun h=>absurd h (by omega),rfl,by simp only [V0,Nat.reduceLT,Nat.reduceAdd,Nat.reduceMul,Nat.reduceLeDiff,Nat.reduceEqDiff,reduceCtorEq,hfr,hlt,hw0,ev,a1,a2,o1]⟩
    ·cases o2:onI u.p0 u.p1 (lkP L s.a.fr)
     ·skip
      have hat:atNode L s u s.a.fr=false:=by simp [atNode,a1,a2,o1,o2]
      simp only [V0,Nat.reduceLT,Nat.reduceAdd,Nat.reduceMul,Nat.reduceLeDiff,Nat.reduceEqDiff,reduceCtorEq,hfr,Sg.g,lineC,hlt,zD,e_index,hn0,h02,hw0,zdf,zdu,ev,co,a1,a2,o1,o2]
      exact hnB _ 1 (by omega) ⟨1,_,by omega,by omega,fun _=>hat,fun h=>absurd h (by omega),rfl,by simp only [V0,Nat.reduceLT,Nat.reduceAdd,Nat.reduceMul,Nat.reduceLeDiff,Nat.reduceEqDiff,reduceCtorEq,hfr,hlt,hw0,ev,a1,a2,o1,o2]⟩
     ·skip
      have hat:atNode L s u s.a.fr=true:=by simp [atNode,a1,a2,o1,o2]
      simp only [V0,Nat.reduceLT,Nat.reduceAdd,Nat.reduceMul,Nat.reduceLeDiff,Nat.reduceEqDiff,reduceCtorEq,hfr,Sg.g,lineC,hlt,zD,e_index,hn0,h02,zdf,zdu,ev,co,a1,a2,o1,o2]
      refine hrB _ ?_
      simp only [V0,Nat.reduceLT,Nat.reduceAdd,Nat.reduceMul,Nat.reduceLeDiff,Nat.reduceEqDiff,reduceCtorEq,hfr]
      exact hK _ _ (by simp only [V0,Nat.reduceLT,Nat.reduceAdd,Nat.reduceMul,Nat.reduceLeDiff,Nat.reduceEqDiff,reduceCtorEq,hfr,hat,zdm])
  ·skip
   cases o1:onI s.p0 s.p1 (lkP L s.a.fr)
   ·skip
    have hat:atNode L s u s.a.fr=false:=by simp [atNode,a1,o1]
    simp only [V0,Nat.reduceLT,Nat.reduceAdd,Nat.reduceMul,Nat.reduceLeDiff,Nat.reduceEqDiff,reduceCtorEq,hfr,Sg.g,lineC,hlt,zD,e_index,hn0,h02,hw0,zdf,zdu,ev,co,a1,o1]
    exact hnB _ 1 (by omega) ⟨1,_,by omega,by omega,fun _=>hat,fun h=>absurd h (by omega),rfl,by simp only [V0,Nat.reduceLT,Nat.reduceAdd,Nat.reduceMul,Nat.reduceLeDiff,Nat.reduceEqDiff,reduceCtorEq,hfr,hlt,hw0,ev,a1,o1]⟩
   ·cases o2:onI u.p0 u.p1 (lkP L s.a.fr)
    ·skip
     have hat:atNode L s u s.a.fr=false:=by simp [atNode,a1,o1,o2]
     simp only [V0,Nat.reduceLT,Nat.reduceAdd,Nat.reduceMul,Nat.reduceLeDiff,Nat.reduceEqDiff,reduceCtorEq,hfr,Sg.g,lineC,hlt,zD,e_index,hn0,h02,hw0,zdf,zdu,ev,co,a1,o1,o2]
     exact hnB _ 1 (by omega) ⟨1,_,by omega,by omega,fun _=>hat,fun h=>absurd h (by omega),rfl,by simp only [V0,Nat.reduceLT,Nat.reduceAdd,Nat.reduceMul,Nat.reduceLeDiff,Nat.reduceEqDiff,reduceCtorEq,hfr,hlt,hw0,ev,a1,o1,o2]⟩
    ·skip
     have hat:atNode L s u s.a.fr=true:=by simp [atNode,a1,o1,o2]
     simp only [V0,Nat.reduceLT,Nat.reduceAdd,Nat.reduceMul,Nat.reduceLeDiff,Nat.reduceEqDiff,reduceCtorEq,hfr,Sg.g,lineC,hlt,zD,e_index,hn0,h02,zdf,zdu,ev,co,a1,o1,o2]
     refine hrB _ ?_
     simp only [V0,Nat.reduceLT,Nat.reduceAdd,Nat.reduceMul,Nat.reduceLeDiff,Nat.reduceEqDiff,reduceCtorEq,hfr]
     exact hK _ _ (by simp only [V0,Nat.reduceLT,Nat.reduceAdd,Nat.reduceMul,Nat.reduceLeDiff,Nat.reduceEqDiff,reduceCtorEq,hfr,hat,zdm])
 ·have hlt:(((1:Nat):Int)<2)=True:=eq_true (by decide)
  have hw0:wrapI .i64 (((1:Nat):Int)+1)=((2:Nat):Int):=rfl
  have hn0:natI (.int .i64 ((1:Nat):Int))=some 1:=z8
  have h02:(1<2)=True:=eq_true (by decide)
  obtain ⟨r,hr1,hr2⟩:=zbl s.a.to L
  have ev:∀ (C:Call) (n0:Nat) (ownV own:yLO) (t:List IV) (x ix:Opd),ρ t x=.mapM dm j->ρ t ix=.int .i64 s.a.to->evOp C d out n0 ownV own t (.lookup (.agg [.int .i64 0,.int .i64 0]) (false,[1]) false x ix)=some (.r,.agg [.int .i64 (lkP L s.a.to).x,.int .i64 (lkP L s.a.to).y],own):=fun C n0 ownV own t x ix h1 h2=>by
   rw [yY]
   simp only [e_lookup,h1,h2,look,if_neg hne,if_pos hdm,hmap,hr1,zb9,hr2]
   rfl
  cases a1:s.a.to==u.a.fr
  ·cases a2:s.a.to==u.a.to
   ·skip
    have hat:atNode L s u s.a.to=false:=by simp [atNode,a1,a2]
    simp only [V0,Nat.reduceLT,Nat.reduceAdd,Nat.reduceMul,Nat.reduceLeDiff,Nat.reduceEqDiff,reduceCtorEq,hfr,Sg.g,lineC,hlt,zD,e_index,hn0,h02,hw0,zdf,zdu,ev,co,a1,a2]
    exact hnB _ 0 (by omega) ⟨2,_,by omega,by omega,fun _=>hk1 (by omega),fun _=>hat,rfl,by simp only [V0,Nat.reduceLT,Nat.reduceAdd,Nat.reduceMul,Nat.reduceLeDiff,Nat.reduceEqDiff,reduceCtorEq,hfr,hlt,hw0,ev,a1,a2]⟩
   ·skip
    cases o1:onI s.p0 s.p1 (lkP L s.a.to)
    ·skip
     have hat:atNode L s u s.a.to=false:=by simp [atNode,a1,a2,o1]
     simp only [V0,Nat.reduceLT,Nat.reduceAdd,Nat.reduceMul,Nat.reduceLeDiff,Nat.reduceEqDiff,reduceCtorEq,hfr,Sg.g,lineC,hlt,zD,e_index,hn0,h02,hw0,zdf,zdu,ev,co,a1,a2,o1]
     exact hnB _ 0 (by omega) ⟨2,_,by omega,by omega,fun _=>hk1 (by omega),fun _=>hat,rfl,by simp only [V0,Nat.reduceLT,Nat.reduceAdd,Nat.reduceMul,Nat.reduceLeDiff,Nat.reduceEqDiff,reduceCtorEq,hfr,hlt,hw0,ev,a1,a2,o1]⟩
    ·cases o2:onI u.p0 u.p1 (lkP L s.a.to)
     ·skip
      have hat:atNode L s u s.a.to=false:=by simp [atNode,a1,a2,o1,o2]
      simp only [V0,Nat.reduceLT,Nat.reduceAdd,Nat.reduceMul,Nat.reduceLeDiff,Nat.reduceEqDiff,reduceCtorEq,hfr,Sg.g,lineC,hlt,zD,e_index,hn0,h02,hw0,zdf,zdu,ev,co,a1,a2,o1,o2]
      exact hnB _ 0 (by omega) ⟨2,_,by omega,by omega,fun _=>hk1 (by omega),fun _=>hat,rfl,by simp only [V0,Nat.reduceLT,Nat.reduceAdd,Nat.reduceMul,Nat.reduceLeDiff,Nat.reduceEqDiff,reduceCtorEq,hfr,hlt,hw0,ev,a1,a2,o1,o2]⟩
     ·skip
      have hat:atNode L s u s.a.to=true:=by simp [atNode,a1,a2,o1,o2]
      simp only [V0,Nat.reduceLT,Nat.reduceAdd,Nat.reduceMul,Nat.reduceLeDiff,Nat.reduceEqDiff,reduceCtorEq,hfr,Sg.g,lineC,hlt,zD,e_index,hn0,h02,zdf,zdu,ev,co,a1,a2,o1,o2]
      refine hrB _ ?_
      simp only [V0,Nat.reduceLT,Nat.reduceAdd,Nat.reduceMul,Nat.reduceLeDiff,Nat.reduceEqDiff,reduceCtorEq,hfr]
      exact hK _ _ (by simp only [V0,Nat.reduceLT,Nat.reduceAdd,Nat.reduceMul,Nat.reduceLeDiff,Nat.reduceEqDiff,reduceCtorEq,hfr,hk1 (by omega),hat,Bool.or_true])
  ·skip
   cases o1:onI s.p0 s.p1 (lkP L s.a.to)
   ·skip
    have hat:atNode L s u s.a.to=false:=by simp [atNode,a1,o1]
    simp only [V0,Nat.reduceLT,Nat.reduceAdd,Nat.reduceMul,Nat.reduceLeDiff,Nat.reduceEqDiff,reduceCtorEq,hfr,Sg.g,lineC,hlt,zD,e_index,hn0,h02,hw0,zdf,zdu,ev,co,a1,o1]
    exact hnB _ 0 (by omega) ⟨2,_,by omega,by omega,fun _=>hk1 (by omega),fun _=>hat,rfl,by simp only [V0,Nat.reduceLT,Nat.reduceAdd,Nat.reduceMul,Nat.reduceLeDiff,Nat.reduceEqDiff,reduceCtorEq,hfr,hlt,hw0,ev,a1,o1]⟩
   ·cases o2:onI u.p0 u.p1 (lkP L s.a.to)
    ·skip
     have hat:atNode L s u s.a.to=false:=by simp [atNode,a1,o1,o2]
     simp only [V0,Nat.reduceLT,Nat.reduceAdd,Nat.reduceMul,Nat.reduceLeDiff,Nat.reduceEqDiff,reduceCtorEq,hfr,Sg.g,lineC,hlt,zD,e_index,hn0,h02,hw0,zdf,zdu,ev,co,a1,o1,o2]
     exact hnB _ 0 (by omega) ⟨2,_,by omega,by omega,fun _=>hk1 (by omega),fun _=>hat,rfl,by simp only [V0,Nat.reduceLT,Nat.reduceAdd,Nat.reduceMul,Nat.reduceLeDiff,Nat.reduceEqDiff,reduceCtorEq,hfr,hlt,hw0,ev,a1,o1,o2]⟩
    ·skip
     have hat:atNode L s u s.a.to=true:=by simp [atNode,a1,o1,o2]
     simp only [V0,Nat.reduceLT,Nat.reduceAdd,Nat.reduceMul,Nat.reduceLeDiff,Nat.reduceEqDiff,reduceCtorEq,hfr,Sg.g,lineC,hlt,zD,e_index,hn0,h02,zdf,zdu,ev,co,a1,o1,o2]
     refine hrB _ ?_
     simp only [V0,Nat.reduceLT,Nat.reduceAdd,Nat.reduceMul,Nat.reduceLeDiff,Nat.reduceEqDiff,reduceCtorEq,hfr]
     exact hK _ _ (by simp only [V0,Nat.reduceLT,Nat.reduceAdd,Nat.reduceMul,Nat.reduceLeDiff,Nat.reduceEqDiff,reduceCtorEq,hfr,hk1 (by omega),hat,Bool.or_true])
 ·have hlt:(((2:Nat):Int)<2)=False:=eq_false (by decide)
  simp only [V0,Nat.reduceLT,Nat.reduceAdd,Nat.reduceMul,Nat.reduceLeDiff,Nat.reduceEqDiff,reduceCtorEq,hfr,hlt]
  refine heB _ _ ?_
  simp only [V0,Nat.reduceLT,Nat.reduceAdd,Nat.reduceMul,Nat.reduceLeDiff,Nat.reduceEqDiff,reduceCtorEq,hfr]
  exact hK _ _ (by simp only [V0,Nat.reduceLT,Nat.reduceAdd,Nat.reduceMul,Nat.reduceLeDiff,Nat.reduceEqDiff,reduceCtorEq,hfr,hk1 (by omega),hk2 (by omega),Bool.or_self])
end
end
section
noncomputable def Sg.meet (s u:Sg):Int:=meetI s.p0 s.p1 u.p0 u.p1
noncomputable def compB (L:List (Int × Pt)) (s u:Sg):Bool:=bif s.a.id==u.a.id then (bif decide (u.k<s.k) then sameRes (s.meet u) u s else sameRes (s.meet u) s u) else bif s.meet u==1 then atNode L s u s.a.fr||atNode L s u s.a.to else s.meet u==0
section
variable {S:ySM}
theorem at_comp (hS:NoS S) (s u:Sg) (L:List (Int × Pt)) {m d j:Nat} {out:yLM} {ownV own:yLO} {id:Nat} {bs:List Nat} {ck:Nat} (hm:20<=m) (hmap:ownV[j]?=some (.map (ptKs L) (ptVs L) bs ck)) :
  callN Ftab S m d out ownV own id 83 [.agg s.g,.agg u.g,.mapM d j]=some (.r,.bool (compB L s u),own):=by
 refine Zq (i:=i83) (ns hS (by rfl)) rfl rfl (lb rfl) (N:=19) (by omega) hm zx fun m hm t hfr=>?_
 simp only [V2,Nat.reduceAdd,i83] at hfr
 have hmap2:((fun l=>if l=d then ownV else out l:yLM) d)[j]?=some (.map (ptKs L) (ptVs L) bs ck):=by simpa using hmap
 generalize (fun l=>if l=d then ownV else out l:yLM)=out2 at hmap2 ⊢
 have hce:=fun dd oo ownV own i=>YE hS s m (by omega) dd oo ownV own i
 have hcu:=fun dd oo ownV own i=>YE hS u m (by omega) dd oo ownV own i
 have hcm:=fun dd oo ownV own i=>at_meet hS s.p0 s.p1 u.p0 u.p1 m (by omega) dd oo ownV own i
 simp only [Sg.g,lineC,Pt.c,zg] at hce hcu hcm
 have hA1:=fun (K:yKM) t O=>comp_same hS s u (s.meet u) (m:=m) (d:=d+1) (out:=out2) (by omega) (K:=K) t O
 have hA2:=fun (K:yKM) t O=>comp_same hS u s (s.meet u) (m:=m) (d:=d+1) (out:=out2) (by omega) (K:=K) t O
 have hB1:=fun (K:yKM) t F1 F2 O=>comp_node hS s u L (m:=m) (d:=d+1) (out:=out2) (by omega) (by omega) hmap2 (K:=K) t F1 F2 O
 rw [show i83.body=.seq (i83.body.sub [0]) (.seq (i83.body.sub [1,0]) (.seq (i83.body.sub [1,1,0]) (.seq (i83.body.sub [1,1,1,0]) (.seq (.seq (i83.body.sub [1,1,1,1,0,0]) (.cond (.tmp 42) (.seq (i83.body.sub [1,1,1,1,0,1,0,0]) (i83.body.sub [1,1,1,1,0,1,0,1])) .skip)) (.seq (i83.body.sub [1,1,1,1,1,0]) (i83.body.sub [1,1,1,1,1,1])))))) from rfl]
 generalize i83.body.sub [1,1,1,1,0,1,0,1]=A at hA1 hA2 ⊢
 generalize i83.body.sub [1,1,1,1,1,1]=B at hB1 ⊢
 have hmt:meetI s.p0 s.p1 u.p0 u.p1=s.meet u:=rfl
 rw [hmt] at hcm
 cases h0:s.a.id==u.a.id
 ·cases h1:s.meet u==1
  ·have hbne:∀ z:Int,(z != 1)=!(z==1):=fun z=>rfl
   simp only [i83,IC.sub,V0,sevalprocAttr,hfr,Sg.g,lineC,hce,hcu,hcm]
   refine ⟨by simp [comm],?_⟩
   simp only [V0,sevalprocAttr,hfr,h0,hbne,h1]
   simp only [V0,sevalprocAttr,hfr,compB,h0,h1,cond_false]
  ·have hbne:∀ z:Int,(z != 1)=!(z==1):=fun z=>rfl
   simp only [i83,IC.sub,V0,sevalprocAttr,hfr,Sg.g,lineC,hce,hcu,hcm]
   refine ⟨by simp [comm],?_⟩
   simp only [V0,sevalprocAttr,hfr,h0,hbne,h1]
   refine hB1 _ _ _ _ _ (by simp only [V0,sevalprocAttr,hfr]) fun t' O' ht=>?_
   simp only [zd,zh] at ht
   simp only [V0,sevalprocAttr,ht,compB,h0,h1,cond_true,cond_false]
 ·by_cases h1:(u.k:Int)<(s.k:Int)
  ·have h1':decide (u.k<s.k)=true:=by simp; omega
   simp only [i83,IC.sub,V0,sevalprocAttr,hfr,Sg.g,lineC,hce,hcu,hcm]
   refine ⟨by simp [comm],?_⟩
   simp only [V0,sevalprocAttr,hfr,h0,gt_iff_lt,h1]
   refine hA2 _ _ _ (by simp only [V0,sevalprocAttr,hfr]) fun t' O' ht=>?_
   simp only [zd,zh] at ht
   simp only [V0,sevalprocAttr,ht,compB,h0,h1',cond_true]
  ·have h1':decide (u.k<s.k)=false:=by simp; omega
   simp only [i83,IC.sub,V0,sevalprocAttr,hfr,Sg.g,lineC,hce,hcu,hcm]
   refine ⟨by simp [comm],?_⟩
   simp only [V0,sevalprocAttr,hfr,h0,gt_iff_lt,h1]
   refine hA1 _ _ _ (by simp only [V0,sevalprocAttr,hfr]) fun t' O' ht=>?_
   simp only [zd,zh] at ht
   simp only [V0,sevalprocAttr,ht,compB,h0,h1',cond_true,cond_false]
end
end
section
theorem Zr {S:ySM} {f:FuncId} {i:IFn} {args:List IV} {m d:Nat} {out:yLM} {ownV own:yLO} {id:Nat} {Q:Eff × IV × List IObj->Prop} (hS:S f args=none) (hi:Ftab f=some i) (hm:i.mode≠2/\i.mode≠3) (hl:args.length<=i.ntmps)
  (h:∀ t,Slots i.ntmps t (slotsOf 0 args)->Ex (callN Ftab S m) (d+1) (fun l=>if l=d then ownV else out l) m i.body (fun o st=>(o=.normal∨o=.ret)/\∃ v r,resultI (d+1) (fun l=>if l=d then ownV else out l) st i.res=some v/\leave m d st.own own id i.mode v=some r/\Q r) ⟨t,[]⟩):∃ r,callN Ftab S (m+1) d out ownV own id f args=some r/\Q r:=by
 obtain ⟨o,st,h1,h2,v,r,h3,h4,h5⟩:=h (args++List.replicate (i.ntmps - args.length) (.tuple [])) ⟨by simp; omega,fun p hp=>by
  obtain ⟨j,h1,h2⟩:=yi hp
  rw [zH,zc6,h1,zcq,zb8 (zb6.1 h2).1,h2]
  rfl⟩
 refine ⟨r,?_,h5⟩
 simp only [callN,hS,hi,if_neg hm.1,if_neg hm.2,zf,h1]
 rcases h2 with rfl | rfl <;> simp [ended,h3,h4]
theorem ownJ_app2 {α:Type} {g:α->List IV} {sz:Nat} (hs:∀ a,(g a).length=sz) {d n0 slot k:Nat} {out:yLM} {Pre J R:yLO} {lv:IV} {xs ys:List α} (h:OwnJ g sz d Pre.length J lv xs) (hy:ys.length≠0) (hx:xs.length+ys.length<=1073741824) (hk:n0+slot=Pre.length+(J.length+k)) (hf:R[k]?=some .free)
  (hsc:(ys.flatMap g).all IV.scalar=true) :
  ∃ e lv' J2,appendI d n0 (look d out (Pre++(J++R))) (Pre++(J++R)) sz lv (ys.flatMap g) ys.length slot=some (e,lv',Pre++J2)/\OwnJ g sz d Pre.length J2 lv' (xs++ys)/\∀ j x,j<J.length+k->(J++R)[j]?=some x->(J.length<=j∨x≠.cells (xs.flatMap g))->J2[j]?=some x:=by
 have hkl:k<R.length:=(zb6.1 hf).1
 have hget:(J++R)[J.length+k]?=some .free:=by
  rw [zcb (by omega),zdd]
  exact hf
 have hlt:J.length+k<(J++R).length:=by rw [zce]; omega
 have hne:xs++ys≠[]:=by
  intro he
  exact hy (by rw [(List.append_eq_nil_iff.1 he).2]; rfl)
 rcases h with ⟨rfl,rfl⟩ | ⟨b,_,rfl,h2⟩
 ·rw [ZV hy (by unfold bound; simp at hx; omega)]
  unfold mkAt
  rw [hk,zZ,hget]
  simp only [zf]
  rw [yc]
  refine ⟨_,_,_,rfl,.inr ⟨J.length+k,hne,by simp,?_⟩,fun j x hj hx2 _=>?_⟩
  ·rw [zdb hlt]
   rfl
  ·rw [zc5 (by omega)]
   exact hx2
 ·have hb:b<J.length:=(zb6.1 h2).1
  have hb2:(J++R)[b]?=some (.cells (xs.flatMap g)):=by rw [zb8 hb]; exact h2
  rw [y5 hy hx (zu hs) hsc (by simp only [look,if_true,zZ]; exact hb2)]
  unfold killAt
  rw [hk,zZ,hget]
  simp only [zf]
  rw [yc,yc]
  refine ⟨_,_,_,rfl,.inr ⟨J.length+k,hne,by simp,?_⟩,fun j x hj hx2 hne2=>?_⟩
  ·rw [zdb (by rw [zdn]; exact hlt)]
   simp
  ·rw [zc5 (by omega)]
   by_cases hjb:j=b
   ·subst hjb
    rw [hb2] at hx2
    cases hx2
    rcases hne2 with h3 | h3
    ·omega
    ·exact absurd rfl h3
   ·rw [zc5 (Ne.symm hjb)]
    exact hx2
def bdG (d:Nat) (sb:Sg × Nat):List IV:=[.ptrM d sb.2 0,.int .i64 (sb.1.k:Int)]
theorem bdG_len (d:Nat) (sb:Sg × Nat):(bdG d sb).length=2:=rfl
def LinesOK (J:yLO) (xs:List (Sg × Nat)):Prop:=∀ sb∈xs,1<=sb.2/\J[sb.2 - 1]?=some (.cells (lineC sb.1.a sb.1.path))
theorem line_ne {d:Nat} {a:Ac} {path:SlOf 2 Pt.c} {xs:List (Sg × Nat)}:(IObj.cells (lineC a path))≠.cells (xs.flatMap (bdG d)):=by
 intro h
 cases xs with
 | nil=>simp [lineC] at h
 | cons x xs=>simp [lineC,bdG] at h
theorem ptC_fz (a:Pt):∀ x∈a.c,Fz 1 x:=by
 intro x hx
 simp only [Pt.c,zcx,zc1,or_false] at hx
 rcases hx with rfl | rfl <;> exact zy
theorem segs_fz {n d:Nat} {own:yLO} (hn:4<=n):∀ {xs:List (Sg × Nat)},(∀ sb∈xs,own[sb.2]?=some (.cells (lineC sb.1.a sb.1.path)))->(xs.flatMap (bdG d)).mapM (freeze n d own)=some ((xs.map Prod.fst).flatMap Sg.g)
 | [],_=>rfl
 | sb::xs,h=>by
  obtain ⟨n,rfl⟩:∃ q,n=q+4:=⟨n - 4,by omega⟩
  have ih:=segs_fz (n:=n+4) (d:=d) hn (xs:=xs) fun x hx=>h x (zd0 _ hx)
  have h1:=h sb (zdk ..)
  have f1:freeze (n+4) d own (.ptrM d sb.2 0)=some (.ptrC (lineC sb.1.a sb.1.path) 0):=by
   have hvia:freeze (n+3) d own sb.1.a.via.v=some sb.1.a.via.v:=yJ ptC_fz sb.1.a.via (n+3) (by omega) d own
   have hpa:freeze (n+3) d own sb.1.path.v=some sb.1.path.v:=yJ ptC_fz sb.1.path (n+3) (by omega) d own
   have hi:∀ z:Int,freeze (n+3) d own (.int .i64 z)=some (.int .i64 z):=fun z=>rfl
   unfold freeze
   simp only [if_true,h1,lineC,zdg,List.mapM_nil,hvia,hpa,hi,zdz,zdp,zch,zb9]
  have f2:freeze (n+4) d own (.int .i64 (sb.1.k:Int))=some (.int .i64 (sb.1.k:Int)):=rfl
  rw [zcs,zdc,zcs]
  simp only [bdG,Sg.g,zcu,zc4,zdg,f1,f2,zdz,zdp,zch]
  rw [ih]
  rfl
end
section
theorem LinesOK.keep {J J2:yLO} {xs:List (Sg × Nat)} {d:Nat} (h:LinesOK J xs) (hk:∀ (j:Nat) (x:IObj),J[j]?=some x->x≠IObj.cells (xs.flatMap (bdG d))->J2[j]?=some x):LinesOK J2 xs:=fun sb hs=>⟨(h sb hs).1,hk _ _ (h sb hs).2 line_ne⟩
theorem LinesOK.more {J R:yLO} {xs:List (Sg × Nat)} (h:LinesOK J xs):LinesOK (J++R) xs:=fun sb hs=>⟨(h sb hs).1,by
 have:=(h sb hs).2
 rw [zb8 (zb6.1 this).1]
 exact this⟩
theorem leave_segs {n d bi id:Nat} {own1 own:yLO} {xs:List (Sg × Nat)} {b:Bool} (hn:4<=n) (hb:own1[bi]?=some (.cells (xs.flatMap (bdG (d+1))))) (hl:∀ sb∈xs,own1[sb.2]?=some (.cells (lineC sb.1.a sb.1.path))) (hid:own[id]?=some .free) :
  leave n d own1 own id 1 (.tuple [.slM (d+1) bi 0 xs.length xs.length 2 false,.bool b])=some (.a,.tuple [.slM d id 0 xs.length xs.length 2 false,.bool b],own.set id (.cells ((xs.map Prod.fst).flatMap Sg.g))):=by
 obtain ⟨n,rfl⟩:∃ q,n=q+4:=⟨n - 4,by omega⟩
 have h1:∀ sb∈xs,(own1.set bi .gone)[sb.2]?=some (.cells (lineC sb.1.a sb.1.path)):=fun sb hs=>by
  have hne:bi≠sb.2:=by
   intro he
   have:=hl sb hs
   rw [← he,hb] at this
   exact line_ne (zdr this).symm
  rw [zc5 hne]
  exact hl sb hs
 have hf:=segs_fz (n:=n+4) (d:=d+1) (by omega) h1
 have hseg:seg (xs.flatMap (bdG (d+1))) 0 (xs.length*2)=some (xs.flatMap (bdG (d+1))):=by
  have hlen:(xs.flatMap (bdG (d+1))).length=xs.length*2:=zu (bdG_len (d+1))
  unfold seg
  rw [if_pos (by omega),zf,List.drop_zero,zcr (by omega)]
 have hbool:∀ o,freeze (n+4) (d+1) o (.bool b)=some (.bool b):=fun o=>rfl
 unfold leave
 simp only [if_true,handed,hb,hseg,hf,zdg,List.mapM_nil,hbool,zdz,zdp,zch,mkAt,hid,zf]
def SegsR (p:Pn) (d id:Nat) (own:yLO) (r:Eff × IV × yLO):Prop:=(∃ b,r=(.r,.tuple [.nilsl,.bool b],own))∨∃ l:List Sg,l≠[]/\l.length<=p.as.l.length*100/\r=(.a,.tuple [.slM d id 0 l.length l.length 2 false,.bool true],own.set id (.cells (l.flatMap Sg.g)))
section
variable {S:ySM}
theorem st_end2 {l r:yLO} {x y z w:IObj}:(l++x::y::z::r).set (l.length+2) w=l++x::y::w::r:=by
 rw [zdl _ _ (by omega),zdd]
 rfl
theorem cells_pm {l i o:Nat}:(IV.ptrM l i o).cells=[.ptrM l i o]:=zck rfl rfl
theorem rep1 (a b:IV):rep [a,b] 1=[a,b]:=zck rfl rfl
theorem cellsI_2 {lk:Nat->Nat->Option IObj} {a b:IV} {tight:Bool}:cellsI lk 2 (.slC [a,b] 1 2 tight)=some ([a,b],1):=by
 simp [cellsI,seg,zf]
theorem segs_tail (hS:NoS S) (p:Pn) (x:Ac) (q':SlOf 2 Pt.c) {m D i:Nat} {out:yLM} (hm:q'.l.length+6<=m) (hq:2<=q'.l.length/\q'.l.length<=66) {K:yKM} (t:List IV) (J:yLO) (lv:IV) (xs:List (Sg × Nat)) (hO:OwnJ (bdG D) 2 D 1 J lv xs) (hL:LinesOK J xs) (hxl:xs.length<=100000)
  (hfr:Slots 67 t [(1,.ptrM D 0 0),(2,lv),(3,.bool false),(5,.ptrM D (J.length+1) 0),(6,q'.v),(11,p.as.v),(12,iv (p.as.l.length:Nat)),(13,iv i)])
  (hR:∀ t' O',Slots 67 t' [(2,.nilsl),(3,.bool false)]->K .ret ⟨t',O'⟩)
  (hK:∀ t' J' lv' xs',OwnJ (bdG D) 2 D 1 J' lv' xs'->LinesOK J' xs'->xs'.length<=xs.length+66->Slots 67 t' [(1,.ptrM D 0 0),(2,lv'),(3,.bool false),(11,p.as.v),(12,iv (p.as.l.length:Nat)),(13,iv i)]->K .normal ⟨t',IObj.cells [p.ns.v,p.as.v,p.fs.v]::J'⟩) :
  Ex (callN Ftab S m) D out m (i77.body.sub [1,0,1,0,0,1,1,0,0,1,1,1]) K ⟨t,IObj.cells [p.ns.v,p.as.v,p.fs.v]::(J++[.cells [.int .i64 x.id,.int .i64 x.fr,.int .i64 x.to,x.via.v,.int .i64 x.l,.int .i64 x.r],.free])⟩:=by
 simp only [V3] at hfr
 have hqf:=q'.few
 have e1:wrapI .i64 ((q'.l.length:Int) - 1)=((q'.l.length - 1:Nat):Int):=we
 simp only [i77,IC.sub,V0,sevalprocAttr,hfr,zR,zW,st_end2,Yw,e1]
 refine zb (fun jj st=>∃ (k:Nat) (J2:yLO) (lv2:IV) (xs2:List (Sg × Nat)),q'.l.length - 1 - k<=jj/\k<=q'.l.length - 1/\OwnJ (bdG D) 2 D 1 J2 lv2 xs2/\LinesOK J2 xs2/\xs2.length<=xs.length+k/\J2[J.length+2]?=some (.cells (lineC x q'))/\st.own=IObj.cells [p.ns.v,p.as.v,p.fs.v]::J2/\Slots 67 st.t [(1,.ptrM D 0 0),(2,lv2),(3,.bool false),(6,q'.v),(8,.ptrM D (J.length+2+1) 0),(11,p.as.v),(12,iv (p.as.l.length:Nat)),(13,iv i),(44,iv (q'.l.length - 1:Nat)),(45,iv k)]) (q'.l.length - 1) (by omega) ⟨0,_,lv,xs,by omega,by omega,hO.more _,hL.more,by omega,Yw,rfl,by simp only [V0,sevalprocAttr,hfr,zcp,e1]⟩ ?_
 clear hfr
 rintro jj ⟨t,own1⟩ KB ⟨k,J2,lv2,xs2,hjj,hk,hO2,hL2,hx2,hln,ho,hfr⟩ hnB heB hrB
 dsimp only at ho hfr
 subst ho
 simp only [V3] at hfr
 by_cases h:k<q'.l.length - 1
 ·have h0:k<q'.l.length:=by omega
  have h1:k+1<q'.l.length:=by omega
  obtain ⟨y0,hx0⟩:=gx (l:=q'.l) (i:=k) h0
  obtain ⟨y1,hx1⟩:=gx (l:=q'.l) (i:=k+1) h1
  have r0:rdN (q'.l.flatMap Pt.c) (k*2) 2=some [.int .i64 y0.x,.int .i64 y0.y]:=(zc (sz:=2) (fun _=>rfl) 0 2 hx0 (by omega)).trans rfl
  have r1:rdN (q'.l.flatMap Pt.c) ((k+1)*2) 2=some [.int .i64 y1.x,.int .i64 y1.y]:=(zc (sz:=2) (fun _=>rfl) 0 2 hx1 (by omega)).trans rfl
  have hw:wrapI .i64 ((k:Int)+1)=((k+1:Nat):Int):=we
  cases hq1:ptE y0 y1
  ·have hq':=hq1
   unfold ptE at hq'
   obtain ⟨e,lv3,J3,happ,hO3,hkeep⟩:=ownJ_app2 (Pre:=[IObj.cells [p.ns.v,p.as.v,p.fs.v]]) (n0:=J2.length+1) (slot:=0) (k:=0) (out:=out) (R:=[.free]) (bdG_len D) hO2 (ys:=[(⟨x,q',k,h1⟩,J.length+2+1)]) (by simp) (by simp only [zcc,zci]; omega) (by simp only [zcc,zci]; omega) rfl rfl
   simp only [zcu,zc4,zcs,zdo,bdG,zcc,zci,zda,zcq] at happ
   simp only [V0,sevalprocAttr,hfr,h,za q' h0,za q' h1,r0,r1,hw,yf,hq',zc7]
   refine ⟨by simp [comm],?_⟩
   simp only [V0,sevalprocAttr,hfr,yf,hq',zc7,cells_pm,rep1,zw,zF,zJ,cellsI_2,happ,hw]
   have keep:∀ (j:Nat) (z:IObj),J2[j]?=some z->z≠IObj.cells (xs2.flatMap (bdG D))->J3[j]?=some z:=fun j z hj hz=>by
    have hlt:=(zb6.1 hj).1
    exact hkeep j z (by omega) (by rw [zb8 hlt]; exact hj) (.inr hz)
   have hln3:=keep _ _ hln line_ne
   refine hnB _ (q'.l.length - 1 - (k+1)) (by omega) ⟨k+1,J3,lv3,_,by omega,by omega,hO3,?_,by simp only [zce,zcc,zci]; omega,hln3,rfl,by simp only [V0,sevalprocAttr,hfr,hw,yf,hq',zc7]⟩
   intro sb hsb
   rcases zd4.1 hsb with hsb | hsb
   ·exact (hL2.keep keep) sb hsb
   ·simp only [zcx,zc1,or_false] at hsb
    subst hsb
    exact ⟨by simp,by simpa using hln3⟩
  ·have hq':=hq1
   unfold ptE at hq'
   simp only [V0,sevalprocAttr,hfr,h,za q' h0,za q' h1,r0,r1,hw,yf,hq',zc7]
   refine ⟨by simp [comm],?_⟩
   simp only [V0,sevalprocAttr,hfr,yf,hq',zc7]
   refine hrB _ ?_
   exact hR _ _ (by simp only [V0,sevalprocAttr,hfr])
 ·simp only [V0,sevalprocAttr,hfr,h]
  refine heB _ _ ?_
  simp only [V0,sevalprocAttr,hfr]
  exact hK _ _ _ _ hO2 hL2 (by omega) (by simp only [V0,sevalprocAttr,hfr])
theorem at_segs (hS:NoS S) (p:Pn) (hv:∀ a∈p.as.l,a.via.l.length<=64) (ha:p.as.l.length<=1000):∃ N,∀ m,N<=m->∀ d out ownV own id,own[id]?=some .free->∃ r,callN Ftab S m d out ownV own id 77 [.agg p.c]=some r/\SegsR p d id own r:=by
 have hfv:FewVia p:=fun a h=>by have:=hv a h; omega
 have hviaD:∀ id,(arcD p id).via.l.length<=64:=fun id=>by
  unfold arcD
  cases hf:arcF p id with
  | none=>simp [zAc,nilS]
  | some a=>exact hv a (List.mem_of_find?_eq_some hf)
 have hpath:∀ a∈p.as.l,∃ N,∀ m,N<=m->∃ q':SlOf 2 Pt.c,(pathOk p a.id=true->q'.l=pathL p a.id)/\∀ d out ownV own id,callN Ftab S m d out ownV own id 32 [.agg p.c,iv a.id]=some (.r,.tuple [q'.v,iv (bif pathOk p a.id then 0 else 7)],own):=fun a _=>by
  obtain ⟨q',h1,N,h2⟩:=ZA hS p a.id hfv
  exact ⟨N,fun m hm=>⟨q',h1,h2 m hm⟩⟩
 obtain ⟨Np,hNp⟩:=Yb p.as.l hpath
 refine ⟨Np+p.as.l.length+100,fun m hm d out ownV own id hid=>?_⟩
 obtain ⟨m,rfl⟩:∃ q,m=q+1:=⟨m - 1,by omega⟩
 refine Zr (i:=i77) (ns hS (by rfl)) rfl (by decide) (lb rfl) fun t hfr=>?_
 simp only [V2,Nat.reduceAdd,i77,Pn.c] at hfr
 generalize (fun l=>if l=d then ownV else out l:yLM)=out2
 obtain ⟨m,rfl⟩:∃ q,m=q+6:=⟨m - 6,by omega⟩
 have hnil:∀ (o:yLO) (b:Bool),leave (m+6) d o own id 1 (.tuple [.nilsl,.bool b])=some (.r,.tuple [.nilsl,.bool b],own):=fun o b=>by simp [leave,freeze]
 have haf:=p.as.few
 have hT0:=fun (x:Ac) (q':SlOf 2 Pt.c) {i:Nat}=>@segs_tail S hS p x q' (m+6) (d+1) i out2
 rw [show i77.body=.seq (i77.body.sub [0]) (.seq (.seq (i77.body.sub [1,0,0]) (.block 0 (.loop (.seq (i77.body.sub [1,0,1,0,0,0]) (.seq (i77.body.sub [1,0,1,0,0,1,0]) (.seq (.block 1 (.seq (i77.body.sub [1,0,1,0,0,1,1,0,0,0]) (.seq (i77.body.sub [1,0,1,0,0,1,1,0,0,1,0]) (.seq (i77.body.sub [1,0,1,0,0,1,1,0,0,1,1,0]) (i77.body.sub [1,0,1,0,0,1,1,0,0,1,1,1]))))) (i77.body.sub [1,0,1,0,0,1,1,1]))))))) (i77.body.sub [1,1])) from rfl]
 generalize i77.body.sub [1,0,1,0,0,1,1,0,0,1,1,1]=T at hT0 ⊢
 simp only [i77,IC.sub,V0,sevalprocAttr,hfr]
 refine zb (fun jj st=>∃ (i:Nat) (J:yLO) (lv:IV) (xs:List (Sg × Nat)),p.as.l.length - i<=jj/\i<=p.as.l.length/\OwnJ (bdG (d+1)) 2 (d+1) 1 J lv xs/\LinesOK J xs/\xs.length<=i*100/\st.own=.cells [p.ns.v,p.as.v,p.fs.v]::J/\Slots 67 st.t [(1,.ptrM (d+1) 0 0),(2,lv),(3,.bool false),(11,p.as.v),(12,iv (p.as.l.length:Nat)),(13,iv i)]) p.as.l.length (by omega) ⟨0,[],.nilsl,[],by omega,by omega,.inl ⟨rfl,rfl⟩,fun _ h=>by simp at h,by simp,rfl,by simp only [V0,sevalprocAttr,hfr,zcp]⟩ ?_
 clear hfr
 rintro jj ⟨t,own1⟩ KA ⟨i,J,lv,xs,hjj,hi,hO,hL,hx1,ho,hfr⟩ hnA heA hrA
 dsimp only at ho hfr
 subst ho
 simp only [V3] at hfr
 by_cases h:i<p.as.l.length
 ·have hx:p.as.l[i]?=some p.as.l[i]:=zb7 h
  obtain ⟨q',hq1,hq2⟩:=hNp _ (zdj h) (m+6) (by omega)
  generalize p.as.l[i]=x at hx hq1 hq2
  have hrd:rdN (p.as.l.flatMap Ac.c) (i*6) 6=some [.int .i64 x.id,.int .i64 x.fr,.int .i64 x.to,x.via.v,.int .i64 x.l,.int .i64 x.r]:=(zc Ac.c_len 0 6 hx (by omega)).trans rfl
  have hw:wrapI .i64 ((i:Int)+1)=((i+1:Nat):Int):=we
  simp only [zg,Pn.c] at hq2
  have hbne:∀ z:Int,(z != 0)=!(z==0):=fun z=>rfl
  cases hp:pathOk p x.id
  ·have h70:(((7:Int))==0)=false:=by decide
   simp only [hp,cond_false] at hq2
   simp only [V0,sevalprocAttr,hfr,h,za p.as h,hrd,zR,zW,hq2,hbne,h70]
   refine hrA _ ?_
   simp only [V0,sevalprocAttr,hfr]
   exact ⟨by simp,_,_,rfl,hnil _ _,.inl ⟨false,rfl⟩⟩
  ·have h00:(((0:Int))==0)=true:=by decide
   simp only [hp,cond_true] at hq2
   have hql:=hq1 hp
   have hq3:2<=q'.l.length/\q'.l.length<=66:=by
    rw [hql]
    have:=hviaD x.id
    simp [pathL]
    omega
   have hT:=fun {i:Nat}=>@hT0 x q' i
   cases hft:x.fr==x.to
   ·simp only [V0,sevalprocAttr,hfr,h,za p.as h,hrd,zR,zW,hq2,hbne,h00,hft]
    refine hT (i:=i) (by omega) hq3 _ J lv xs hO hL (by omega) (by simp only [V0,sevalprocAttr,hfr]) (fun t' O' ht'=>?_) (fun t' J' lv' xs' hO' hL' hx' ht'=>?_)
    ·simp only [zd,zh] at ht'
     simp only [V0,sevalprocAttr,ht']
     refine hrA _ ?_
     simp only [V0,sevalprocAttr,ht']
     exact ⟨by simp,_,_,rfl,hnil _ _,.inl ⟨false,rfl⟩⟩
    ·simp only [V3] at ht'
     simp only [V0,sevalprocAttr,ht',hw]
     exact hnA _ (p.as.l.length - (i+1)) (by omega) ⟨i+1,J',lv',xs',by omega,by omega,hO',hL',by omega,rfl,by simp only [V0,sevalprocAttr,ht',hw]⟩
   ·by_cases h4:(q'.l.length:Int)<4
    ·simp only [V0,sevalprocAttr,hfr,h,za p.as h,hrd,zR,zW,hq2,hbne,h00,hft,h4]
     refine hrA _ ?_
     simp only [V0,sevalprocAttr,hfr]
     exact ⟨by simp,_,_,rfl,hnil _ _,.inl ⟨false,rfl⟩⟩
    ·simp only [V0,sevalprocAttr,hfr,h,za p.as h,hrd,zR,zW,hq2,hbne,h00,hft,h4]
     refine hT (i:=i) (by omega) hq3 _ J lv xs hO hL (by omega) (by simp only [V0,sevalprocAttr,hfr]) (fun t' O' ht'=>?_) (fun t' J' lv' xs' hO' hL' hx' ht'=>?_)
     ·simp only [zd,zh] at ht'
      simp only [V0,sevalprocAttr,ht']
      refine hrA _ ?_
      simp only [V0,sevalprocAttr,ht']
      exact ⟨by simp,_,_,rfl,hnil _ _,.inl ⟨false,rfl⟩⟩
     ·simp only [V3] at ht'
      simp only [V0,sevalprocAttr,ht',hw]
      exact hnA _ (p.as.l.length - (i+1)) (by omega) ⟨i+1,J',lv',xs',by omega,by omega,hO',hL',by omega,rfl,by simp only [V0,sevalprocAttr,ht',hw]⟩
 ·simp only [V0,sevalprocAttr,hfr,h]
  refine heA _ _ ?_
  have hO2:=hO
  rcases hO with ⟨rfl,rfl⟩ | ⟨b,hne,rfl,hb⟩
  ·simp only [V0,sevalprocAttr,hfr]
   exact ⟨by simp,_,_,rfl,hnil _ _,.inl ⟨true,rfl⟩⟩
  ·simp only [V0,sevalprocAttr,hfr]
   refine ⟨by simp,_,_,rfl,?_,.inr ⟨xs.map Prod.fst,by simpa using hne,?_,rfl⟩⟩
   ·have hb1:(IObj.cells [p.ns.v,p.as.v,p.fs.v]::J)[1+b]?=some (.cells (xs.flatMap (bdG (d+1)))):=by rw [Nat.add_comm,zcg]; exact hb
    have hl2:∀ sb∈xs,(IObj.cells [p.ns.v,p.as.v,p.fs.v]::J)[sb.2]?=some (.cells (lineC sb.1.a sb.1.path)):=fun sb hs=>by
     obtain ⟨g1,g2⟩:=hL sb hs
     rw [show sb.2=sb.2 - 1+1 by omega,zcg]
     exact g2
    have:=leave_segs (n:=m+6) (b:=true) (by omega) hb1 hl2 hid
    rw [zdi]
    exact this
   ·rw [zdi]
    have:i=p.as.l.length:=by omega
    rw [← this]
    exact hx1
end
end
section
section
variable {B R Q:yLO} {j c i:Nat} {w x:IObj} {vis:List Nat}
theorem zp:(B++(R++Q))[B.length+(R.length+j)]?=Q[j]?:=by
 rw [zcb (by omega),zdd,zcb (by omega),zdd]
theorem zk:(B++(R++Q))[B.length+R.length]?=Q[0]?:=zp (j:=0)
theorem zq:(B++(R++Q)).set (B.length+(R.length+j)) w=B++(R++Q.set j w):=by
 rw [zdl _ _ (by omega),zdd,zdl _ _ (by omega),zdd]
theorem zn:(B++(R++Q)).set (B.length+R.length) w=B++(R++Q.set 0 w):=zq (j:=0)
theorem yo (h:j<c):(hide vis (B.length+(R.length+c)) (B++(R++Q)))[B.length+(R.length+j)]?=Q[j]?:=by
 rw [zB,zp,decide_eq_true (show B.length+(R.length+j)<B.length+(R.length+c) by omega)]
 simp
theorem yj (h:0<c):(hide vis (B.length+(R.length+c)) (B++(R++Q)))[B.length+R.length]?=Q[0]?:=yo (j:=0) h
theorem zaa (h:B[i]?=some x):(B++R)[i]?=some x:=by
 rw [zb8 (zb6.1 h).1]
 exact h
theorem b_hide (h:B[i]?=some x):(hide vis (B.length+c) (B++R))[i]?=some x:=by
 have hl:=(zb6.1 h).1
 rw [zB,zaa h,decide_eq_true (show i<B.length+c by omega)]
 simp
end
section
variable {S:ySM}
theorem pl_nodes (hS:NoS S) (p:Pn) (s:Sg) {m D si:Nat} {out:yLM} (hm:p.ns.l.length+20<=m) {K:yKM} (t:List IV) (B R:yLO) (lv mp lv2 nn ii:IV) (h0:B[0]?=some (.cells [p.ns.v,p.as.v,p.fs.v])) (hsi:B[si]?=some (.cells s.g))
  (hfr:Slots 117 t [(1,.ptrM D 0 0),(9,.ptrM D si 0),(3,lv),(5,mp),(39,lv2),(40,nn),(41,ii)])
  (hR:∀ t' O',Slots 117 t' [(2,.bool false)]->K .ret ⟨t',O'⟩)
  (hK:∀ t' R',Slots 117 t' [(1,.ptrM D 0 0),(3,lv),(5,mp),(39,lv2),(40,nn),(41,ii)]->K .normal ⟨t',B++R'⟩) :
  Ex (callN Ftab S m) D out m (i59.body.sub [1,1,1,1,1,1,0,1,0,0,1,1,0,0,1,1]) K ⟨t,B++R⟩:=by
 simp only [V3] at hfr
 have hnf:=p.ns.few
 simp only [Sg.g,lineC] at hsi
 have g0:∀ R,(B++R)[0]?=some (.cells [p.ns.v,p.as.v,p.fs.v]):=fun R=>zaa h0
 have gs:∀ R,(B++R)[si]?=some (.cells [.ptrC [.int .i64 s.a.id,.int .i64 s.a.fr,.int .i64 s.a.to,s.a.via.v,.int .i64 s.a.l,.int .i64 s.a.r,s.path.v] 0,.int .i64 (s.k:Int)]):=fun R=>zaa hsi
 have gh:∀ vis c R,(hide vis (B.length+c) (B++R))[si]?=some (.cells [.ptrC [.int .i64 s.a.id,.int .i64 s.a.fr,.int .i64 s.a.to,s.a.via.v,.int .i64 s.a.l,.int .i64 s.a.r,s.path.v] 0,.int .i64 (s.k:Int)]):=fun vis c R=>b_hide hsi
 have ce:=YE hS s m (by omega)
 have cf:=at_first hS s m (by omega)
 have cl:=at_last hS s m (by omega)
 have co:∀ (u v w:Pt) d out ownV own i,callN Ftab S m d out ownV own i 85 [.agg [.int .i64 u.x,.int .i64 u.y],.agg [.int .i64 v.x,.int .i64 v.y],.agg [.int .i64 w.x,.int .i64 w.y]]=some (.r,.bool (onI u v w),own):=fun u v w d out ownV own i=>at_on hS u v w m (by omega) d out ownV own i
 simp only [Sg.g,lineC,Pt.c,zg] at ce cf cl
 simp only [i59,IC.sub,V0,sevalprocAttr,zcl,zp,zk,zq,zn,hfr,g0]
 refine zb (fun jj st=>∃ (k:Nat) (R:yLO),p.ns.l.length - k<=jj/\k<=p.ns.l.length/\st.own=B++R/\Slots 117 st.t [(1,.ptrM D 0 0),(9,.ptrM D si 0),(3,lv),(5,mp),(39,lv2),(40,nn),(41,ii),(67,p.ns.v),(68,iv (p.ns.l.length:Nat)),(69,iv k)]) p.ns.l.length (by omega) ⟨0,_,by omega,by omega,rfl,by simp only [V0,sevalprocAttr,zcl,zp,zk,zq,zn,hfr,zcp]⟩ ?_
 clear hfr
 rintro jj ⟨t,own1⟩ KB ⟨k,R,hjj,hk,ho,hfr⟩ hnB heB hrB
 dsimp only at ho hfr
 subst ho
 simp only [V3] at hfr
 by_cases h:k<p.ns.l.length
 ·obtain ⟨x,hx⟩:=gx (l:=p.ns.l) (i:=k) h
  have hrd:rdN (p.ns.l.flatMap Nd.c) (k*3) 3=some [.int .i64 x.id,.int .i64 x.at'.x,.int .i64 x.at'.y]:=(zc Nd.c_len 0 3 hx (by omega)).trans rfl
  have hw:wrapI .i64 ((k:Int)+1)=((k+1:Nat):Int):=we
  cases o:onI s.p0 s.p1 x.at'
  ·skip
   simp only [V0,sevalprocAttr,zcl,zp,zk,zq,zn,hfr,h,za p.ns h,hrd,g0,gs,gh,yo,yj,ce,cf,cl,co,o]
   refine ⟨by simp [comm],?_⟩
   simp only [V0,sevalprocAttr,zcl,zp,zk,zq,zn,hfr,hw]
   exact hnB _ (p.ns.l.length - (k+1)) (by omega) ⟨k+1,_,by omega,by omega,rfl,by simp only [V0,sevalprocAttr,zcl,zp,zk,zq,zn,hfr,hw,o]⟩
  ·cases f:(s.k:Int)==0
   ·skip
    cases l:(s.k:Int)==((s.path.l.length - 2:Nat):Int)
    ·skip
     simp only [V0,sevalprocAttr,zcl,zp,zk,zq,zn,hfr,h,za p.ns h,hrd,g0,gs,gh,yo,yj,ce,cf,cl,co,o,f,l]
     refine ⟨by simp [comm],?_⟩
     simp only [V0,sevalprocAttr,zcl,zp,zk,zq,zn,hfr]
     refine hrB _ ?_
     exact hR _ _ (by simp only [V0,sevalprocAttr,zcl,zp,zk,zq,zn,hfr])
    ·cases e2:s.a.to==x.id
     ·skip
      simp only [V0,sevalprocAttr,zcl,zp,zk,zq,zn,hfr,h,za p.ns h,hrd,g0,gs,gh,yo,yj,ce,cf,cl,co,o,f,l,e2]
      refine ⟨by simp [comm],?_⟩
      simp only [V0,sevalprocAttr,zcl,zp,zk,zq,zn,hfr]
      refine hrB _ ?_
      exact hR _ _ (by simp only [V0,sevalprocAttr,zcl,zp,zk,zq,zn,hfr])
     ·skip
      simp only [V0,sevalprocAttr,zcl,zp,zk,zq,zn,hfr,h,za p.ns h,hrd,g0,gs,gh,yo,yj,ce,cf,cl,co,o,f,l,e2]
      refine ⟨by simp [comm],?_⟩
      simp only [V0,sevalprocAttr,zcl,zp,zk,zq,zn,hfr,hw]
      exact hnB _ (p.ns.l.length - (k+1)) (by omega) ⟨k+1,_,by omega,by omega,rfl,by simp only [V0,sevalprocAttr,zcl,zp,zk,zq,zn,hfr,hw,o,f,l,e2]⟩
   ·cases e1:s.a.fr==x.id
    ·skip
     cases l:(s.k:Int)==((s.path.l.length - 2:Nat):Int)
     ·skip
      simp only [V0,sevalprocAttr,zcl,zp,zk,zq,zn,hfr,h,za p.ns h,hrd,g0,gs,gh,yo,yj,ce,cf,cl,co,o,f,e1,l]
      refine ⟨by simp [comm],?_⟩
      simp only [V0,sevalprocAttr,zcl,zp,zk,zq,zn,hfr]
      refine hrB _ ?_
      exact hR _ _ (by simp only [V0,sevalprocAttr,zcl,zp,zk,zq,zn,hfr])
     ·cases e2:s.a.to==x.id
      ·skip
       simp only [V0,sevalprocAttr,zcl,zp,zk,zq,zn,hfr,h,za p.ns h,hrd,g0,gs,gh,yo,yj,ce,cf,cl,co,o,f,e1,l,e2]
       refine ⟨by simp [comm],?_⟩
       simp only [V0,sevalprocAttr,zcl,zp,zk,zq,zn,hfr]
       refine hrB _ ?_
       exact hR _ _ (by simp only [V0,sevalprocAttr,zcl,zp,zk,zq,zn,hfr])
      ·skip
       simp only [V0,sevalprocAttr,zcl,zp,zk,zq,zn,hfr,h,za p.ns h,hrd,g0,gs,gh,yo,yj,ce,cf,cl,co,o,f,e1,l,e2]
       refine ⟨by simp [comm],?_⟩
       simp only [V0,sevalprocAttr,zcl,zp,zk,zq,zn,hfr,hw]
       exact hnB _ (p.ns.l.length - (k+1)) (by omega) ⟨k+1,_,by omega,by omega,rfl,by simp only [V0,sevalprocAttr,zcl,zp,zk,zq,zn,hfr,hw,o,f,e1,l,e2]⟩
    ·skip
     simp only [V0,sevalprocAttr,zcl,zp,zk,zq,zn,hfr,h,za p.ns h,hrd,g0,gs,gh,yo,yj,ce,cf,cl,co,o,f,e1]
     refine ⟨by simp [comm],?_⟩
     simp only [V0,sevalprocAttr,zcl,zp,zk,zq,zn,hfr,hw]
     exact hnB _ (p.ns.l.length - (k+1)) (by omega) ⟨k+1,_,by omega,by omega,rfl,by simp only [V0,sevalprocAttr,zcl,zp,zk,zq,zn,hfr,hw,o,f,e1]⟩
 ·simp only [V0,sevalprocAttr,zcl,zp,zk,zq,zn,hfr,h]
  refine heB _ _ ?_
  simp only [V0,sevalprocAttr,zcl,zp,zk,zq,zn,hfr]
  exact hK _ _ (by simp only [V0,sevalprocAttr,zcl,zp,zk,zq,zn,hfr])
end
end
section
section
variable {S:ySM}
theorem slice_from {D n i:Nat} (h:i+1<=n) (t:List IV) (x:Opd) (hx:ρ t x=.int .i64 ((i+1:Nat):Int)):sliceI 2 t (.slM D 1 0 n n 2 false) (some x) none none=some (.slM D 1 ((i+1)*2) (n - (i+1)) (n - (i+1)) 2 false):=by
 simp only [sliceI,optI,hx,z8]
 rw [if_pos ⟨⟨zcf _,zcf _,h⟩,trivial⟩]
 simp
theorem pl_pairs (hS:NoS S) (p:Pn) (l:List Sg) (s:Sg) (L:List (Int × Pt)) (bs:List Nat) (ck:Nat) {m D si i:Nat} {out:yLM} (hm:l.length+30<=m) (hl:l.length<65536) (hi:i<l.length) {K:yKM} (t:List IV) (B R:yLO) (lv2 nn ii:IV) (h1:B[1]?=some (.cells (l.flatMap Sg.g))) (h2:B[2]?=some (.map (ptKs L) (ptVs L) bs ck)) (hsi:B[si]?=some (.cells s.g))
  (hfr:Slots 117 t [(1,.ptrM D 0 0),(8,iv i),(9,.ptrM D si 0),(3,.slM D 1 0 l.length l.length 2 false),(5,.mapM D 2),(39,lv2),(40,nn),(41,ii)])
  (hR:∀ t' O',Slots 117 t' [(2,.bool false)]->K .ret ⟨t',O'⟩)
  (hK:∀ t' R',Slots 117 t' [(1,.ptrM D 0 0),(9,.ptrM D si 0),(3,.slM D 1 0 l.length l.length 2 false),(5,.mapM D 2),(39,lv2),(40,nn),(41,ii)]->K .normal ⟨t',B++R'⟩) :
  Ex (callN Ftab S m) D out m (i59.body.sub [1,1,1,1,1,1,0,1,0,0,1,1,0,0,1,0]) K ⟨t,B++R⟩:=by
 simp only [V3] at hfr
 have c3:∀ (u:Sg) R own id,callN Ftab S m D out (B++R) own id 83 [.agg s.g,.agg u.g,.mapM D 2]=some (.r,.bool (compB L s u),own):=fun u R own id=>at_comp hS s u L (bs:=bs) (ck:=ck) (by omega) (zaa h2)
 simp only [Sg.g,lineC] at hsi c3
 have g1:∀ R,(B++R)[1]?=some (.cells (l.flatMap Sg.g)):=fun R=>zaa h1
 have gs:∀ R,(B++R)[si]?=some (.cells [.ptrC [.int .i64 s.a.id,.int .i64 s.a.fr,.int .i64 s.a.to,s.a.via.v,.int .i64 s.a.l,.int .i64 s.a.r,s.path.v] 0,.int .i64 (s.k:Int)]):=fun R=>zaa hsi
 have gh:∀ vis c R,(hide vis (B.length+c) (B++R))[si]?=some (.cells [.ptrC [.int .i64 s.a.id,.int .i64 s.a.fr,.int .i64 s.a.to,s.a.via.v,.int .i64 s.a.l,.int .i64 s.a.r,s.path.v] 0,.int .i64 (s.k:Int)]):=fun vis c R=>b_hide hsi
 have cw:=fun (u:Sg) d out ownV own i=>at_west hS u m (by omega) d out ownV own i
 have cea:=at_east hS s m (by omega)
 simp only [Sg.g,lineC] at cw cea
 have hwi:wrapI .i64 ((i:Int)+1)=((i+1:Nat):Int):=we
 have hsl:=slice_from (D:=D) (n:=l.length) (i:=i) (by omega)
 simp only [i59,IC.sub,V0,sevalprocAttr,zcl,zp,zk,zq,zn,hfr,hwi,ym,hsl]
 refine zb (fun jj st=>∃ (k:Nat) (R:yLO),l.length - (i+1) - k<=jj/\k<=l.length - (i+1)/\st.own=B++R/\Slots 117 st.t [(1,.ptrM D 0 0),(9,.ptrM D si 0),(3,.slM D 1 0 l.length l.length 2 false),(5,.mapM D 2),(39,lv2),(40,nn),(41,ii),(49,.slM D 1 ((i+1)*2) (l.length - (i+1)) (l.length - (i+1)) 2 false),(50,iv (l.length - (i+1):Nat)),(51,iv k)]) (l.length - (i+1)) (by omega) ⟨0,_,by omega,by omega,rfl,by simp only [V0,sevalprocAttr,zcl,zp,zk,zq,zn,hfr,zcp,hwi,hsl]⟩ ?_
 clear hfr
 rintro jj ⟨t,own1⟩ KB ⟨k,R,hjj,hk,ho,hfr⟩ hnB heB hrB
 dsimp only at ho hfr
 subst ho
 simp only [V3] at hfr
 by_cases h:k<l.length - (i+1)
 ·have hx:l[i+1+k]?=some (l[i+1+k]'(by omega)):=zb7 (by omega)
  generalize l[i+1+k]'(by omega)=u at hx
  have ldu:(rdN (l.flatMap Sg.g) ((i+1)*2+k*2) 2).bind (mkv true)=some (.agg [.ptrC [.int .i64 u.a.id,.int .i64 u.a.fr,.int .i64 u.a.to,u.a.via.v,.int .i64 u.a.l,.int .i64 u.a.r,u.path.v] 0,.int .i64 (u.k:Int)]):=by
   have:=sg_elt.ld hx
   rw [Nat.add_mul] at this
   exact this
  have hw:wrapI .i64 ((k:Int)+1)=((k+1:Nat):Int):=we
  have cwu:=cw u
  have ccu:=c3 u
  by_cases hgt:s.ea<u.w
  ·simp only [V0,sevalprocAttr,zcl,zp,zk,zq,zn,hfr,h,zI,g1,ldu]
   simp only [V0,sevalprocAttr,zcl,zp,zk,zq,zn,hfr,gs,gh,yo,yj,cwu,cea,gt_iff_lt,hgt]
   refine ⟨by simp [comm],?_⟩
   simp only [V0,sevalprocAttr,zcl,zp,zk,zq,zn,hfr]
   refine heB _ _ ?_
   simp only [V0,sevalprocAttr,zcl,zp,zk,zq,zn,hfr]
   exact hK _ _ (by simp only [V0,sevalprocAttr,zcl,zp,zk,zq,zn,hfr,gt_iff_lt,hgt,cwu,cea])
  ·cases hcb:compB L s u
   ·simp only [V0,sevalprocAttr,zcl,zp,zk,zq,zn,hfr,h,zI,g1,ldu]
    simp only [V0,sevalprocAttr,zcl,zp,zk,zq,zn,hfr,gs,gh,yo,yj,cwu,cea,gt_iff_lt,hgt]
    refine ⟨by simp [comm],?_⟩
    simp only [V0,sevalprocAttr,zcl,zp,zk,zq,zn,hfr,gs,ccu,hcb]
    refine hrB _ ?_
    exact hR _ _ (by simp only [V0,sevalprocAttr,zcl,zp,zk,zq,zn,hfr])
   ·simp only [V0,sevalprocAttr,zcl,zp,zk,zq,zn,hfr,h,zI,g1,ldu]
    simp only [V0,sevalprocAttr,zcl,zp,zk,zq,zn,hfr,gs,gh,yo,yj,cwu,cea,gt_iff_lt,hgt]
    refine ⟨by simp [comm],?_⟩
    simp only [V0,sevalprocAttr,zcl,zp,zk,zq,zn,hfr,gs,ccu,hcb,hw]
    exact hnB _ (l.length - (i+1) - (k+1)) (by omega) ⟨k+1,_,by omega,by omega,rfl,by simp only [V0,sevalprocAttr,zcl,zp,zk,zq,zn,hfr,hw,hcb,cwu,cea,ccu]⟩
 ·simp only [V0,sevalprocAttr,zcl,zp,zk,zq,zn,hfr,h]
  refine heB _ _ ?_
  simp only [V0,sevalprocAttr,zcl,zp,zk,zq,zn,hfr]
  exact hK _ _ (by simp only [V0,sevalprocAttr,zcl,zp,zk,zq,zn,hfr])
end
end
section
section
variable {S:ySM}
theorem pl_main (hS:NoS S) (p:Pn) (l:List Sg) (L:List (Int × Pt)) (bs:List Nat) (ck:Nat) {m D:Nat} {out:yLM} (hm:l.length+p.ns.l.length+50<=m) (hl:l.length<65536) {K:yKM} (t:List IV) (B R:yLO) (h0:B[0]?=some (.cells [p.ns.v,p.as.v,p.fs.v])) (h1:B[1]?=some (.cells (l.flatMap Sg.g))) (h2:B[2]?=some (.map (ptKs L) (ptVs L) bs ck))
  (hfr:Slots 117 t [(1,.ptrM D 0 0),(3,.slM D 1 0 l.length l.length 2 false),(5,.mapM D 2)])
  (hF:∀ v t' O',Slots 117 t' [(2,.bool v)]->K .ret ⟨t',O'⟩) :
  Ex (callN Ftab S m) D out m (i59.body.sub [1,1,1,1,1,1]) K ⟨t,B++R⟩:=by
 simp only [V3] at hfr
 have hP1:=fun (s:Sg) {si i:Nat}=>@pl_pairs S hS p l s L bs ck m D si i out (by omega) hl
 have hP2:=fun (s:Sg) {si:Nat}=>@pl_nodes S hS p s m D si out (by omega)
 rw [show i59.body.sub [1,1,1,1,1,1]=.seq (.seq (i59.body.sub [1,1,1,1,1,1,0,0]) (.block 2 (.loop (.seq (i59.body.sub [1,1,1,1,1,1,0,1,0,0,0]) (.seq (i59.body.sub [1,1,1,1,1,1,0,1,0,0,1,0]) (.seq (.block 3 (.seq (i59.body.sub [1,1,1,1,1,1,0,1,0,0,1,1,0,0,0]) (.seq (i59.body.sub [1,1,1,1,1,1,0,1,0,0,1,1,0,0,1,0]) (i59.body.sub [1,1,1,1,1,1,0,1,0,0,1,1,0,0,1,1])))) (i59.body.sub [1,1,1,1,1,1,0,1,0,0,1,1,1]))))))) (i59.body.sub [1,1,1,1,1,1,1]) from rfl]
 generalize i59.body.sub [1,1,1,1,1,1,0,1,0,0,1,1,0,0,1,0]=T1 at hP1 ⊢
 generalize i59.body.sub [1,1,1,1,1,1,0,1,0,0,1,1,0,0,1,1]=T2 at hP2 ⊢
 have g1:∀ R,(B++R)[1]?=some (.cells (l.flatMap Sg.g)):=fun R=>zaa h1
 simp only [i59,IC.sub,V0,sevalprocAttr,zcl,zp,zk,zq,zn,hfr]
 refine zb (fun jj st=>∃ (i:Nat) (R:yLO),l.length - i<=jj/\i<=l.length/\st.own=B++R/\Slots 117 st.t [(1,.ptrM D 0 0),(3,.slM D 1 0 l.length l.length 2 false),(5,.mapM D 2),(39,.slM D 1 0 l.length l.length 2 false),(40,iv (l.length:Nat)),(41,iv i)]) l.length (by omega) ⟨0,_,by omega,by omega,rfl,by simp only [V0,sevalprocAttr,zcl,zp,zk,zq,zn,hfr,zcp]⟩ ?_
 clear hfr
 rintro jj ⟨t,own1⟩ KB ⟨i,R,hjj,hi,ho,hfr⟩ hnB heB hrB
 dsimp only at ho hfr
 subst ho
 simp only [V3] at hfr
 by_cases h:i<l.length
 ·obtain ⟨s,hx⟩:=gx (l:=l) (i:=i) h
  have lds:(rdN (l.flatMap Sg.g) (i*2) 2).bind (mkv true)=some (.agg [.ptrC [.int .i64 s.a.id,.int .i64 s.a.fr,.int .i64 s.a.to,s.a.via.v,.int .i64 s.a.l,.int .i64 s.a.r,s.path.v] 0,.int .i64 (s.k:Int)]):=sg_elt.ld hx
  have hw:wrapI .i64 ((i:Int)+1)=((i+1:Nat):Int):=we
  have hB1:∀ j x,B[j]?=some x->(B++(R++[.cells s.g]))[j]?=some x:=fun j x h=>zaa h
  have hBs:(B++(R++[.cells s.g]))[B.length+R.length]?=some (.cells s.g):=by rw [zk]; rfl
  simp only [V0,sevalprocAttr,zcl,zp,zk,zq,zn,hfr,h,zI,g1,lds]
  have ho1:(B++(R++[IObj.cells [.ptrC [.int .i64 s.a.id,.int .i64 s.a.fr,.int .i64 s.a.to,s.a.via.v,.int .i64 s.a.l,.int .i64 s.a.r,s.path.v] 0,.int .i64 (s.k:Int)]]))=(B++(R++[.cells s.g]))++[]:=by rw [zda]; rfl
  rw [ho1]
  refine hP1 s h _ _ [] (.slM D 1 0 l.length l.length 2 false) (.int .i64 (l.length:Nat)) (.int .i64 (i:Nat)) (hB1 1 _ h1) (hB1 2 _ h2) hBs (by simp only [V0,sevalprocAttr,zcl,zp,zk,zq,zn,hfr]) (fun t' O' ht=>?_) fun t' R1 ht=>?_
  ·simp only [zd,zh] at ht
   simp only [V0,sevalprocAttr,ht]
   refine hrB _ ?_
   simp only [V0,sevalprocAttr,ht]
   exact hF false _ _ (by simp only [V0,sevalprocAttr,ht])
  ·rw [zo]
   refine hP2 s _ _ R1 (.slM D 1 0 l.length l.length 2 false) (.mapM D 2) (.slM D 1 0 l.length l.length 2 false) (.int .i64 (l.length:Nat)) (.int .i64 (i:Nat)) (hB1 0 _ h0) hBs (by simp only [zd,zh] at ht ⊢; simp only [ht,and_self]) (fun t' O' ht=>?_) fun t' R2 ht=>?_
   ·simp only [zd,zh] at ht
    simp only [V0,sevalprocAttr,ht]
    refine hrB _ ?_
    simp only [V0,sevalprocAttr,ht]
    exact hF false _ _ (by simp only [V0,sevalprocAttr,ht])
   ·simp only [V3] at ht
    simp only [V0,sevalprocAttr,ht,hw]
    exact hnB _ (l.length - (i+1)) (by omega) ⟨i+1,R++(.cells s.g::R2),by omega,by omega,by simp only [zcy,zcu,zc4],by simp only [V0,sevalprocAttr,ht,hw]⟩
 ·simp only [V0,sevalprocAttr,zcl,zp,zk,zq,zn,hfr,h]
  refine heB _ _ ?_
  simp only [V0,sevalprocAttr,zcl,zp,zk,zq,zn,hfr]
  exact hF true _ _ (by simp only [V0,sevalprocAttr,zcl,zp,zk,zq,zn,hfr])
theorem pl_nil {m D:Nat} {out:yLM} (hm:2<=m) {K:yKM} (t:List IV) (own:yLO) (hfr:Slots 117 t [(3,.nilsl)]) (hF:∀ v t' O',Slots 117 t' [(2,.bool v)]->K .ret ⟨t',O'⟩) :
  Ex (callN Ftab S m) D out m (i59.body.sub [1,1,1,1,1,1]) K ⟨t,own⟩:=by
 simp only [V3] at hfr
 simp only [i59,IC.sub,V0,sevalprocAttr,zcl,zp,zk,zq,zn,hfr]
 refine zb (fun jj st=>Slots 117 st.t [(40,.int .i64 0),(41,.int .i64 0)]) 0 (by omega) (by simp only [V0,sevalprocAttr,zcl,zp,zk,zq,zn,hfr]) ?_
 clear hfr
 rintro jj ⟨t,own1⟩ KB hfr hnB heB hrB
 dsimp only at hfr
 simp only [V3] at hfr
 have h0:((0:Int)<0)=False:=eq_false (by decide)
 simp only [V0,sevalprocAttr,zcl,zp,zk,zq,zn,hfr,h0]
 refine heB _ _ ?_
 simp only [V0,sevalprocAttr,zcl,zp,zk,zq,zn,hfr]
 exact hF true _ _ (by simp only [V0,sevalprocAttr,zcl,zp,zk,zq,zn,hfr])
end
end
section
theorem map_upd (L:List (Int × Pt)) (bs:List Nat) (ck:Nat) (id:Int) (y:Pt):∃ (L':List (Int × Pt)) (bs':List Nat) (ck':Nat),∀ (C:Call) (D:Nat) (out:yLM) (n0 j:Nat) (ownV own:yLO) (t:List IV) (a b c:Opd),ρ t a=.mapM D j->ρ t b=.int .i64 id->ρ t c=.agg [.int .i64 y.x,.int .i64 y.y]->own[j]?=some (.map (ptKs L) (ptVs L) bs ck) ->
  evOp C D out n0 ownV own t (.mapupd (false,[1]) a b c)=some (.x,.tuple [],own.set j (.map (ptKs L') (ptVs L') bs' ck')):=by
 have hk:(kindB false (IV.int .i64 id)&&(IV.int .i64 id).cells.length==[1].length)=true:=rfl
 cases h:L.findIdx? fun kv=>id==kv.1 with
 | none =>
  refine ⟨L++[(id,y)],bs++[ck],ck+1,fun C D out n0 j ownV own t a b c h1 h2 h3 h4=>?_⟩
  rw [Zn]
  simp only [e_mapupd,h1,h2,h3,h4,hk,and_self,if_true,ZW,h,zcz,zf]
  simp [ptKs,ptVs,Pt.c,zg]
 | some i =>
  obtain ⟨hi,hq,_⟩:=zdq.1 h
  have he:id=L[i].1:=by simpa using hq
  refine ⟨L.set i (L[i].1,y),bs,ck,fun C D out n0 j ownV own t a b c h1 h2 h3 h4=>?_⟩
  rw [Zn]
  simp only [e_mapupd,h1,h2,h3,h4,hk,and_self,if_true,ZW,h,zb9,zcq,zf]
  have hks:ptKs (L.set i (L[i].1,y))=ptKs L:=by
   unfold ptKs
   rw [List.map_set]
   refine List.ext_getElem? fun k=>?_
   by_cases hki:i=k
   ·subst hki
    rw [zdb (by rw [zdi]; exact hi)]
    simp [hi]
   ·rw [zc5 hki]
  have hvs:ptVs (L.set i (L[i].1,y))=(ptVs L).set i (.agg [.int .i64 y.x,.int .i64 y.y]):=by
   unfold ptVs
   rw [List.map_set]
   rfl
  rw [hks,hvs]
section
variable {S:ySM}
theorem pl_map (p:Pn) {m D:Nat} {out:yLM} (hm:p.ns.l.length+4<=m) {K:yKM} (t:List IV) (X:IObj) (L:List (Int × Pt)) (bs:List Nat) (ck:Nat) (O:yLO) (lv:IV)
  (hfr:Slots 117 t [(1,.ptrM D 0 0),(3,lv),(5,.mapM D 2)])
  (hK:∀ t' L' bs' ck' O',Slots 117 t' [(1,.ptrM D 0 0),(3,lv),(5,.mapM D 2)]->K .normal ⟨t',.cells [p.ns.v,p.as.v,p.fs.v]::X::.map (ptKs L') (ptVs L') bs' ck'::O'⟩) :
  Ex (callN Ftab S m) D out m (i59.body.sub [1,1,1,1,0]) K ⟨t,.cells [p.ns.v,p.as.v,p.fs.v]::X::.map (ptKs L) (ptVs L) bs ck::O⟩:=by
 simp only [V3] at hfr
 have hnf:=p.ns.few
 simp only [i59,IC.sub,V0,sevalprocAttr,hfr]
 refine zb (fun jj st=>∃ (i:Nat) (L:List (Int × Pt)) (bs:List Nat) (ck:Nat) (O:yLO),p.ns.l.length - i<=jj/\i<=p.ns.l.length/\st.own=.cells [p.ns.v,p.as.v,p.fs.v]::X::.map (ptKs L) (ptVs L) bs ck::O/\Slots 117 st.t [(1,.ptrM D 0 0),(3,lv),(5,.mapM D 2),(25,p.ns.v),(26,iv (p.ns.l.length:Nat)),(27,iv i)]) p.ns.l.length (by omega) ⟨0,L,bs,ck,O,by omega,by omega,rfl,by simp only [V0,sevalprocAttr,hfr,zcp]⟩ ?_
 clear hfr
 rintro jj ⟨t,own1⟩ KB ⟨i,L,bs,ck,O,hjj,hi,ho,hfr⟩ hnB heB hrB
 dsimp only at ho hfr
 subst ho
 simp only [V3] at hfr
 by_cases h:i<p.ns.l.length
 ·obtain ⟨x,hx⟩:=gx (l:=p.ns.l) (i:=i) h
  have hrd:rdN (p.ns.l.flatMap Nd.c) (i*3) 3=some [.int .i64 x.id,.int .i64 x.at'.x,.int .i64 x.at'.y]:=(zc Nd.c_len 0 3 hx (by omega)).trans rfl
  have hw:wrapI .i64 ((i:Int)+1)=((i+1:Nat):Int):=we
  obtain ⟨L',bs',ck',hup⟩:=map_upd L bs ck x.id x.at'
  have hup2:=fun C n0 ownV own t a b c=>hup C D out n0 2 ownV own t a b c
  simp only [V0,sevalprocAttr,hfr,h,za p.ns h,hrd,hup2,hw]
  exact hnB _ (p.ns.l.length - (i+1)) (by omega) ⟨i+1,L',bs',ck',_,by omega,by omega,rfl,by simp only [V0,sevalprocAttr,hfr,hw]⟩
 ·simp only [V0,sevalprocAttr,hfr,h]
  refine heB _ _ ?_
  simp only [V0,sevalprocAttr,hfr]
  exact hK _ _ _ _ _ (by simp only [V0,sevalprocAttr,hfr])
end
end
section
theorem PowOK.le {S:ySM} {N M:Nat} (h:PowOK S N) (hn:N<=M):PowOK S M:=fun x h0 hx m hm=>h x h0 hx m (by omega)
theorem LenOK.le {S:ySM} {N M:Nat} (h:LenOK S N) (hn:N<=M):LenOK S M:=fun x hx m hm=>h x hx m (by omega)
section
variable {S:ySM}
theorem planar_run (hS:NoS S) (p:Pn) (hv:∀ a∈p.as.l,a.via.l.length<=64) (ha:p.as.l.length<=600):∃ N,∀ m,N<=m->∀ d out ownV own id,∃ v:Bool,callN Ftab S m d out ownV own id 59 [.agg p.c]=some (.r,.bool v,own):=by
 obtain ⟨Ns,hNs⟩:=at_segs hS p hv (by omega)
 obtain ⟨Np,hPw⟩:=pow_ok hS
 obtain ⟨Nl,hLn⟩:=len_ok hS
 refine ⟨Ns+Np+Nl+200000+p.ns.l.length,fun m hm d out ownV own id=>?_⟩
 obtain ⟨m,rfl⟩:∃ q,m=q+2:=⟨m - 2,by omega⟩
 have main:∃ r,callN Ftab S (m+1+1) d out ownV own id 59 [.agg p.c]=some r/\∃ v:Bool,r=(Eff.r,.bool v,own):=by
  refine Zr (i:=i59) (ns hS (by rfl)) rfl (by decide) (lb rfl) fun t hfr=>?_
  simp only [V2,Nat.reduceAdd,i59,Pn.c] at hfr
  generalize (fun l=>if l=d then ownV else out l:yLM)=out2
  have hlv:∀ (o:yLO) (v:Bool),leave (m+1) d o own id 0 (.bool v)=some (.r,.bool v,own):=fun o v=>by simp [leave,freeze]
  have fin:∀ v t' O',Slots 117 t' [(2,.bool v)]->(Out.ret=.normal∨Out.ret=.ret)/\∃ w r,resultI (d+1) out2 ⟨t',O'⟩ i59.res=some w/\leave (m+1) d O' own id i59.mode w=some r/\∃ v:Bool,r=(Eff.r,.bool v,own):=fun v t' O' ht=>by
   simp only [zd,zh] at ht
   refine ⟨.inr rfl,.bool v,_,?_,hlv _ _,v,rfl⟩
   simp only [i59,V0,sevalprocAttr,ht]
  suffices hsuf:∀ K:yKM,(∀ v t' O',Slots 117 t' [(2,.bool v)]->K .ret ⟨t',O'⟩)->Ex (callN Ftab S (m+1)) (d+1) out2 (m+1) i59.body K ⟨t,[]⟩ from hsuf _ fin
  clear fin
  intro K fin
  have hM:=fun {D:Nat} (l:List Sg) L bs ck=>@pl_main S hS p l L bs ck (m+1) D out2
  have hN:=fun {D:Nat}=>@pl_nil S (m+1) D out2 (by omega)
  have hU:=fun {D:Nat}=>@pl_map S p (m+1) D out2 (by omega)
  rw [show i59.body=.seq (i59.body.sub [0]) (.seq (i59.body.sub [1,0]) (.seq (i59.body.sub [1,1,0]) (.seq (i59.body.sub [1,1,1,0]) (.seq (i59.body.sub [1,1,1,1,0]) (.seq (i59.body.sub [1,1,1,1,1,0]) (i59.body.sub [1,1,1,1,1,1])))))) from rfl]
  generalize i59.body.sub [1,1,1,1,1,1]=T at hM hN ⊢
  generalize i59.body.sub [1,1,1,1,0]=U at hU ⊢
  have hmap0:∀ (x y:IObj),([x,y,IObj.map [] [] [] 0]:yLO)=x::y::.map (ptKs []) (ptVs []) [] 0::[]:=fun _ _=>rfl
  obtain ⟨r,hr1,hr2⟩:=hNs (m+1) (by omega) (d+1) out2 [.cells [p.ns.v,p.as.v,p.fs.v],.free] [.cells [p.ns.v,p.as.v,p.fs.v],.free] 1 rfl
  simp only [Pn.c] at hr1
  rcases hr2 with ⟨b,rfl⟩ | ⟨l,hne,hll,rfl⟩
  ·cases b with
   | false =>
    simp only [i59,IC.sub,V0,sevalprocAttr,hfr,hr1]
    exact fin false _ _ (by simp only [V0,sevalprocAttr,hfr,hr1])
   | true =>
    simp only [i59,IC.sub,V0,sevalprocAttr,hfr,hr1]
    refine hU _ _ [] [] 0 [] .nilsl (by simp only [V0,sevalprocAttr,hfr,hr1]) fun t' L' bs' ck' O' ht=>?_
    simp only [zd,zh] at ht
    obtain ⟨J',hs⟩:=usort_nil (d:=d+1) (out:=out2) (ownV:=.cells [p.ns.v,p.as.v,p.fs.v]::.free::.map (ptKs L') (ptVs L') bs' ck'::(O'++[.free])) (own:=.cells [p.ns.v,p.as.v,p.fs.v]::.free::.map (ptKs L') (ptVs L') bs' ck'::(O'++[.free])) (fv:=.fn 79 [] []) hS hLn (m:=m+1) (by omega)
    simp only [V0,sevalprocAttr,ht,hs]
    exact hN _ _ (by simp only [V0,sevalprocAttr,ht]) fin
  ·simp only [zd3,List.set_cons_zero] at hr1
   simp only [i59,IC.sub,V0,sevalprocAttr,hfr,hr1]
   refine hU _ _ [] [] 0 [] (.slM (d+1) 1 0 l.length l.length 2 false) (by simp only [V0,sevalprocAttr,hfr,hr1]) fun t' L' bs' ck' O' ht=>?_
   simp only [zd,zh] at ht
   have hb:1<(IObj.cells [p.ns.v,p.as.v,p.fs.v]::.cells (l.flatMap Sg.g)::.map (ptKs L') (ptVs L') bs' ck'::(O'++[.free])).length:=by simp
   have hcmp:CmpOK S (Np+Nl+8) (d+1) out2 (IObj.cells [p.ns.v,p.as.v,p.fs.v]::.cells (l.flatMap Sg.g)::.map (ptKs L') (ptVs L') bs' ck'::(O'++[.free])) 1 Sg.e 79 [] (fun s u=>cmpI s.w u.w):=fun m hm=>planar_cmp hS m (by omega)
   obtain ⟨l2,J',hs,hp⟩:=u_sort (d:=d+1) (out:=out2) (cp:=l.length) (tg:=false) hS hb sg_elt hcmp (n:=l.length) (by omega) (m+1) (Nc:=Np+Nl+8) (by omega) (IObj.cells [p.ns.v,p.as.v,p.fs.v]::.cells (l.flatMap Sg.g)::.map (ptKs L') (ptVs L') bs' ck'::(O'++[.free])) l [] rfl (hPw.le (by omega)) (hLn.le (by omega))
   have hl2:l2.length=l.length:=hp.length_eq
   simp only [Bk,zd3,List.set_cons_zero,zcu,zcy,zda,zc4] at hs
   simp only [V0,sevalprocAttr,ht,hs]
   refine hM (D:=d+1) l2 L' bs' ck' (by omega) (by omega) _ [.cells [p.ns.v,p.as.v,p.fs.v],.cells (l2.flatMap Sg.g),.map (ptKs L') (ptVs L') bs' ck'] (O'++IObj.free::J') rfl rfl rfl ?_ fin
   rw [hl2]
   simp only [V0,sevalprocAttr,ht]
 obtain ⟨r,h1,v,rfl⟩:=main
 exact ⟨v,h1⟩
end
end
section
theorem Z0 {k sz:Nat} {α:Type} {g:α->List IV} (hg:∀ x,(g x).map (sh k)=g x) (q:SlOf sz g):sh k q.v=q.v:=by
 have hh:∀ (cs:List IV) (n:Nat) (v:IV),Sl sz cs n v->cs.map (sh k)=cs->sh k v=v:=fun cs n v h hc=>by
  cases h with
  | nil=>simp [sh]
  | row cs n tight hl=>simp only [sh,hc]
 refine hh _ _ _ q.ok ?_
 rw [List.map_flatMap]
 congr 1
 funext x
 exact hg x
theorem pt_sh {k:Nat} (x:Pt):x.c.map (sh k)=x.c:=by simp [Pt.c,zg,sh]
theorem nd_sh {k:Nat} (x:Nd):x.c.map (sh k)=x.c:=by simp [Nd.c,zg,sh]
theorem ac_sh {k:Nat} (x:Ac):x.c.map (sh k)=x.c:=by
 have:=Z0 (k:=k) pt_sh x.via
 simp [Ac.c,zg,sh,this]
theorem in_sh {k:Nat} (x:Int):(intc x).map (sh k)=intc x:=by simp [intc,zg,sh]
theorem zbu {k:Nat} (p:Pn):sh k (.agg p.c)=.agg p.c:=by
 have h1:=Z0 (k:=k) nd_sh p.ns
 have h2:=Z0 (k:=k) ac_sh p.as
 have h3:=Z0 (k:=k) in_sh p.fs
 simp [Pn.c,sh,h1,h2,h3]
section
variable {S:ySM}
theorem planar_gives (hT:TabCl Ftab) (hSc:SumCl S) (hS:NoS S) (p:Pn) (hv:∀ a∈p.as.l,a.via.l.length<=64) (ha:p.as.l.length<=600):∃ (v:Bool) (N:Nat),GivesN S N 59 [.agg p.c] (.bool v):=by
 obtain ⟨N,hN⟩:=planar_run hS p hv ha
 obtain ⟨v,h1⟩:=hN N (zcf _) 0 (fun _=>[]) [] [] 0
 refine ⟨v,N,Ze hT hSc (ns hS (by rfl)) rfl rfl (fun k=>?_) rfl h1⟩
 rw [zdc,zbu]
 rfl
def limI (p:Pn):Bool:=decide ((256:Int)<(p.ns.l.length:Int))||(decide ((256:Int)<(p.as.l.length:Int))||decide ((64:Int)<(p.fs.l.length:Int)))
def limV (p:Pn):Bool:=p.as.l.any fun a=>decide ((64:Int)<(a.via.l.length:Int))
def ordB (p:Pn):Bool:=ascL (p.ns.l.map Nd.id)&&(ascL (p.as.l.map Ac.id)&&ascL p.fs.l)
def rngB (p:Pn):Bool:=!((p.ns.l.map Nd.id).any badId)&&(!((p.as.l.map Ac.id).any badId)&&(!(p.fs.l.any badId)&&placedB p))
def planE (p:Pn) (v:Bool):Int:=bif limI p||limV p then 3 else bif !ordB p then 10 else bif !rngB p then 2 else bif connE p (p.ns.l.map Nd.id)==0 then (bif v then 0 else 11) else connE p (p.ns.l.map Nd.id)
theorem at_pcheck (hT:TabCl Ftab) (hSc:SumCl S) (hS:NoS S) (hSp:∀ args,S 37 args=none) (p:Pn) (h1:p.ns.l.length<=1000000) (h2:p.as.l.length<=1000000) (h3:∀ a∈p.as.l,a.via.l.length<=1000000):∃ (v:Bool) (N:Nat),GivesN S N 37 [.agg p.c] (.int .i64 (planE p v)):=by
 have hpl:∃ (v:Bool) (N:Nat),limI p=false->limV p=false->GivesN S N 59 [.agg p.c] (.bool v):=by
  by_cases hb:limI p=false/\limV p=false
  ·obtain ⟨h4,h5⟩:=hb
   simp only [limI,Bool.or_eq_false_iff,decide_eq_false_iff_not] at h4
   have h6:∀ a∈p.as.l,a.via.l.length<=64:=fun a ha=>by
    have:=List.any_eq_false.1 h5 a ha
    simp only [decide_eq_true_eq] at this
    omega
   obtain ⟨v,N,h⟩:=planar_gives hT hSc hS p h6 (by omega)
   exact ⟨v,N,fun _ _=>h⟩
  ·exact ⟨false,0,fun h4 h5=>absurd ⟨h4,h5⟩ hb⟩
 obtain ⟨v,Np,hp⟩:=hpl
 refine ⟨v,Np+p.ns.l.length+p.as.l.length+p.fs.l.length+1000100+1,?_⟩
 refine zj (i:=i37) (hSp _) rfl rfl (lb rfl) (Np+p.ns.l.length+p.as.l.length+p.fs.l.length+1000100) (by omega) zy fun m hm d out t hfr=>?_
 simp only [V2,Nat.reduceAdd,i37,Pn.c] at hfr
 have haf:=p.as.few
 cases hl:limI p
 ·simp only [limI,Bool.or_eq_false_iff] at hl
  obtain ⟨l1,l2,l3⟩:=hl
  have hl:limI p=false:=by simp only [limI,l1,l2,l3,Bool.or_self]
  simp only [i37,V0,sevalprocAttr,hfr,gt_iff_lt,l1,l2,l3]
  refine zb (fun jj st=>∃ (i:Nat) (O:yLO),p.as.l.length - i<=jj/\i<=p.as.l.length/\(p.as.l.take i).any (fun a=>decide ((64:Int)<(a.via.l.length:Int)))=false/\st.own=.cells [p.ns.v,p.as.v,p.fs.v]::O/\Slots 82 st.t [(1,.ptrM d 0 0),(24,p.as.v),(25,iv (p.as.l.length:Nat)),(26,iv i)]) p.as.l.length (by omega) ⟨0,[],by omega,by omega,by simp,rfl,by simp only [V0,sevalprocAttr,hfr,zcp]⟩ ?_
  clear hfr
  rintro jj ⟨t,own⟩ KA ⟨i,O,hjj,hi,ha,ho,hfr⟩ hnA heA hrA
  dsimp only at ho hfr
  subst ho
  simp only [V3] at hfr
  by_cases h:i<p.as.l.length
  ·obtain ⟨x,hx⟩:=gx (l:=p.as.l) (i:=i) h
   have hrd:rdN (p.as.l.flatMap Ac.c) (i*6) 6=some [.int .i64 x.id,.int .i64 x.fr,.int .i64 x.to,x.via.v,.int .i64 x.l,.int .i64 x.r]:=(zc Ac.c_len 0 6 hx (by omega)).trans rfl
   have hw:wrapI .i64 ((i:Int)+1)=((i+1:Nat):Int):=we
   cases hq:decide ((64:Int)<(x.via.l.length:Int))
   ·simp only [V0,sevalprocAttr,hfr,h,za p.as h,hrd,zR,zW,gt_iff_lt,hq,hw]
    exact hnA _ (p.as.l.length - (i+1)) (by omega) ⟨i+1,_,by omega,by omega,y7 hx ha hq,rfl,by simp only [V0,sevalprocAttr,hfr,hw]⟩
   ·have hlv:limV p=true:=ZM (q:=fun a:Ac=>decide ((64:Int)<(a.via.l.length:Int))) hx hq
    simp only [V0,sevalprocAttr,hfr,h,za p.as h,hrd,zR,zW,gt_iff_lt,hq]
    refine hrA _ ?_
    simp only [V0,sevalprocAttr,hfr,planE,hlv,Bool.or_true,cond_true]
  ·have hlv:limV p=false:=by
    unfold limV
    rw [← zcr (l:=p.as.l) (i:=i) (by omega)]
    exact ha
   have hpl:=hp hl hlv
   simp only [V0,sevalprocAttr,hfr,h]
   refine heA _ _ ?_
   have c0:=fun dd oo ownV own id=>at_ident hS p h1 h2 m (by omega) dd oo ownV own id
   have hr1:=ZB zi (p.ns.l.map Nd.id) (ZN h1)
   have hr2:=ZB zi (p.as.l.map Ac.id) (ZN h2)
   generalize rowQ zi (p.ns.l.map Nd.id) (ZN h1)=q1 at c0 hr1
   generalize rowQ zi (p.as.l.map Ac.id) (ZN h2)=q2 at c0 hr2
   have n1:q1.l.length=p.ns.l.length:=by rw [hr1,zdi]
   have n2:q2.l.length=p.as.l.length:=by rw [hr2,zdi]
   have a1:=fun dd oo ownV own id=>at_asc hS q1 m (by omega) dd oo ownV own id
   have a2:=fun dd oo ownV own id=>at_asc hS q2 m (by omega) dd oo ownV own id
   have a3:=fun dd oo ownV own id=>at_asc hS p.fs m (by omega) dd oo ownV own id
   have b1:=fun dd oo ownV own id=>at_num hS q1 m (by omega) dd oo ownV own id
   have b2:=fun dd oo ownV own id=>at_num hS q2 m (by omega) dd oo ownV own id
   have b3:=fun dd oo ownV own id=>at_num hS p.fs m (by omega) dd oo ownV own id
   have b4:=fun dd oo ownV own id=>at_placed hS p 1000000 h3 m (by omega) dd oo ownV own id
   have cc:=fun dd oo ownV own id=>at_conn hS p q1 m (by omega) dd oo ownV own id
   have cp:=fun dd oo ownV own id=>hpl m (by omega) dd oo ownV own id
   rw [hr1] at a1 b1 cc
   rw [hr2] at a2 b2
   simp only [Pn.c] at c0 b4 cc cp
   have hpe:planE p v=bif !ordB p then 10 else bif !rngB p then 2 else bif connE p (p.ns.l.map Nd.id)==0 then (bif v then 0 else 11) else connE p (p.ns.l.map Nd.id):=by simp only [planE,hl,hlv,Bool.or_self,cond_false]
   rw [hpe]
   unfold ordB rngB
   generalize ascL (p.ns.l.map Nd.id)=u1 at a1 ⊢
   generalize ascL (p.as.l.map Ac.id)=u2 at a2 ⊢
   generalize ascL p.fs.l=u3 at a3 ⊢
   generalize (p.ns.l.map Nd.id).any badId=w1 at b1 ⊢
   generalize (p.as.l.map Ac.id).any badId=w2 at b2 ⊢
   generalize p.fs.l.any badId=w3 at b3 ⊢
   generalize placedB p=w4 at b4 ⊢
   generalize connE p (p.ns.l.map Nd.id)=ce at cc ⊢
   have hbne:∀ z:Int,(z != 0)=!(z==0):=fun z=>rfl
   cases u1
   ·simp only [V0,sevalprocAttr,hfr,c0,a1,a2,a3,zcw,zdw,cond_true]
   ·cases u2
    ·simp only [V0,sevalprocAttr,hfr,c0,a1,a2,a3,zds,zcw,zdw,cond_true]
    ·cases u3
     ·simp only [V0,sevalprocAttr,hfr,c0,a1,a2,a3,zds,zcw,zdw,cond_true]
     ·cases w1
      ·cases w2
       ·cases w3
        ·cases w4
         ·simp only [V0,sevalprocAttr,hfr,c0,a1,a2,a3,b1,b2,b3,b4,Bool.and_self,zds,zcw,zdw,zd7,zdt,cond_true,cond_false]
         ·cases hce:ce==0
          ·simp only [V0,sevalprocAttr,hfr,c0,a1,a2,a3,b1,b2,b3,b4,cc,hbne,hce,Bool.and_self,zds,zcw,zdw,zd7,cond_true,cond_false]
          ·cases v
           ·simp only [V0,sevalprocAttr,hfr,c0,a1,a2,a3,b1,b2,b3,b4,cc,cp,hbne,hce,Bool.and_self,zds,zcw,zdw,zd7,cond_true,cond_false]
           ·simp only [V0,sevalprocAttr,hfr,c0,a1,a2,a3,b1,b2,b3,b4,cc,cp,hbne,hce,Bool.and_self,zds,zcw,zdw,zd7,cond_true,cond_false]
        ·simp only [V0,sevalprocAttr,hfr,c0,a1,a2,a3,b1,b2,b3,b4,Bool.and_self,zds,zcw,zdw,zd7,zdt,cond_true,cond_false]
       ·simp only [V0,sevalprocAttr,hfr,c0,a1,a2,a3,b1,b2,b3,b4,Bool.and_self,zds,zcw,zdw,zd7,zdt,cond_true,cond_false]
      ·simp only [V0,sevalprocAttr,hfr,c0,a1,a2,a3,b1,b2,b3,b4,Bool.and_self,zds,zcw,zdw,zd7,zdt,cond_true,cond_false]
 ·have hpe:planE p v=3:=by simp only [planE,hl,zdm,cond_true]
  rw [hpe]
  simp only [limI] at hl
  cases l1:decide ((256:Int)<(p.ns.l.length:Int))
  ·cases l2:decide ((256:Int)<(p.as.l.length:Int))
   ·have l3:decide ((64:Int)<(p.fs.l.length:Int))=true:=by simpa [l1,l2] using hl
    simp only [i37,V0,sevalprocAttr,hfr,gt_iff_lt,l1,l2,l3]
   ·simp only [i37,V0,sevalprocAttr,hfr,gt_iff_lt,l1,l2]
  ·simp only [i37,V0,sevalprocAttr,hfr,gt_iff_lt,l1]
end
end
section
noncomputable def absI (z:Int):Int:=if wrapI .i64 (0 - z) > z then wrapI .i64 (0 - z) else z
noncomputable def dartOk (p:Pn) (z:Int):Bool:=!(z==0||z==-9223372036854775808)&&(arcF p (absI z)).isSome
noncomputable def sideZ (p:Pn) (z:Int):Int:=bif dartOk p z then (bif decide (0<z) then (arcD p (absI z)).l else (arcD p (absI z)).r) else 0
section
variable {S:ySM}
theorem at_arcOf (hS:NoS S) (p:Pn) (z:Int) (hv:FewVia p):∃ (a:Ac) (N:Nat),(dartOk p z=true->a.id=(arcD p (absI z)).id/\a.fr=(arcD p (absI z)).fr/\a.to=(arcD p (absI z)).to/\a.l=(arcD p (absI z)).l/\a.r=(arcD p (absI z)).r)/\GivesN S N 110 [.agg p.c,iv z] (.tuple [.agg a.c,.bool (dartOk p z)]):=by
 obtain ⟨q1,hq1,N1,h1⟩:=YZ hS p (absI z) (fun f hf=>by have:=hv f hf; omega)
 have hfz:∀ (a:Ac) (b:Bool) (m d:Nat) (own:yLO),6<=m->freeze m d own (.tuple [.agg a.c,.bool b])=some (.tuple [.agg a.c,.bool b]):=fun a b m d own hm=>by
  obtain ⟨m,rfl⟩:∃ q,m=q+6:=⟨m - 6,by omega⟩
  have:=yJ ptC_fz a.via (m+4) (by omega) d own
  have hi:∀ z:Int,freeze (m+4) d own (.int .i64 z)=some (.int .i64 z):=fun z=>rfl
  have hb:freeze (m+5) d own (.bool b)=some (.bool b):=rfl
  have ha:freeze (m+5) d own (.agg a.c)=some (.agg a.c):=by
   show (a.c.mapM (freeze (m+4) d own)).map IV.agg=_
   simp only [Ac.c,zg,zdg,List.mapM_nil,this,hi,zdz,zdp,zch,zb9]
  exact fz_tuple2 ha hb
 by_cases hz:(z==0||z==-9223372036854775808)=true
 ·refine ⟨zAc,8,fun h=>?_,?_⟩
  ·unfold dartOk at h
   rw [hz] at h
   simp at h
  ·have hd:dartOk p z=false:=by unfold dartOk; rw [hz]; rfl
   rw [hd]
   refine yd (i:=i110) (ns hS (by rfl)) rfl rfl (lb rfl) (7) fun m hm d out t hfr=>?_
   simp only [V2,Nat.reduceAdd,i110,Pn.c] at hfr
   cases z0:z==0
   ·have z1:(z==-9223372036854775808)=true:=by simpa [z0] using hz
    simp only [i110,V0,sevalprocAttr,hfr,z0,z1,zY]
    exact ⟨_,rfl,hfz zAc false _ _ _ (by omega)⟩
   ·simp only [i110,V0,sevalprocAttr,hfr,z0,zY]
    exact ⟨_,rfl,hfz zAc false _ _ _ (by omega)⟩
 ·have hz2:(z==0||z==-9223372036854775808)=false:=by simpa using hz
  have hd:dartOk p z=(arcF p (absI z)).isSome:=by unfold dartOk; rw [hz2]; rfl
  simp only [Bool.or_eq_false_iff] at hz2
  refine ⟨{ arcD p (absI z) with via:=q1 },N1+8,fun _=>⟨rfl,rfl,rfl,rfl,rfl⟩,?_⟩
  rw [hd]
  refine yd (i:=i110) (ns hS (by rfl)) rfl rfl (lb rfl) (N1+7) fun m hm d out t hfr=>?_
  simp only [V2,Nat.reduceAdd,i110,Pn.c] at hfr
  have c1:=fun dd oo ownV own id=>h1 m (by omega) dd oo ownV own id
  have e1:((p.as.l.find? fun f=>f.id==absI z).getD zAc)=arcD p (absI z):=rfl
  have e2:(p.as.l.find? fun f=>f.id==absI z).isSome=(arcF p (absI z)).isSome:=rfl
  simp only [e1,e2,zg,Pn.c,Ac.c] at c1
  have hab:(if wrapI .i64 (0 - z) > z then wrapI .i64 (0 - z) else z)=absI z:=rfl
  simp only [gt_iff_lt] at hab
  simp only [i110,V0,sevalprocAttr,hfr,hz2.1,hz2.2,gt_iff_lt,hab,c1,zY]
  exact ⟨_,rfl,hfz { arcD p (absI z) with via:=q1 } _ _ _ _ (by omega)⟩
theorem at_sideZ (hS:NoS S) (p:Pn) (z:Int) (hv:FewVia p):∃ N,GivesN S N 95 [.agg p.c,iv z] (.int .i64 (sideZ p z)):=by
 obtain ⟨a,N,h1,h2⟩:=at_arcOf hS p z hv
 refine ⟨N+4,?_⟩
 refine zj (i:=i95) (ns hS (by rfl)) rfl rfl (lb rfl) (N+3) (by omega) zy fun m hm d out t hfr=>?_
 simp only [V2,Nat.reduceAdd,i95,Pn.c] at hfr
 have c1:=fun dd oo ownV own id=>h2 m (by omega) dd oo ownV own id
 simp only [zg,Pn.c,Ac.c] at c1
 unfold sideZ
 cases hd:dartOk p z
 ·simp only [hd] at c1
  simp only [i95,V0,sevalprocAttr,hfr,c1,cond_false]
 ·obtain ⟨_,_,_,g4,g5⟩:=h1 hd
  simp only [hd] at c1
  rw [← g4,← g5]
  cases hz:decide (0<z)
  ·simp only [i95,V0,sevalprocAttr,hfr,c1,gt_iff_lt,hz,cond_true,cond_false]
  ·simp only [i95,V0,sevalprocAttr,hfr,c1,gt_iff_lt,hz,cond_true]
end
end
section
def precI (l:List Int) (z:Int):Int:=match l.findIdx? fun x=>z==x with
 | some i=>(l[(i+l.length - 1) % l.length]?).getD 0
 | none=>0
def degN (l:List Ac) (id:Int):Nat:=(l.filter fun a=>a.fr==id).length+(l.filter fun a=>a.to==id).length
theorem degN_le (l:List Ac) (id:Int):degN l id<=2*l.length:=by
 unfold degN
 have h1:=List.length_filter_le (fun a:Ac=>a.fr==id) l
 have h2:=List.length_filter_le (fun a:Ac=>a.to==id) l
 omega
theorem degN_take {l:List Ac} {i:Nat} {x:Ac} {id:Int} (hx:l[i]?=some x):degN (l.take (i+1)) id=degN (l.take i) id+((if (x.fr==id)=true then 1 else 0)+(if (x.to==id)=true then 1 else 0)):=by
 unfold degN
 rw [zd1,hx,Option.toList_some,List.filter_append,List.filter_append,zce,zce]
 cases h1:x.fr==id <;> cases h2:x.to==id <;> simp [List.filter_cons,h1,h2] <;> omega
section
variable {S:ySM}
theorem at_prec (hS:NoS S) (l:SlOf 1 intc) (z:Int) (hl:l.l.length<=1000000):GivesN S (l.l.length+8) 89 [l.v,iv z] (.int .i64 (precI l.l z)):=by
 refine zj (i:=i89) (ns hS (by rfl)) rfl rfl (lb rfl) (l.l.length+7) (by omega) zy fun m hm d out t hfr=>?_
 simp only [V2,Nat.reduceAdd,i89] at hfr
 have c1:=fun dd oo ownV own id=>at_index hS l z m (by omega) dd oo ownV own id
 simp only [zg] at c1
 unfold precI
 unfold fIdx at c1
 cases hf:l.l.findIdx? fun x=>z==x with
 | none =>
  simp only [hf] at c1
  have h0:((-1:Int)<0)=True:=eq_true (by decide)
  simp only [i89,V0,sevalprocAttr,hfr,c1,h0]
 | some i =>
  obtain ⟨hi,_,_⟩:=zdq.1 hf
  simp only [hf] at c1
  have h0:((i:Int)<0)=False:=eq_false (by omega)
  have e1:wrapI .i64 ((i:Int)+(l.l.length:Int))=((i+l.l.length:Nat):Int):=we
  have e2:wrapI .i64 (((i+l.l.length:Nat):Int) - 1)=((i+l.l.length - 1:Nat):Int):=we
  have e3:((l.l.length:Int)=0)=False:=eq_false (by omega)
  have e4:Int.tmod ((i+l.l.length - 1:Nat):Int) (l.l.length:Int)=(((i+l.l.length - 1) % l.l.length:Nat):Int):=(Int.ofNat_tmod _ _).symm
  have hj:(i+l.l.length - 1) % l.l.length<l.l.length:=Nat.mod_lt _ (by omega)
  obtain ⟨x,hx⟩:=gx (l:=l.l) (i:=(i+l.l.length - 1) % l.l.length) hj
  have hv:(l.l[(i+l.l.length - 1) % l.l.length]?).getD 0=x:=by rw [hx]; rfl
  have hv':=hv
  generalize (i+l.l.length - 1) % l.l.length=j at e4 hj hx hv
  have hrd:rdN (l.l.flatMap intc) (j*1) 1=some [.int .i64 x]:=zc zi 0 1 hx (by omega)
  simp only [i89,V0,sevalprocAttr,hfr,c1,h0,e1,e2,e3,e4,za l hj,hrd]
  exact congrArg (fun w=>some (IV.int .i64 w)) hv'.symm
theorem at_degree (hS:NoS S) (p:Pn) (id:Int) (ha:p.as.l.length<=1000000):GivesN S (p.as.l.length+4) 94 [.agg p.c,iv id] (.int .i64 (degN p.as.l id:Nat)):=by
 refine zj (i:=i94) (ns hS (by rfl)) rfl rfl (lb rfl) (p.as.l.length+3) (by omega) zy fun m hm d out t hfr=>?_
 simp only [V2,Nat.reduceAdd,i94,Pn.c] at hfr
 simp only [i94,V0,sevalprocAttr,hfr]
 refine zb (fun jj st=>∃ (i:Nat) (O:yLO),p.as.l.length - i<=jj/\i<=p.as.l.length/\st.own=.cells [p.ns.v,p.as.v,p.fs.v]::O/\Slots 28 st.t [(1,iv id),(8,p.as.v),(9,iv (p.as.l.length:Nat)),(10,iv i),(4,iv (degN (p.as.l.take i) id:Nat))]) p.as.l.length (by omega) ⟨0,[],by omega,by omega,rfl,by simp only [V0,sevalprocAttr,hfr,zcp,List.take_zero]; rfl⟩ ?_
 clear hfr
 rintro jj ⟨t,own⟩ KA ⟨i,O,hjj,hi,ho,hfr⟩ hnA heA hrA
 dsimp only at ho hfr
 subst ho
 simp only [V3] at hfr
 by_cases h:i<p.as.l.length
 ·obtain ⟨x,hx⟩:=gx (l:=p.as.l) (i:=i) h
  have hrd:rdN (p.as.l.flatMap Ac.c) (i*6) 6=some [.int .i64 x.id,.int .i64 x.fr,.int .i64 x.to,x.via.v,.int .i64 x.l,.int .i64 x.r]:=(zc Ac.c_len 0 6 hx (by omega)).trans rfl
  have hw:wrapI .i64 ((i:Int)+1)=((i+1:Nat):Int):=we
  have hd:=degN_take (id:=id) hx
  have hle:=degN_le (p.as.l.take i) id
  rw [zd2,Nat.min_eq_left (by omega)] at hle
  generalize degN (p.as.l.take i) id=n0 at hfr hd hle
  have w1:wrapI .i64 ((n0:Int)+1)=((n0+1:Nat):Int):=we
  have w2:wrapI .i64 (((n0+1:Nat):Int)+1)=((n0+1+1:Nat):Int):=we
  cases h1:x.fr==id <;> cases h2:x.to==id <;> rw [h1,h2] at hd <;> simp only [zco,if_false,if_true,Nat.add_zero,zcq,Nat.reduceAdd] at hd
  ·simp only [V0,sevalprocAttr,hfr,h,za p.as h,hrd,zR,zW,h1,h2,hw,w1,w2]
   exact hnA _ (p.as.l.length - (i+1)) (by omega) ⟨i+1,_,by omega,by omega,rfl,by simp only [V0,sevalprocAttr,hfr,hw,hd,h1,h2]⟩
  ·simp only [V0,sevalprocAttr,hfr,h,za p.as h,hrd,zR,zW,h1,h2,hw,w1,w2]
   exact hnA _ (p.as.l.length - (i+1)) (by omega) ⟨i+1,_,by omega,by omega,rfl,by simp only [V0,sevalprocAttr,hfr,hw,hd,w1,h1,h2]⟩
  ·simp only [V0,sevalprocAttr,hfr,h,za p.as h,hrd,zR,zW,h1,h2,hw,w1,w2]
   exact hnA _ (p.as.l.length - (i+1)) (by omega) ⟨i+1,_,by omega,by omega,rfl,by simp only [V0,sevalprocAttr,hfr,hw,hd,w1,h1,h2]⟩
  ·simp only [V0,sevalprocAttr,hfr,h,za p.as h,hrd,zR,zW,h1,h2,hw,w1,w2]
   exact hnA _ (p.as.l.length - (i+1)) (by omega) ⟨i+1,_,by omega,by omega,rfl,by simp only [V0,sevalprocAttr,hfr,hw,hd,w1,w2,h1,h2]⟩
 ·have hii:i=p.as.l.length:=by omega
  subst hii
  rw [List.take_length] at hfr
  simp only [V0,sevalprocAttr,hfr,h]
  refine heA _ _ ?_
  simp only [V0,sevalprocAttr,hfr]
end
end
section
section
variable {S:ySM}
theorem zbv (hS:NoS S) {m d:Nat} {out:yLM} (hm:4<=m) (z:Int) (y:Pt) (x0 x2 x3:IObj) (L:List (Int × Pt)) (bs:List Nat) (ck:Nat) (J:yLO) (lv:IV) (xs:List Int) (hO:OwnJ intc 1 d 6 J lv xs) (hx:xs.length<=1000000) (ownV:yLO) :
  ∃ (lv':IV) (J':yLO) (L':List (Int × Pt)) (bs':List Nat) (ck':Nat),(∀ id,callN Ftab S m d out ownV (x0::.cells [lv]::x2::x3::.map (ptKs L) (ptVs L) bs ck::.cells [.mapM d 4]::J) id 105 [.int .i64 z,.agg [.int .i64 y.x,.int .i64 y.y],.ptrM d 1 0,.ptrM d 5 0]=some (.x,.tuple [],x0::.cells [lv']::x2::x3::.map (ptKs L') (ptVs L') bs' ck'::.cells [.mapM d 4]::J'))/\OwnJ intc 1 d 6 J' lv' (xs++[z])/\∀ (j:Nat) (x:IObj),J[j]?=some x->x≠IObj.cells (xs.flatMap intc)->J'[j]?=some x:=by
 obtain ⟨m,rfl⟩:∃ q,m=q+1:=⟨m - 1,by omega⟩
 obtain ⟨L',bs',ck',hup⟩:=map_upd L bs ck z y
 obtain ⟨e,lv',J2,happ,hO2,hkeep⟩:=ownJ_app2 (Pre:=[x0,.cells [lv],x2,x3,.map (ptKs L) (ptVs L) bs ck,.cells [.mapM d 4]]) (n0:=J.length+1+1+1+1+1+1+1) (slot:=0) (k:=1) (out:=out) (R:=[.cells [.int .i64 y.x,.int .i64 y.y],.free]) zi hO (ys:=[z]) (by simp) (by simp only [zcc,zci]; omega) (by simp only [zcc,zci]; omega) rfl rfl
 simp only [zcu,zc4,zcs,zdo,intc,zg,zcc,zci,zda,zcq] at happ
 obtain ⟨v1,v2⟩:=hO2.one
 have hy:J2[J.length]?=some (.cells [.int .i64 y.x,.int .i64 y.y]):=hkeep J.length _ (by omega) (by simp) (.inl (zcf _))
 have main:∃ v own',(∀ id,callN Ftab S (m+1) d out ownV (x0::.cells [lv]::x2::x3::.map (ptKs L) (ptVs L) bs ck::.cells [.mapM d 4]::J) id 105 [.int .i64 z,.agg [.int .i64 y.x,.int .i64 y.y],.ptrM d 1 0,.ptrM d 5 0]=some (.x,v,own'))/\(v=.tuple []/\own'=x0::.cells [lv']::x2::x3::.map (ptKs L') (ptVs L') bs' ck'::.cells [.mapM d 4]::J2):=by
  refine zt (i:=i105) (ns hS (by rfl)) rfl rfl (lb rfl) fun t hfr=>?_
  simp only [V2,Nat.reduceAdd,i105] at hfr
  have hup2:=fun C n0 ownV own t a b c=>hup C d out n0 4 ownV own t a b c
  simp only [i105,V0,sevalprocAttr,hfr,rep,zw,zF,zJ,yG,happ,v1,v2,hy,hup2,zr,yk]
  exact ⟨_,rfl,rfl⟩
 obtain ⟨v,own',h1,rfl,rfl⟩:=main
 refine ⟨lv',J2,L',bs',ck',h1,hO2,fun j x hj hne=>?_⟩
 have hlt:=(zb6.1 hj).1
 exact hkeep j x (by omega) (by rw [zb8 hlt]; exact hj) (.inr hne)
noncomputable def darC (n:Pt) (L:List (Int × Pt)) (x y:Int):Int:=bif lessP n (lkP L x) (lkP L y) then -1 else bif lessP n (lkP L y) (lkP L x) then 1 else 0
theorem around_cmp (hS:NoS S) {m d:Nat} {out:yLM} (hm:12<=m) (x y:Int) (nd:Nd) (L:List (Int × Pt)) (bs:List Nat) (ck:Nat) (ownV own:yLO) (id:Nat) (h3:ownV[3]?=some (.cells nd.c)) (h4:ownV[4]?=some (.map (ptKs L) (ptVs L) bs ck)) (h5:ownV[5]?=some (.cells [.mapM d 4])) :
  callN Ftab S m d out ownV own id 107 [.int .i64 x,.int .i64 y,.ptrM d 3 0,.ptrM d 5 0]=some (.r,.int .i64 (darC nd.at' L x y),own):=by
 refine Zq (i:=i107) (ns hS (by rfl)) rfl rfl (lb rfl) (N:=11) (by omega) hm zy fun m hm t hfr=>?_
 simp only [V2,Nat.reduceAdd,i107] at hfr
 have k3:((fun l=>if l=d then ownV else out l:yLM) d)[3]?=some (.cells nd.c):=by simpa using h3
 have k4:((fun l=>if l=d then ownV else out l:yLM) d)[4]?=some (.map (ptKs L) (ptVs L) bs ck):=by simpa using h4
 have k5:((fun l=>if l=d then ownV else out l:yLM) d)[5]?=some (.cells [.mapM d 4]):=by simpa using h5
 generalize (fun l=>if l=d then ownV else out l:yLM)=out2 at k3 k4 k5 ⊢
 simp only [Nd.c,zg] at k3
 have hne:(d=d+1)=False:=eq_false (by omega)
 have hlt:(d<d+1)=True:=eq_true (by omega)
 have ev:∀ (z:Int) (C:Call) (n0:Nat) (ownV own:yLO) (t:List IV) (a b:Opd),ρ t a=.mapM d 4->ρ t b=.int .i64 z->evOp C (d+1) out2 n0 ownV own t (.lookup (.agg [.int .i64 0,.int .i64 0]) (false,[1]) false a b)=some (.r,.agg [.int .i64 (lkP L z).x,.int .i64 (lkP L z).y],own):=fun z C n0 ownV own t a b h1 h2=>by
  obtain ⟨r,hr1,hr2⟩:=zbl z L
  rw [yY]
  simp only [e_lookup,h1,h2,look,if_neg (show ¬ (d=d+1) by omega),if_pos (show d<d+1 by omega),k4,hr1,zb9,hr2]
  rfl
 have evx:=ev x
 have evy:=ev y
 have cl:∀ (o a b:Pt) dd oo ownV own i,callN Ftab S m dd oo ownV own i 108 [.agg [.int .i64 o.x,.int .i64 o.y],.agg [.int .i64 a.x,.int .i64 a.y],.agg [.int .i64 b.x,.int .i64 b.y]]=some (.r,.bool (lessP o a b),own):=fun o a b dd oo ownV own i=>at_less hS o a b m (by omega) dd oo ownV own i
 unfold darC
 cases b1:lessP nd.at' (lkP L x) (lkP L y)
 ·cases b2:lessP nd.at' (lkP L y) (lkP L x)
  ·simp only [i107,V0,sevalprocAttr,hfr,hne,hlt,k3,k5,evx,evy,cl,b1,b2,cond_false]
  ·simp only [i107,V0,sevalprocAttr,hfr,hne,hlt,k3,k5,evx,evy,cl,b1,b2,cond_false,cond_true]
 ·simp only [i107,V0,sevalprocAttr,hfr,hne,hlt,k3,k5,evx,evy,cl,b1,cond_true]
end
end
section
def DartsOK (p:Pn) (xs:List Int):Prop:=∀ z∈xs,∃ a∈p.as.l,(z=a.id∨z=wrapI .i64 (0 - a.id))/\pathOk p a.id=true
theorem row_ints (xs:List Int):∀ (i:Nat) (w:IV),(xs.flatMap intc)[i]?=some w->∃ n,w=.int .i64 n:=by
 induction xs with
 | nil=>intro i w h; simp at h
 | cons a l ih =>
  intro i w h
  rw [zcs] at h
  cases i with
  | zero=>simp [intc,zg] at h; exact ⟨a,h.symm⟩
  | succ i=>simp [intc] at h; exact ih i w (by simpa [intc] using h)
theorem arc_ne {x:Ac} {xs:List Int}:IObj.cells [.int .i64 x.id,.int .i64 x.fr,.int .i64 x.to,x.via.v,.int .i64 x.l,.int .i64 x.r]≠.cells (xs.flatMap intc):=by
 intro h
 have h1:=IObj.cells.inj h
 have hh:∀ (cs:List IV) (k:Nat) (v:IV),Sl 2 cs k v->∀ n:Int,v≠.int .i64 n:=fun cs k v hs n he=>by
  cases hs <;> cases he
 have h2:(xs.flatMap intc)[3]?=some x.via.v:=by rw [← h1]; rfl
 obtain ⟨n,hn⟩:=row_ints xs _ _ h2
 exact hh _ _ _ x.via.ok n hn
section
variable {S:ySM}
theorem around_p1 (hS:NoS S) (p:Pn) {m D:Nat} {out:yLM} (hm:4<=m) (K:yKM) (t:List IV) (node:Int) (x:Ac) (j i:Nat) (q':SlOf 2 Pt.c) (hq:2<=q'.l.length) (O0 x2 x3:IObj) (lv:IV) (J:yLO) (L:List (Int × Pt)) (bs:List Nat) (ck:Nat) (xs:List Int)
  (hj:J[j]?=some (.cells [.int .i64 x.id,.int .i64 x.fr,.int .i64 x.to,x.via.v,.int .i64 x.l,.int .i64 x.r])) (hO:OwnJ intc 1 D 6 J lv xs) (hx:xs.length<=1000000)
  (hfr:Slots 80 t [(1,.int .i64 node),(2,.ptrM D 0 0),(4,.ptrM D 1 0),(5,.ptrM D 3 0),(7,.ptrM D 5 0),(8,.fn 105 [] [.ptrM D 1 0,.ptrM D 5 0]),(10,.ptrM D (j+1+1+1+1+1+1) 0),(11,q'.v),(24,p.as.v),(25,iv (p.as.l.length:Nat)),(26,iv i)])
  (hK:∀ t' lv J L bs ck xs',J[j]?=some (.cells [.int .i64 x.id,.int .i64 x.fr,.int .i64 x.to,x.via.v,.int .i64 x.l,.int .i64 x.r])->OwnJ intc 1 D 6 J lv xs'->(xs'=xs∨xs'=xs++[x.id])->Slots 80 t' [(1,.int .i64 node),(2,.ptrM D 0 0),(4,.ptrM D 1 0),(5,.ptrM D 3 0),(7,.ptrM D 5 0),(8,.fn 105 [] [.ptrM D 1 0,.ptrM D 5 0]),(10,.ptrM D (j+1+1+1+1+1+1) 0),(11,q'.v),(24,p.as.v),(25,iv (p.as.l.length:Nat)),(26,iv i)]->K .normal ⟨t',O0::.cells [lv]::x2::x3::.map (ptKs L) (ptVs L) bs ck::.cells [.mapM D 4]::J⟩) :
  Ex (callN Ftab S m) D out m (i88.body.sub [1,1,1,1,1,0,1,0,0,1,1,0,0,1,1,1,1,0]) K ⟨t,O0::.cells [lv]::x2::x3::.map (ptKs L) (ptVs L) bs ck::.cells [.mapM D 4]::J⟩:=by
 have hfr0:=hfr
 simp only [V3] at hfr
 cases hf:x.fr==node
 ·simp only [i88,IC.sub,V0,sevalprocAttr,hfr,hj,hf]
  exact hK _ _ _ _ _ _ _ hj hO (.inl rfl) (by simp only [V0,sevalprocAttr,hfr,zg])
 ·obtain ⟨y,hy⟩:∃ y,q'.l[1]?=some y:=⟨_,zb7 (by omega)⟩
  have hr:rdN (q'.l.flatMap Pt.c) (1*2) 2=some [.int .i64 y.x,.int .i64 y.y]:=(zc Pt.c_len 0 2 hy (by omega)).trans rfl
  have ha:∀ own,iaddrV own 2 q'.v (.int .i64 1)=some (.p,.ptrC (q'.l.flatMap Pt.c) (1*2),own):=fun own=>za q' (i:=1) (by omega)
  have hj2:(J++[IObj.free])[j]?=some (.cells [.int .i64 x.id,.int .i64 x.fr,.int .i64 x.to,x.via.v,.int .i64 x.l,.int .i64 x.r]):=by rw [zb8 (zb6.1 hj).1]; exact hj
  obtain ⟨lv',J',L',bs',ck',hc,hO3,hkeep⟩:=zbv (out:=out) hS hm x.id y O0 x2 x3 L bs ck (J++[IObj.free]) lv xs (hO.more _) hx (hide [] (J.length+1+1+1+1+1+1) (O0::.cells [lv]::x2::x3::.map (ptKs L) (ptVs L) bs ck::.cells [.mapM D 4]::(J++[IObj.free])))
  have hh:(hide [] (J.length+1+1+1+1+1+1) (O0::.cells [lv]::x2::x3::.map (ptKs L) (ptVs L) bs ck::.cells [.mapM D 4]::(J++[IObj.free])))[j+1+1+1+1+1+1]?=some (.cells [.int .i64 x.id,.int .i64 x.fr,.int .i64 x.to,x.via.v,.int .i64 x.l,.int .i64 x.r]):=by
   rw [zB]
   simp only [zcg,hj2,zb9]
   have:=(zb6.1 hj).1
   simp only [show j+1+1+1+1+1+1<J.length+1+1+1+1+1+1 by omega,decide_true,zdm,if_true]
  simp only [i88,IC.sub,V0,sevalprocAttr,hfr,hj,hf,ha,hr,hh,hc]
  exact ⟨by simp [comm],hK _ _ _ _ _ _ _ (hkeep j _ hj2 arc_ne) hO3 (.inr rfl) (by simp only [V0,sevalprocAttr,hfr,zg])⟩
theorem around_p2 (hS:NoS S) (p:Pn) {m D:Nat} {out:yLM} (hm:4<=m) (K:yKM) (t:List IV) (node:Int) (x:Ac) (j i:Nat) (q':SlOf 2 Pt.c) (hq:2<=q'.l.length) (O0 x2 x3:IObj) (lv:IV) (J:yLO) (L:List (Int × Pt)) (bs:List Nat) (ck:Nat) (xs:List Int)
  (hj:J[j]?=some (.cells [.int .i64 x.id,.int .i64 x.fr,.int .i64 x.to,x.via.v,.int .i64 x.l,.int .i64 x.r])) (hO:OwnJ intc 1 D 6 J lv xs) (hx:xs.length<=1000000)
  (hfr:Slots 80 t [(1,.int .i64 node),(2,.ptrM D 0 0),(4,.ptrM D 1 0),(5,.ptrM D 3 0),(7,.ptrM D 5 0),(8,.fn 105 [] [.ptrM D 1 0,.ptrM D 5 0]),(10,.ptrM D (j+1+1+1+1+1+1) 0),(11,q'.v),(24,p.as.v),(25,iv (p.as.l.length:Nat)),(26,iv i)])
  (hK:∀ t' lv J L bs ck xs',J[j]?=some (.cells [.int .i64 x.id,.int .i64 x.fr,.int .i64 x.to,x.via.v,.int .i64 x.l,.int .i64 x.r])->OwnJ intc 1 D 6 J lv xs'->(xs'=xs∨xs'=xs++[wrapI .i64 (0 - x.id)])->Slots 80 t' [(1,.int .i64 node),(2,.ptrM D 0 0),(4,.ptrM D 1 0),(5,.ptrM D 3 0),(7,.ptrM D 5 0),(8,.fn 105 [] [.ptrM D 1 0,.ptrM D 5 0]),(10,.ptrM D (j+1+1+1+1+1+1) 0),(11,q'.v),(24,p.as.v),(25,iv (p.as.l.length:Nat)),(26,iv i)]->K .normal ⟨t',O0::.cells [lv]::x2::x3::.map (ptKs L) (ptVs L) bs ck::.cells [.mapM D 4]::J⟩) :
  Ex (callN Ftab S m) D out m (i88.body.sub [1,1,1,1,1,0,1,0,0,1,1,0,0,1,1,1,1,1]) K ⟨t,O0::.cells [lv]::x2::x3::.map (ptKs L) (ptVs L) bs ck::.cells [.mapM D 4]::J⟩:=by
 have hfr0:=hfr
 simp only [V3] at hfr
 cases hf:x.to==node
 ·simp only [i88,IC.sub,V0,sevalprocAttr,hfr,hj,hf]
  exact hK _ _ _ _ _ _ _ hj hO (.inl rfl) (by simp only [V0,sevalprocAttr,hfr,zg])
 ·obtain ⟨y,hy⟩:∃ y,q'.l[q'.l.length - 2]?=some y:=⟨_,zb7 (by omega)⟩
  have hr:rdN (q'.l.flatMap Pt.c) ((q'.l.length - 2)*2) 2=some [.int .i64 y.x,.int .i64 y.y]:=(zc Pt.c_len 0 2 hy (by omega)).trans rfl
  have hql:=q'.few
  have hw:wrapI .i64 ((q'.l.length:Int) - 2)=((q'.l.length - 2:Nat):Int):=we
  have ha:∀ own,iaddrV own 2 q'.v (.int .i64 ((q'.l.length - 2:Nat):Int))=some (.p,.ptrC (q'.l.flatMap Pt.c) ((q'.l.length - 2)*2),own):=fun own=>za q' (i:=q'.l.length - 2) (by omega)
  have hj2:(J++[IObj.free])[j]?=some (.cells [.int .i64 x.id,.int .i64 x.fr,.int .i64 x.to,x.via.v,.int .i64 x.l,.int .i64 x.r]):=by rw [zb8 (zb6.1 hj).1]; exact hj
  obtain ⟨lv',J',L',bs',ck',hc,hO3,hkeep⟩:=zbv (out:=out) hS hm (wrapI .i64 (0 - x.id)) y O0 x2 x3 L bs ck (J++[IObj.free]) lv xs (hO.more _) hx (hide [] (J.length+1+1+1+1+1+1) (O0::.cells [lv]::x2::x3::.map (ptKs L) (ptVs L) bs ck::.cells [.mapM D 4]::(J++[IObj.free])))
  have hh:(hide [] (J.length+1+1+1+1+1+1) (O0::.cells [lv]::x2::x3::.map (ptKs L) (ptVs L) bs ck::.cells [.mapM D 4]::(J++[IObj.free])))[j+1+1+1+1+1+1]?=some (.cells [.int .i64 x.id,.int .i64 x.fr,.int .i64 x.to,x.via.v,.int .i64 x.l,.int .i64 x.r]):=by
   rw [zB]
   simp only [zcg,hj2,zb9]
   have:=(zb6.1 hj).1
   simp only [show j+1+1+1+1+1+1<J.length+1+1+1+1+1+1 by omega,decide_true,zdm,if_true]
  simp only [i88,IC.sub,V0,sevalprocAttr,hfr,hj,hf,hw,ha,hr,hh,hc]
  exact ⟨by simp [comm],hK _ _ _ _ _ _ _ (hkeep j _ hj2 arc_ne) hO3 (.inr rfl) (by simp only [V0,sevalprocAttr,hfr,zg])⟩
theorem around_tail (hS:NoS S) (p:Pn) {m D:Nat} {out:yLM} (hm:4<=m) (K:yKM) (t:List IV) (node:Int) (x:Ac) (j i:Nat) (q':SlOf 2 Pt.c) (hq:2<=q'.l.length) (O0 x2 x3:IObj) (lv:IV) (J:yLO) (L:List (Int × Pt)) (bs:List Nat) (ck:Nat) (xs:List Int)
  (hj:J[j]?=some (.cells [.int .i64 x.id,.int .i64 x.fr,.int .i64 x.to,x.via.v,.int .i64 x.l,.int .i64 x.r])) (hO:OwnJ intc 1 D 6 J lv xs) (hx:xs.length+1<=1000000)
  (hfr:Slots 80 t [(1,.int .i64 node),(2,.ptrM D 0 0),(4,.ptrM D 1 0),(5,.ptrM D 3 0),(7,.ptrM D 5 0),(8,.fn 105 [] [.ptrM D 1 0,.ptrM D 5 0]),(10,.ptrM D (j+1+1+1+1+1+1) 0),(11,q'.v),(24,p.as.v),(25,iv (p.as.l.length:Nat)),(26,iv i)])
  (hK:∀ t' lv J L bs ck xs',OwnJ intc 1 D 6 J lv xs'->(∀ z∈xs',z∈xs∨z=x.id∨z=wrapI .i64 (0 - x.id))->xs'.length<=xs.length+2->Slots 80 t' [(1,.int .i64 node),(2,.ptrM D 0 0),(4,.ptrM D 1 0),(5,.ptrM D 3 0),(7,.ptrM D 5 0),(8,.fn 105 [] [.ptrM D 1 0,.ptrM D 5 0]),(10,.ptrM D (j+1+1+1+1+1+1) 0),(11,q'.v),(24,p.as.v),(25,iv (p.as.l.length:Nat)),(26,iv i)]->K .normal ⟨t',O0::.cells [lv]::x2::x3::.map (ptKs L) (ptVs L) bs ck::.cells [.mapM D 4]::J⟩) :
  Ex (callN Ftab S m) D out m (i88.body.sub [1,1,1,1,1,0,1,0,0,1,1,0,0,1,1,1,1]) K ⟨t,O0::.cells [lv]::x2::x3::.map (ptKs L) (ptVs L) bs ck::.cells [.mapM D 4]::J⟩:=by
 rw [show i88.body.sub [1,1,1,1,1,0,1,0,0,1,1,0,0,1,1,1,1]=.seq (i88.body.sub [1,1,1,1,1,0,1,0,0,1,1,0,0,1,1,1,1,0]) (i88.body.sub [1,1,1,1,1,0,1,0,0,1,1,0,0,1,1,1,1,1]) from rfl,z6]
 refine around_p1 hS p hm _ t node x j i q' hq O0 x2 x3 lv J L bs ck xs hj hO (by omega) hfr fun t1 lv1 J1 L1 bs1 ck1 xs1 hj1 hO1 hx1 hfr1=>?_
 rw [zo]
 have hl1:xs1.length<=xs.length+1:=by rcases hx1 with rfl | rfl <;> simp
 refine around_p2 hS p hm _ t1 node x j i q' hq O0 x2 x3 lv1 J1 L1 bs1 ck1 xs1 hj1 hO1 (by omega) hfr1 fun t2 lv2 J2 L2 bs2 ck2 xs2 hj2 hO2 hx2 hfr2=>?_
 refine hK _ _ _ _ _ _ _ hO2 (fun z hz=>?_) ?_ hfr2
 ·rcases hx2 with rfl | rfl
  ·rcases hx1 with rfl | rfl
   ·exact .inl hz
   ·rcases zd4.1 hz with h | h
    ·exact .inl h
    ·exact .inr (.inl (zd8.1 h))
  ·rcases zd4.1 hz with hz | h
   ·rcases hx1 with rfl | rfl
    ·exact .inl hz
    ·rcases zd4.1 hz with h | h
     ·exact .inl h
     ·exact .inr (.inl (zd8.1 h))
   ·exact .inr (.inr (zd8.1 h))
 ·rcases hx2 with rfl | rfl
  ·omega
  ·simp only [zce,List.length_singleton]; omega
theorem around_loop (hS:NoS S) (p:Pn) (hfv:FewVia p) (ha:p.as.l.length<=100000):∃ N,∀ m,N<=m->∀ (D:Nat) (out:yLM) (K:yKM) (t:List IV) (node:Int) (x2 x3:IObj) (L:List (Int × Pt)) (bs:List Nat) (ck:Nat),
  Slots 80 t [(1,.int .i64 node),(2,.ptrM D 0 0),(4,.ptrM D 1 0),(5,.ptrM D 3 0),(7,.ptrM D 5 0),(8,.fn 105 [] [.ptrM D 1 0,.ptrM D 5 0])] ->
  (∀ t' lv J L bs ck xs,OwnJ intc 1 D 6 J lv xs->DartsOK p xs->xs.length<=2*p.as.l.length->Slots 80 t' [(1,.int .i64 node),(2,.ptrM D 0 0),(4,.ptrM D 1 0),(5,.ptrM D 3 0),(7,.ptrM D 5 0)]->K .normal ⟨t',.cells [p.ns.v,p.as.v,p.fs.v]::.cells [lv]::x2::x3::.map (ptKs L) (ptVs L) bs ck::.cells [.mapM D 4]::J⟩) ->
  Ex (callN Ftab S m) D out m (i88.body.sub [1,1,1,1,1,0]) K ⟨t,.cells [p.ns.v,p.as.v,p.fs.v]::.cells [.nilsl]::x2::x3::.map (ptKs L) (ptVs L) bs ck::.cells [.mapM D 4]::[]⟩:=by
 have hpath:∀ a∈p.as.l,∃ N,∀ m,N<=m->∃ q':SlOf 2 Pt.c,(pathOk p a.id=true->q'.l=pathL p a.id)/\∀ d out ownV own id,callN Ftab S m d out ownV own id 32 [.agg p.c,iv a.id]=some (.r,.tuple [q'.v,iv (bif pathOk p a.id then 0 else 7)],own):=fun a _=>by
  obtain ⟨q',h1,N,h2⟩:=ZA hS p a.id hfv
  exact ⟨N,fun m hm=>⟨q',h1,h2 m hm⟩⟩
 obtain ⟨Np,hNp⟩:=Yb p.as.l hpath
 refine ⟨Np+p.as.l.length+20,fun m hm D out K t node x2 x3 L bs ck hfr hK=>?_⟩
 simp only [zd,zh] at hfr
 have haf:=p.as.few
 have hT:=fun {D:Nat} {out:yLM} K t node x j i q' hq O0 x2 x3 lv J L bs ck xs=>@around_tail S hS p m D out (by omega) K t node x j i q' hq O0 x2 x3 lv J L bs ck xs
 rw [show i88.body.sub [1,1,1,1,1,0]=.seq (i88.body.sub [1,1,1,1,1,0,0]) (.block 0 (.loop (.seq (i88.body.sub [1,1,1,1,1,0,1,0,0,0]) (.seq (i88.body.sub [1,1,1,1,1,0,1,0,0,1,0]) (.seq (.block 1 (.seq (i88.body.sub [1,1,1,1,1,0,1,0,0,1,1,0,0,0]) (.seq (i88.body.sub [1,1,1,1,1,0,1,0,0,1,1,0,0,1,0]) (.seq (i88.body.sub [1,1,1,1,1,0,1,0,0,1,1,0,0,1,1,0]) (.seq (i88.body.sub [1,1,1,1,1,0,1,0,0,1,1,0,0,1,1,1,0]) (i88.body.sub [1,1,1,1,1,0,1,0,0,1,1,0,0,1,1,1,1])))))) (i88.body.sub [1,1,1,1,1,0,1,0,0,1,1,1])))))) from rfl]
 generalize i88.body.sub [1,1,1,1,1,0,1,0,0,1,1,0,0,1,1,1,1]=T at hT ⊢
 simp only [i88,IC.sub,V0,sevalprocAttr,hfr]
 refine zb (fun jj st=>∃ (i:Nat) (lv:IV) (J:yLO) (L:List (Int × Pt)) (bs:List Nat) (ck:Nat) (xs:List Int),p.as.l.length - i<=jj/\i<=p.as.l.length/\OwnJ intc 1 D 6 J lv xs/\DartsOK p xs/\xs.length<=2*i/\st.own=.cells [p.ns.v,p.as.v,p.fs.v]::.cells [lv]::x2::x3::.map (ptKs L) (ptVs L) bs ck::.cells [.mapM D 4]::J/\Slots 80 st.t [(1,.int .i64 node),(2,.ptrM D 0 0),(4,.ptrM D 1 0),(5,.ptrM D 3 0),(7,.ptrM D 5 0),(8,.fn 105 [] [.ptrM D 1 0,.ptrM D 5 0]),(24,p.as.v),(25,iv (p.as.l.length:Nat)),(26,iv i)]) p.as.l.length (by omega) ⟨0,.nilsl,[],L,bs,ck,[],by omega,by omega,.inl ⟨rfl,rfl⟩,fun _ h=>by simp at h,by simp,rfl,by simp only [V0,sevalprocAttr,hfr,zcp]⟩ ?_
 clear hfr
 rintro jj ⟨t,own⟩ KA ⟨i,lv,J,L,bs,ck,xs,hjj,hi,hO,hD,hxl,ho,hfr⟩ hnA heA hrA
 dsimp only at ho hfr
 subst ho
 simp only [V3] at hfr
 by_cases h:i<p.as.l.length
 ·have hx:p.as.l[i]?=some p.as.l[i]:=zb7 h
  have hxm:=zdj h
  obtain ⟨q',hq1,hq2⟩:=hNp _ (zdj h) m (by omega)
  generalize p.as.l[i]=x at hx hq1 hq2 hxm
  have hrd:rdN (p.as.l.flatMap Ac.c) (i*6) 6=some [.int .i64 x.id,.int .i64 x.fr,.int .i64 x.to,x.via.v,.int .i64 x.l,.int .i64 x.r]:=(zc Ac.c_len 0 6 hx (by omega)).trans rfl
  have hw:wrapI .i64 ((i:Int)+1)=((i+1:Nat):Int):=we
  have hbne:∀ a b:Int,(a != b)=!(a==b):=fun a b=>rfl
  simp only [zg,Pn.c] at hq2
  have h70:((7:Int)==0)=false:=rfl
  have h00:((0:Int)==0)=true:=rfl
  by_cases hor:(x.fr != node&&x.to != node)=true
  ·have hf:(x.fr==node)=false:=by simpa [bne] using (Bool.and_eq_true_iff.1 hor).1
   have ht:(x.to==node)=false:=by simpa [bne] using (Bool.and_eq_true_iff.1 hor).2
   simp only [V0,sevalprocAttr,hfr,h,za p.as h,hrd,hbne,hf,ht,hw]
   exact hnA _ (p.as.l.length - (i+1)) (by omega) ⟨i+1,lv,_,L,bs,ck,xs,by omega,by omega,hO.more _,hD,by omega,rfl,by simp only [V0,sevalprocAttr,hfr,hw,hbne,hf,ht]⟩
  ·have hj0:(J++[IObj.cells [.int .i64 x.id,.int .i64 x.fr,.int .i64 x.to,x.via.v,.int .i64 x.l,.int .i64 x.r],.free])[J.length]?=some (.cells [.int .i64 x.id,.int .i64 x.fr,.int .i64 x.to,x.via.v,.int .i64 x.l,.int .i64 x.r]):=by simp
   cases hok:pathOk p x.id
   ·rw [hok] at hq2
    cases hf:x.fr==node
    ·have ht:(x.to==node)=true:=by simpa [bne,hf] using hor
     simp only [V0,sevalprocAttr,hfr,h,za p.as h,hrd,hbne,hf,ht,hq2,hw,cond_false,h70]
     exact hnA _ (p.as.l.length - (i+1)) (by omega) ⟨i+1,lv,_,L,bs,ck,xs,by omega,by omega,hO.more _,hD,by omega,rfl,by simp only [V0,sevalprocAttr,hfr,hw,hbne,hf,ht]⟩
    ·simp only [V0,sevalprocAttr,hfr,h,za p.as h,hrd,hbne,hf,hq2,hw,cond_false,h70]
     exact hnA _ (p.as.l.length - (i+1)) (by omega) ⟨i+1,lv,_,L,bs,ck,xs,by omega,by omega,hO.more _,hD,by omega,rfl,by simp only [V0,sevalprocAttr,hfr,hw,hbne,hf]⟩
   ·rw [hok] at hq2
    have hlen:2<=q'.l.length:=by rw [hq1 hok,pathL]; simp
    have hD':∀ xs',(∀ z∈xs',z∈xs∨z=x.id∨z=wrapI .i64 (0 - x.id))->DartsOK p xs':=fun xs' hz z hzm=>by
     rcases hz z hzm with h | h | h
     ·exact hD z h
     ·exact ⟨x,hxm,.inl h,hok⟩
     ·exact ⟨x,hxm,.inr h,hok⟩
    cases hf:x.fr==node
    ·have ht:(x.to==node)=true:=by simpa [bne,hf] using hor
     simp only [V0,sevalprocAttr,hfr,h,za p.as h,hrd,hbne,hf,ht,hq2,hw,cond_true,h00]
     refine hT _ _ node x J.length i q' hlen _ _ _ _ _ _ _ _ xs hj0 (hO.more _) (by omega) (by simp only [V0,sevalprocAttr,hfr,hw,hbne,hf,ht]) fun t' lv' J' L' bs' ck' xs' hO' hm' hl' ht'=>?_
     simp only [V3] at ht'
     simp only [V0,sevalprocAttr,ht',hw]
     exact hnA _ (p.as.l.length - (i+1)) (by omega) ⟨i+1,lv',J',L',bs',ck',xs',by omega,by omega,hO',hD' xs' hm',by omega,rfl,by simp only [V0,sevalprocAttr,ht',hw]⟩
    ·simp only [V0,sevalprocAttr,hfr,h,za p.as h,hrd,hbne,hf,hq2,hw,cond_true,h00]
     refine hT _ _ node x J.length i q' hlen _ _ _ _ _ _ _ _ xs hj0 (hO.more _) (by omega) (by simp only [V0,sevalprocAttr,hfr,hw,hbne,hf]) fun t' lv' J' L' bs' ck' xs' hO' hm' hl' ht'=>?_
     simp only [V3] at ht'
     simp only [V0,sevalprocAttr,ht',hw]
     exact hnA _ (p.as.l.length - (i+1)) (by omega) ⟨i+1,lv',J',L',bs',ck',xs',by omega,by omega,hO',hD' xs' hm',by omega,rfl,by simp only [V0,sevalprocAttr,ht',hw]⟩
 ·simp only [V0,sevalprocAttr,hfr,h]
  refine heA _ _ ?_
  simp only [V0,sevalprocAttr,hfr]
  exact hK _ _ _ _ _ _ _ hO hD (by omega) (by simp only [V0,sevalprocAttr,hfr])
end
end
section
theorem int_elt:Elt intc (fun z:Int=>.int .i64 z) 1 false:=⟨fun _=>rfl,fun _=>rfl,fun _=>rfl,fun _=>rfl⟩
section
variable {S:ySM}
theorem around_run (hS:NoS S) (p:Pn) (hfv:FewVia p) (ha:2*p.as.l.length<65536) (node:Int):∃ N,∀ m,N<=m->∀ d out ownV own id,∃ q:SlOf 1 intc,callN Ftab S m d out ownV own id 88 [.agg p.c,.int .i64 node]=some (.r,q.v,own)/\DartsOK p q.l/\q.l.length<=2*p.as.l.length:=by
 obtain ⟨Nl0,hloop⟩:=around_loop hS p hfv (by omega)
 obtain ⟨Np,hPw⟩:=pow_ok hS
 obtain ⟨Nl,hLn⟩:=len_ok hS
 obtain ⟨Nn,hnd⟩:=Zz hS p node
 refine ⟨Nl0+Np+Nl+Nn+200000,fun m hm d out ownV own id=>?_⟩
 obtain ⟨m,rfl⟩:∃ q,m=q+2:=⟨m - 2,by omega⟩
 have main:∃ r,callN Ftab S (m+1+1) d out ownV own id 88 [.agg p.c,.int .i64 node]=some r/\∃ q:SlOf 1 intc,r=(Eff.r,q.v,own)/\DartsOK p q.l/\q.l.length<=2*p.as.l.length:=by
  refine Zr (i:=i88) (ns hS (by rfl)) rfl (by decide) (lb rfl) fun t hfr=>?_
  simp only [V2,Nat.reduceAdd,i88,Pn.c] at hfr
  generalize (fun l=>if l=d then ownV else out l:yLM)=out2
  have hnd:=hnd (m+1) (by omega)
  have hL0:=@hloop (m+1) (by omega)
  simp only [zg,Pn.c] at hnd
  have hlv:∀ (o:yLO) (v w:IV),freeze (m+1) (d+1) o v=some w->leave (m+1) d o own id 0 v=some (.r,w,own):=fun o v w h=>by simp [leave,h]
  have fin:∀ t' (O0 x2 x3 x4 x5:IObj) (J:yLO) (lv:IV) (xs:List Int),OwnJ intc 1 (d+1) 6 J lv xs->DartsOK p xs->xs.length<=2*p.as.l.length->Slots 80 t' [(4,.ptrM (d+1) 1 0)]->(Out.ret=.normal∨Out.ret=.ret)/\∃ w r,resultI (d+1) out2 ⟨t',O0::.cells [lv]::x2::x3::x4::x5::J⟩ i88.res=some w/\leave (m+1) d (O0::.cells [lv]::x2::x3::x4::x5::J) own id i88.mode w=some r/\∃ q:SlOf 1 intc,r=(Eff.r,q.v,own)/\DartsOK p q.l/\q.l.length<=2*p.as.l.length:=fun t' O0 x2 x3 x4 x5 J lv xs hO hD hl ht=>by
   simp only [zd,zh] at ht
   have hfz:=YB (Pre:=[O0,.cells [lv],x2,x3,x4,x5]) (m:=m+1) zi (fun a x hx=>by
    simp only [intc,zcx,zc1,or_false] at hx
    subst hx
    exact zy) (by omega) (show xs.length<9223372036854775808 by omega) hO
   refine ⟨.inr rfl,lv,_,?_,hlv _ _ _ hfz,rowQ zi xs (by omega),rfl,?_,?_⟩
   ·simp only [i88,V0,sevalprocAttr,ht]
   ·rw [ZB]; exact hD
   ·rw [ZB]; exact hl
  have fin0:∀ t' (O0:IObj) (R:yLO),Slots 80 t' [(4,.ptrM (d+1) 1 0)]->(Out.ret=.normal∨Out.ret=.ret)/\∃ w r,resultI (d+1) out2 ⟨t',O0::.cells [.nilsl]::R⟩ i88.res=some w/\leave (m+1) d (O0::.cells [.nilsl]::R) own id i88.mode w=some r/\∃ q:SlOf 1 intc,r=(Eff.r,q.v,own)/\DartsOK p q.l/\q.l.length<=2*p.as.l.length:=fun t' O0 R ht=>by
   simp only [zd,zh] at ht
   refine ⟨.inr rfl,.nilsl,_,?_,hlv _ _ _ (y3 _ (by omega) _ _),nilS _ _,rfl,?_,?_⟩
   ·simp only [i88,V0,sevalprocAttr,ht]
   ·intro z hz
    cases hz
   ·exact Nat.zero_le _
  suffices hsuf:∀ K:yKM,(∀ t' (O0 x2 x3 x4 x5:IObj) (J:yLO) (lv:IV) (xs:List Int),OwnJ intc 1 (d+1) 6 J lv xs->DartsOK p xs->xs.length<=2*p.as.l.length->Slots 80 t' [(4,.ptrM (d+1) 1 0)]->K .ret ⟨t',O0::.cells [lv]::x2::x3::x4::x5::J⟩)->(∀ t' (O0:IObj) (R:yLO),Slots 80 t' [(4,.ptrM (d+1) 1 0)]->K .ret ⟨t',O0::.cells [.nilsl]::R⟩)->Ex (callN Ftab S (m+1)) (d+1) out2 (m+1) i88.body K ⟨t,[]⟩ from hsuf _ fin fin0
  clear fin fin0
  intro K fin fin0
  rw [show i88.body=.seq (i88.body.sub [0]) (.seq (i88.body.sub [1,0]) (.seq (i88.body.sub [1,1,0]) (.seq (i88.body.sub [1,1,1,0]) (.seq (i88.body.sub [1,1,1,1,0]) (.seq (i88.body.sub [1,1,1,1,1,0]) (.seq (i88.body.sub [1,1,1,1,1,1,0]) (i88.body.sub [1,1,1,1,1,1,1]))))))) from rfl]
  generalize i88.body.sub [1,1,1,1,1,0]=T at hL0 ⊢
  cases hf:p.ns.l.find? fun f=>f.id==node with
  | none =>
   rw [hf] at hnd
   simp only [Option.getD_none,Option.isSome_none,zNd,Nd.c,zg] at hnd
   simp only [i88,IC.sub,V0,sevalprocAttr,hfr,hnd]
   exact fin0 _ _ _ (by simp only [V0,sevalprocAttr,hfr])
  | some nd =>
   rw [hf] at hnd
   simp only [zdx,Option.isSome_some,Nd.c,zg] at hnd
   have cmp:∀ a b,(IV.mapM a b).cells=[.mapM a b]:=fun _ _=>rfl
   have smp:∀ a b,(IV.mapM a b).scalar=true:=fun _ _=>rfl
   simp only [i88,IC.sub,V0,sevalprocAttr,cmp,smp,hfr,hnd]
   refine hL0 (d+1) out2 _ _ node _ _ [] [] 0 (by simp only [V0,sevalprocAttr,hfr]) fun t' lv J L bs ck xs hO hD hl ht=>?_
   simp only [zd,zh] at ht
   rcases hO with ⟨rfl,rfl⟩ | ⟨b,hne,rfl,hb⟩
   ·obtain ⟨J',hs⟩:=qsort_nil (d:=d+1) (out:=out2) (ownV:=.cells [p.ns.v,p.as.v,p.fs.v]::.cells [.nilsl]::.free::.cells [.int .i64 nd.id,.int .i64 nd.at'.x,.int .i64 nd.at'.y]::.map (ptKs L) (ptVs L) bs ck::.cells [.mapM (d+1) 4]::(J++[.free])) (own:=.cells [p.ns.v,p.as.v,p.fs.v]::.cells [.nilsl]::.free::.cells [.int .i64 nd.id,.int .i64 nd.at'.x,.int .i64 nd.at'.y]::.map (ptKs L) (ptVs L) bs ck::.cells [.mapM (d+1) 4]::(J++[.free])) (fv:=.fn 107 [] [.ptrM (d+1) 3 0,.ptrM (d+1) 5 0]) hS hLn (m:=m+1) (by omega)
    simp only [V0,sevalprocAttr,ht,hs]
    exact fin0 _ _ _ (by simp only [V0,sevalprocAttr,ht])
   ·have hb2:(J++[IObj.free])[b]?=some (.cells (xs.flatMap intc)):=by rw [zb8 (zb6.1 hb).1]; exact hb
    have hbl:=(zb6.1 hb).1
    have key:∀ W:yLO,W=(IObj.cells [p.ns.v,p.as.v,p.fs.v]::.cells [.slM (d+1) (6+b) 0 xs.length xs.length 1 false]::.free::.cells [.int .i64 nd.id,.int .i64 nd.at'.x,.int .i64 nd.at'.y]::.map (ptKs L) (ptVs L) bs ck::.cells [.mapM (d+1) 4]::(J++[.free])) ->
      ∃ (xs':List Int) (J':yLO),(∀ id,callN Ftab S (m+1) (d+1) out2 W W id 106 [.slM (d+1) (6+b) 0 xs.length xs.length 1 false,.fn 107 [] [.ptrM (d+1) 3 0,.ptrM (d+1) 5 0]]=some (.x,.tuple [],.cells [p.ns.v,p.as.v,p.fs.v]::.cells [.slM (d+1) (6+b) 0 xs.length xs.length 1 false]::.free::.cells [.int .i64 nd.id,.int .i64 nd.at'.x,.int .i64 nd.at'.y]::.map (ptKs L) (ptVs L) bs ck::.cells [.mapM (d+1) 4]::J'))/\J'[b]?=some (.cells (xs'.flatMap intc))/\xs'.Perm xs:=by
     intro W hW
     have hWl:6+b<W.length:=by rw [hW]; simp; omega
     have hWb:W[6+b]?=some (.cells (xs.flatMap intc)):=by
      rw [hW,show 6+b=b+1+1+1+1+1+1 by omega]
      simp only [zcg,hb2]
     have hcmp:CmpOK S (Np+Nl+12) (d+1) out2 W (6+b) (fun z:Int=>IV.int .i64 z) 107 [.ptrM (d+1) 3 0,.ptrM (d+1) 5 0] (darC nd.at' L):=fun m hm ownV own id x y hR=>by
      refine around_cmp hS (by omega) x y nd L bs ck ownV own id ?_ ?_ ?_
      ·rw [hR 3 (by omega) (by omega),hW]; rfl
      ·rw [hR 4 (by omega) (by omega),hW]; rfl
      ·rw [hR 5 (by omega) (by omega),hW]; rfl
     obtain ⟨xs',J',hs,hp⟩:=q_sort (d:=d+1) (out:=out2) (cp:=xs.length) (tg:=false) hS hWl int_elt hcmp (n:=xs.length) (by omega) (m+1) (Nc:=Np+Nl+12) (by omega) W xs [] rfl (hPw.le (by omega)) (hLn.le (by omega))
     rw [zda,bk_self hWb] at hs
     refine ⟨xs',(J++[IObj.free]).set b (.cells (xs'.flatMap intc))++J',fun id=>?_,?_,hp⟩
     ·have hbk:Bk W (6+b) (xs'.flatMap intc)=IObj.cells [p.ns.v,p.as.v,p.fs.v]::.cells [.slM (d+1) (6+b) 0 xs.length xs.length 1 false]::.free::.cells [.int .i64 nd.id,.int .i64 nd.at'.x,.int .i64 nd.at'.y]::.map (ptKs L) (ptVs L) bs ck::.cells [.mapM (d+1) 4]::(J++[IObj.free]).set b (.cells (xs'.flatMap intc)):=by
       generalize IV.slM (d+1) (6+b) 0 xs.length xs.length 1 false=z at hW ⊢
       rw [Bk,hW,show 6+b=b+1+1+1+1+1+1 by omega]
       rfl
      rw [hs id,hbk]
      rfl
     ·rw [zb8 (by simp; omega),zdb (by simp; omega)]
    obtain ⟨xs',J',hs,hb',hp⟩:=key _ rfl
    simp only [V0,sevalprocAttr,ht,hs]
    have hl':=hp.length_eq
    refine fin _ _ _ _ _ _ J' _ xs' (.inr ⟨b,?_,?_,hb'⟩) (fun z hz=>hD z (hp.mem_iff.1 hz)) (by omega) (by simp only [V0,sevalprocAttr,ht])
    ·intro h0
     rw [h0] at hl'
     exact hne (List.eq_nil_of_length_eq_zero hl'.symm)
    ·rw [hl']
 obtain ⟨r,h1,q,rfl,h2,h3⟩:=main
 exact ⟨q,h1,h2,h3⟩
end
end
section
section
variable {β:Type} (u:β->IV)
def mKs (L:List (Int × β)):List IV:=L.map fun kv=>.int .i64 kv.1
def mVs (L:List (Int × β)):List IV:=L.map fun kv=>u kv.2
def lkM (z:β) (L:List (Int × β)) (id:Int):β:=((L.find? fun kv=>id==kv.1).map Prod.snd).getD z
def putM (L:List (Int × β)) (id:Int) (y:β):List (Int × β):=match L.findIdx? fun kv=>id==kv.1 with
 | none=>L++[(id,y)]
 | some i=>L.set i (id,y)
variable {u}
theorem YI (id:Int):∀ (L:List (Int × β)) (n:Nat),findIx (false,[1]) (.int .i64 id) (mKs L) n=some ((L.findIdx? fun kv=>id==kv.1).map (n+·))
 | [],n=>rfl
 | kv::L,n=>by
  have ih:=YI id L (n+1)
  have e:eqk (false,[1]) (.int .i64 id) (.int .i64 kv.1)=some (id==kv.1):=by
   have:eqvs [1] [.int .i64 id] [.int .i64 kv.1]=some (id==kv.1):=by
    simp only [eqvs,eqv]
    cases h1:id==kv.1 <;> simp [h1]
   exact this
  show (match eqk (false,[1]) (.int .i64 id) (.int .i64 kv.1) with | some true=>some (some n) | some false=>findIx (false,[1]) (.int .i64 id) (mKs L) (n+1) | none=>none)=_
  rw [e]
  cases h:id==kv.1
  ·simp only [ih,List.findIdx?_cons,h]
   cases L.findIdx? fun kv=>id==kv.1 with
   | none=>rfl
   | some j=>simp; omega
  ·simp [List.findIdx?_cons,h]
theorem findK_m (id:Int) (L:List (Int × β)):findK (false,[1]) (.int .i64 id) (mKs L) (mVs u L)=some ((L.find? fun kv=>id==kv.1).map fun kv=>u kv.2):=by
 have h0:(kindB false (IV.int .i64 id)&&(IV.int .i64 id).cells.length==[1].length)=true:=rfl
 unfold findK
 rw [if_pos h0,YI]
 cases h:L.findIdx? fun kv=>id==kv.1 with
 | none =>
  have h1:(L.find? fun kv=>id==kv.1)=none:=by
   rw [List.findIdx?_eq_none_iff] at h
   rw [List.find?_eq_none]
   intro x hx
   simp [h x hx]
  simp [h1]
 | some j =>
  obtain ⟨hj,hq,hmin⟩:=zdq.1 h
  have h1:(L.find? fun kv=>id==kv.1)=some L[j]:=by
   rw [List.find?_eq_some_iff_getElem]
   exact ⟨hq,j,hj,rfl,fun k hk=>by simpa using hmin k hk⟩
  simp [mVs,hj,h1]
theorem lk_getD (z:β) (L:List (Int × β)) (id:Int):((L.find? fun kv=>id==kv.1).map fun kv=>u kv.2).getD (u z)=u (lkM z L id):=by
 unfold lkM
 cases L.find? fun kv=>id==kv.1 <;> rfl
theorem ZO (z:β) {L:List (Int × β)} {bs:List Nat} {ck:Nat} (id:Int) {C:Call} {d n0 l j:Nat} {out:yLM} {ownV own:yLO} {t:List IV} {a b:Opd} {zv:IV} (hz:zv=u z) (h1:ρ t a=.mapM l j) (h2:ρ t b=.int .i64 id) (h3:look d out ownV l j=some (.map (mKs L) (mVs u L) bs ck)):evOp C d out n0 ownV own t (.lookup zv (false,[1]) false a b)=some (.r,u (lkM z L id),own):=by
 rw [yY]
 subst hz
 simp only [e_lookup,h1,h2,h3,findK_m,zb9,lk_getD]
 rfl
theorem ev_lookC (z:β) {L:List (Int × β)} (id:Int) {C:Call} {d n0:Nat} {out:yLM} {ownV own:yLO} {t:List IV} {a b:Opd} {zv:IV} (hz:zv=u z) (h1:ρ t a=.mapC (mKs L) (mVs u L)) (h2:ρ t b=.int .i64 id):evOp C d out n0 ownV own t (.lookup zv (false,[1]) false a b)=some (.p,u (lkM z L id),own):=by
 rw [yY]
 subst hz
 simp only [e_lookup,h1,h2,findK_m,zb9,lk_getD]
 rfl
theorem zap (z y:β) (L:List (Int × β)) (id k:Int):lkM z (putM L id y) k=if k=id then y else lkM z L k:=by
 unfold putM
 cases h:L.findIdx? fun kv=>id==kv.1 with
 | none =>
  rw [List.findIdx?_eq_none_iff] at h
  simp only [lkM,List.find?_append]
  by_cases hk:k=id
  ·subst hk
   have h1:(L.find? fun kv=>k==kv.1)=none:=by
    rw [List.find?_eq_none]
    intro x hx
    simp [h x hx]
   simp [h1]
  ·rw [if_neg hk]
   have h1:([(id,y)].find? fun kv=>k==kv.1)=none:=by simp [hk]
   rw [h1,Option.or_none]
 | some i =>
  obtain ⟨hi,hq,hmin⟩:=zdq.1 h
  have he:id=L[i].1:=by simpa using hq
  have hcons:∀ (M:List (Int × β)) (i:Nat) (hi:i<M.length),id=M[i].1->(∀ j (hj:j<i),¬ id=(M[j]'(by omega)).1)->((M.set i (id,y)).find? fun kv=>k==kv.1)=if k=id then some (id,y) else M.find? fun kv=>k==kv.1:=by
   intro M
   induction M with
   | nil=>intro i hi; simp at hi
   | cons x M ih =>
    intro i hi he hm
    cases i with
    | zero =>
     simp only [List.getElem_cons_zero] at he
     simp only [List.set_cons_zero,List.find?_cons]
     by_cases hk:k=id
     ·simp [hk]
     ·have h1:(k==id)=false:=by simpa using hk
      have h2:(k==x.1)=false:=by rw [← he]; exact h1
      simp only [h1,h2,if_neg hk]
    | succ i =>
     simp only [zd3,List.find?_cons]
     have hx:=hm 0 (by omega)
     simp only [List.getElem_cons_zero] at hx
     have:=ih i (by simpa using hi) (by simpa using he) (fun j hj=>by simpa using hm (j+1) (by omega))
     by_cases hk:k=id
     ·have h2:(k==x.1)=false:=by rw [hk]; simpa using hx
      rw [if_pos hk] at this ⊢
      simp only [h2]
      exact this
     ·rw [if_neg hk] at this ⊢
      rw [this]
  have:=hcons L i hi he (fun j hj=>by simpa using hmin j hj)
  unfold lkM
  rw [this]
  by_cases hk:k=id
  ·simp [hk]
  ·simp [hk]
theorem upd_m (L:List (Int × β)) (bs:List Nat) (ck:Nat) (id:Int) (y:β):∃ (bs':List Nat) (ck':Nat),∀ (C:Call) (D:Nat) (out:yLM) (n0 j:Nat) (ownV own:yLO) (t:List IV) (a b c:Opd),ρ t a=.mapM D j->ρ t b=.int .i64 id->ρ t c=u y->own[j]?=some (.map (mKs L) (mVs u L) bs ck) ->
  evOp C D out n0 ownV own t (.mapupd (false,[1]) a b c)=some (.x,.tuple [],own.set j (.map (mKs (putM L id y)) (mVs u (putM L id y)) bs' ck')):=by
 have hk:(kindB false (IV.int .i64 id)&&(IV.int .i64 id).cells.length==[1].length)=true:=rfl
 unfold putM
 cases h:L.findIdx? fun kv=>id==kv.1 with
 | none =>
  refine ⟨bs++[ck],ck+1,fun C D out n0 j ownV own t a b c h1 h2 h3 h4=>?_⟩
  rw [Zn]
  simp only [e_mapupd,h1,h2,h3,h4,hk,and_self,if_true,YI,h,zcz,zf]
  simp [mKs,mVs]
 | some i =>
  obtain ⟨hi,hq,_⟩:=zdq.1 h
  have he:id=L[i].1:=by simpa using hq
  refine ⟨bs,ck,fun C D out n0 j ownV own t a b c h1 h2 h3 h4=>?_⟩
  rw [Zn]
  simp only [e_mapupd,h1,h2,h3,h4,hk,and_self,if_true,YI,h,zb9,zcq,zf]
  have hks:mKs (L.set i (id,y))=mKs L:=by
   unfold mKs
   rw [List.map_set]
   refine List.ext_getElem? fun k=>?_
   by_cases hki:i=k
   ·subst hki
    rw [zdb (by rw [zdi]; exact hi)]
    simp [hi,he]
   ·rw [zc5 hki]
  have hvs:mVs u (L.set i (id,y))=(mVs u L).set i (u y):=by
   unfold mVs
   rw [List.map_set]
  rw [hks,hvs]
end
section
variable {S:ySM}
theorem int_cl (l:List Int):∀ n,(l.flatMap intc).all (clF (n+1))=true:=fun n=>by
 rw [zdh]
 intro x hx
 obtain ⟨a,_,ha⟩:=zdy.1 hx
 simp only [intc,zcx,zc1,or_false] at ha
 subst ha
 rfl
theorem ZD (q:SlOf 1 intc) (n:Nat):clF (n+2) q.v=true:=by
 have hh:∀ (cs:List IV) (k:Nat) (v:IV),Sl 1 cs k v->cs.all (clF (n+1))=true->clF (n+2) v=true:=fun cs k v h hc=>by
  cases h with
  | nil=>rfl
  | row cs n tight hl=>exact hc
 exact hh _ _ _ q.ok (int_cl _ _)
theorem around_gives (hT:TabCl Ftab) (hSc:SumCl S) (hS:NoS S) (p:Pn) (hfv:FewVia p) (ha:2*p.as.l.length<65536) (node:Int):∃ q:SlOf 1 intc,DartsOK p q.l/\q.l.length<=2*p.as.l.length/\∃ N,GivesN S N 88 [.agg p.c,.int .i64 node] q.v:=by
 obtain ⟨N,hN⟩:=around_run hS p hfv ha node
 obtain ⟨q,h1,h2,h3⟩:=hN N (zcf _) 0 (fun _=>[]) [] [] 0
 refine ⟨q,h2,h3,N,Ze hT hSc (ns hS (by rfl)) rfl rfl (fun k=>?_) (ZD q 3) h1⟩
 rw [zdc,zbu]
 simp [sh]
end
def OwnB {α:Type} (g:α->List IV) (sz d k0 b0:Nat) (J:yLO) (lv:IV) (xs:List α):Prop:=(xs=[]/\lv=.nilsl)∨∃ b,b0<=b/\xs≠[]/\lv=.slM d (k0+b) 0 xs.length xs.length sz false/\J[b]?=some (.cells (xs.flatMap g))
theorem OwnB.more {α:Type} {g:α->List IV} {sz d k0 b0:Nat} {J:yLO} {lv:IV} {xs:List α} (h:OwnB g sz d k0 b0 J lv xs) (r:yLO):OwnB g sz d k0 b0 (J++r) lv xs:=by
 rcases h with h | ⟨b,hb,hne,h1,h2⟩
 ·exact .inl h
 ·exact .inr ⟨b,hb,hne,h1,by rw [zb8 (zb6.1 h2).1]; exact h2⟩
theorem OwnB.own {α:Type} {g:α->List IV} {sz d k0 b0:Nat} {J:yLO} {lv:IV} {xs:List α} (h:OwnB g sz d k0 b0 J lv xs):OwnJ g sz d k0 J lv xs:=by
 rcases h with h | ⟨b,hb,hne,h1,h2⟩
 ·exact .inl h
 ·exact .inr ⟨b,hne,h1,h2⟩
theorem ownB_app {α:Type} {g:α->List IV} {sz:Nat} (hs:∀ a,(g a).length=sz) {d n0 slot k b0:Nat} {out:yLM} {Pre J R:yLO} {lv:IV} {xs ys:List α} (h:OwnB g sz d Pre.length b0 J lv xs) (hb0:b0<=J.length) (hy:ys.length≠0) (hx:xs.length+ys.length<=1073741824) (hk:n0+slot=Pre.length+(J.length+k)) (hf:R[k]?=some .free)
  (hsc:(ys.flatMap g).all IV.scalar=true) :
  ∃ e lv' J2,appendI d n0 (look d out (Pre++(J++R))) (Pre++(J++R)) sz lv (ys.flatMap g) ys.length slot=some (e,lv',Pre++J2)/\OwnB g sz d Pre.length b0 J2 lv' (xs++ys)/\(∀ j,j<b0->J2[j]?=(J++R)[j]?)/\J2.length=(J++R).length:=by
 have hkl:k<R.length:=(zb6.1 hf).1
 have hget:(J++R)[J.length+k]?=some .free:=by
  rw [zcb (by omega),zdd]
  exact hf
 have hlt:J.length+k<(J++R).length:=by rw [zce]; omega
 have hne:xs++ys≠[]:=by
  intro he
  exact hy (by rw [(List.append_eq_nil_iff.1 he).2]; rfl)
 rcases h with ⟨rfl,rfl⟩ | ⟨b,hb1,_,rfl,h2⟩
 ·rw [ZV hy (by unfold bound; simp at hx; omega)]
  unfold mkAt
  rw [hk,zZ,hget]
  simp only [zf]
  rw [yc]
  refine ⟨_,_,_,rfl,.inr ⟨J.length+k,by omega,hne,by simp,?_⟩,fun j hj=>?_,by rw [zdn]⟩
  ·rw [zdb hlt]
   rfl
  ·rw [zc5 (by omega)]
 ·have hb:b<J.length:=(zb6.1 h2).1
  have hb2:(J++R)[b]?=some (.cells (xs.flatMap g)):=by rw [zb8 hb]; exact h2
  rw [y5 hy hx (zu hs) hsc (by simp only [look,if_true,zZ]; exact hb2)]
  unfold killAt
  rw [hk,zZ,hget]
  simp only [zf]
  rw [yc,yc]
  refine ⟨_,_,_,rfl,.inr ⟨J.length+k,by omega,hne,by simp,?_⟩,fun j hj=>?_,by rw [zdn,zdn]⟩
  ·rw [zdb (by rw [zdn]; exact hlt)]
   simp
  ·rw [zc5 (by omega),zc5 (by omega)]
end
section
def unseen (L:List (Int × Bool)) (U:List Int):Nat:=(U.filter fun k=>!lkM false L k).length
theorem unseen_le {L:List (Int × Bool)} {z:Int}:∀ U:List Int,unseen (putM L z true) U<=unseen L U
 | []=>zcf _
 | k::U=>by
  have ih:=unseen_le (L:=L) (z:=z) U
  simp only [unseen,List.filter_cons,zap] at ih ⊢
  by_cases hk:k=z
  ·simp only [hk,if_true,zd7,zco,if_false]
   split
   ·simp only [zcc]; omega
   ·exact ih
  ·simp only [hk,if_false]
   split
   ·simp only [zcc]; omega
   ·exact ih
theorem unseen_lt {L:List (Int × Bool)} {z:Int}:∀ {U:List Int},z∈U->lkM false L z=false->unseen (putM L z true) U<unseen L U
 | k::U,h,hz=>by
  have h1:=unseen_le (L:=L) (z:=z) U
  by_cases hk:k=z
  ·subst hk
   simp only [unseen,List.filter_cons,zap] at h1 ⊢
   simp only [hz,if_true,zd7,zdw,zco,if_false,zcc]
   omega
  ·have ih:=unseen_lt (U:=U) (by rcases zcx.1 h with h | h; exact absurd h.symm hk; exact h) hz
   simp only [unseen,List.filter_cons,zap] at ih ⊢
   simp only [hk,if_false]
   split
   ·simp only [zcc]; omega
   ·exact ih
theorem zbw (L:List (Int × Bool)) (U:List Int):unseen L U<=U.length:=List.length_filter_le _ _
theorem ownB_app1 {α:Type} {g:α->List IV} {sz:Nat} (hs:∀ a,(g a).length=sz) {d n0 slot k b0 k0:Nat} {out:yLM} {Pre J R:yLO} {lv:IV} {xs ys:List α} (hk0:Pre.length=k0) (h:OwnB g sz d k0 b0 J lv xs) (hb0:b0<=J.length) (hy:ys.length≠0) (hx:xs.length+ys.length<=1073741824) (hk:n0+slot=k0+(J.length+k)) (hf:R[k]?=some .free)
  (hsc:(ys.flatMap g).all IV.scalar=true) :
  ∃ e lv' J2,appendI d n0 (look d out (Pre++(J++R))) (Pre++(J++R)) sz lv (ys.flatMap g) ys.length slot=some (e,lv',Pre++J2)/\OwnB g sz d k0 b0 J2 lv' (xs++ys)/\(∀ j,j<b0->J2[j]?=(J++R)[j]?)/\J2.length=(J++R).length:=by
 subst hk0
 exact ownB_app hs h hb0 hy hx hk hf hsc
section
variable {S:ySM}
theorem follow_run (hS:NoS S) {m D:Nat} {out:yLM} (U:List Int) (hm:U.length+8<=m) (hU:U.length<=1000000) (P J0:yLO) (nx:List (Int × Int)) (nbs:List Nat) (nck:Nat) (hP2:P[2]?=some (.map (mKs nx) (mVs (IV.int .i64) nx) nbs nck)) (hP3:P[3]?=some (.cells [.mapM D 2])) (hnx:∀ k,lkM 0 nx k∈U) (z:Int) (hz:z∈U) (sn:List (Int × Bool)) (bs:List Nat) (ck:Nat) (ownV:yLO) :
  ∃ lv' J' sn' bs' ck' xs,(∀ id,callN Ftab S m D out ownV (P++.map (mKs sn) (mVs IV.bool sn) bs ck::.cells [.mapM D P.length]::J0) id 91 [.int .i64 z,.ptrM D (P.length+1) 0,.ptrM D 3 0]=some (.x,lv',P++.map (mKs sn') (mVs IV.bool sn') bs' ck'::.cells [.mapM D P.length]::J'))/\OwnB intc 1 D (P.length+2) J0.length J' lv' xs/\(∀ j,j<J0.length->J'[j]?=J0[j]?)/\J0.length<=J'.length/\(lkM false sn z=false->∃ r,xs=z::r)/\xs.length<=U.length:=by
 obtain ⟨m,rfl⟩:∃ q,m=q+1:=⟨m - 1,by omega⟩
 have f0:∀ x R,(P++x::R)[P.length]?=some x:=fun x R=>by rw [zcb (zcf _),zea]; rfl
 have f1:∀ x y R,(P++x::y::R)[P.length+1]?=some y:=fun x y R=>by rw [zcb (by omega),zdd]; rfl
 have hPl:3<P.length:=(zb6.1 hP3).1
 have f2:∀ R,(P++R)[2]?=some (.map (mKs nx) (mVs (IV.int .i64) nx) nbs nck):=fun R=>by rw [zb8 (by omega)]; exact hP2
 have f3:∀ R,(P++R)[3]?=some (.cells [.mapM D 2]):=fun R=>by rw [zb8 (by omega)]; exact hP3
 have s0:∀ x y R,(P++x::R).set P.length y=P++y::R:=fun x y R=>by rw [zdl _ _ (zcf _),zea]; rfl
 have main:∃ v own',(∀ id,callN Ftab S (m+1) D out ownV (P++.map (mKs sn) (mVs IV.bool sn) bs ck::.cells [.mapM D P.length]::J0) id 91 [.int .i64 z,.ptrM D (P.length+1) 0,.ptrM D 3 0]=some (.x,v,own'))/\(∃ J' sn' bs' ck' xs,own'=P++.map (mKs sn') (mVs IV.bool sn') bs' ck'::.cells [.mapM D P.length]::J'/\OwnB intc 1 D (P.length+2) J0.length J' v xs/\(∀ j,j<J0.length->J'[j]?=J0[j]?)/\J0.length<=J'.length/\(lkM false sn z=false->∃ r,xs=z::r)/\xs.length<=U.length):=by
  refine zt (i:=i91) (ns hS (by rfl)) rfl rfl (lb rfl) fun t hfr=>?_
  simp only [V2,Nat.reduceAdd,i91] at hfr
  simp only [i91,V0,sevalprocAttr,hfr]
  refine zb (fun jj st=>∃ (z1:Int) (J:yLO) (s1:List (Int × Bool)) (bs:List Nat) (ck:Nat) (lv:IV) (xs:List Int),unseen s1 U<=jj/\xs.length+unseen s1 U<=U.length/\z1∈U/\OwnB intc 1 D (P.length+2) J0.length J lv xs/\(∀ j,j<J0.length->J[j]?=J0[j]?)/\J0.length<=J.length/\((xs=[]/\z1=z/\s1=sn)∨∃ r,xs=z::r)/\st.own=P++.map (mKs s1) (mVs IV.bool s1) bs ck::.cells [.mapM D P.length]::J/\Slots 19 st.t [(0,.int .i64 z1),(1,.ptrM D (P.length+1) 0),(2,.ptrM D 3 0),(4,lv)]) U.length (by omega) ⟨z,J0,sn,bs,ck,.nilsl,[],zbw _ _,by have:=zbw sn U; simpa using this,hz,.inl ⟨rfl,rfl⟩,fun _ _=>rfl,zcf _,.inl ⟨rfl,rfl,rfl⟩,rfl,by simp only [V0,sevalprocAttr,hfr]⟩ ?_
  clear hfr
  rintro jj ⟨t,own⟩ KA ⟨z1,J,s1,bs,ck,lv,xs,hjj,hxl,hz1,hO,hk,hlJ,hx,ho,hfr⟩ hnA heA hrA
  dsimp only at ho hfr
  subst ho
  simp only [V3] at hfr
  have evS:∀ (R:yLO) (C:Call) (n0:Nat) (own:yLO) (t:List IV) (a b:Opd),ρ t a=.mapM D P.length->ρ t b=.int .i64 z1->evOp C D out n0 (P++.map (mKs s1) (mVs IV.bool s1) bs ck::R) own t (.lookup (.bool false) (false,[1]) false a b)=some (.r,.bool (lkM false s1 z1),own):=fun R C n0 own t a b h1 h2=>ZO (bs:=bs) (ck:=ck) false z1 rfl h1 h2 (by simp only [look,if_true,f0])
  have evN:∀ (R:yLO) (C:Call) (n0:Nat) (own:yLO) (t:List IV) (a b:Opd),ρ t a=.mapM D 2->ρ t b=.int .i64 z1->evOp C D out n0 (P++R) own t (.lookup (.int .i64 0) (false,[1]) false a b)=some (.r,.int .i64 (lkM 0 nx z1),own):=fun R C n0 own t a b h1 h2=>ZO (u:=IV.int .i64) (bs:=nbs) (ck:=nck) 0 z1 rfl h1 h2 (by simp only [look,if_true,f2])
  cases hs:lkM false s1 z1
  ·obtain ⟨bs',ck',hup⟩:=upd_m (u:=IV.bool) s1 bs ck z1 true
   obtain ⟨e,lv',J2,happ,hO2,hk2,hl2⟩:=ownB_app1 (Pre:=P++[.map (mKs (putM s1 z1 true)) (mVs IV.bool (putM s1 z1 true)) bs' ck',.cells [.mapM D P.length]]) (n0:=P.length+(J.length+1+1)) (slot:=0) (k:=0) (out:=out) (R:=[.free]) zi (by simp) hO hlJ (ys:=[z1]) (by simp) (by simp only [zcc,zci]; omega) (by omega) rfl rfl
   simp only [zcy,zcu,zc4,zcs,zdo,intc,zg,zcc,zci,zda,zcq] at happ
   have hup2:=fun C n0 ownV own t a b c=>hup C D out n0 P.length ownV own t a b c
   have hlt:=unseen_lt hz1 hs
   simp only [V0,sevalprocAttr,hfr,f0,f1,f3,evS,evN,hs,hup2,s0,rep,zw,zF,zJ,yG,happ]
   refine hnA _ (unseen (putM s1 z1 true) U) (by omega) ⟨lkM 0 nx z1,J2,putM s1 z1 true,bs',ck',lv',xs++[z1],zcf _,by simp only [zce,List.length_singleton]; omega,hnx z1,hO2,fun j hj=>?_,by rw [hl2,zce]; omega,.inr ?_,rfl,by simp only [V0,sevalprocAttr,hfr]⟩
   ·rw [hk2 j hj,zb8 (by omega)]
    exact hk j hj
   ·rcases hx with ⟨rfl,rfl,_⟩ | ⟨r,rfl⟩
    ·exact ⟨[],rfl⟩
    ·exact ⟨r++[z1],by simp⟩
  ·simp only [V0,sevalprocAttr,hfr,f0,f1,f3,evS,hs]
   refine heA _ _ ?_
   simp only [V0,sevalprocAttr,hfr,ze,ZE]
   refine ⟨_,rfl,J,s1,bs,ck,xs,rfl,hO,hk,hlJ,fun h0=>?_,by omega⟩
   rcases hx with ⟨_,rfl,rfl⟩ | h
   ·rw [hs] at h0
    cases h0
   ·exact h
 obtain ⟨v,own',h1,J',sn',bs',ck',xs,rfl,h2,h3,h4,h5,h6⟩:=main
 exact ⟨v,J',sn',bs',ck',xs,h1,h2,h3,h4,h5,h6⟩
end
end
section
section
variable {S:ySM}
theorem oins_nil (hS:NoS S) {m d:Nat} {out:yLM} {ownV own:yLO} (hm:4<=m):∃ J',∀ id,callN Ftab S m d out ownV own id 127 [.nilsl,.int .i64 0,.int .i64 0]=some (.x,.tuple [],own++J'):=by
 obtain ⟨m,rfl⟩:∃ q,m=q+1:=⟨m - 1,by omega⟩
 have main:∃ v own',(∀ id,callN Ftab S (m+1) d out ownV own id 127 [.nilsl,.int .i64 0,.int .i64 0]=some (.x,v,own'))/\(v=.tuple []/\∃ J',own'=own++J'):=by
  refine zt (i:=i127) (ns hS (by rfl)) rfl rfl (lb rfl) fun t hfr=>?_
  simp only [V2,Nat.reduceAdd,i127] at hfr
  have hw:wrapI .i64 ((0:Int)+1)=1:=rfl
  have h10:((1:Int)<0)=False:=eq_false (by decide)
  simp only [i127,V0,Nat.reduceLT,Nat.reduceAdd,Nat.reduceMul,Nat.reduceLeDiff,Nat.reduceEqDiff,reduceCtorEq,hfr,hw]
  refine zb (fun jj st=>st.own=own/\Slots 49 st.t [(2,.int .i64 0),(6,.int .i64 1)]) 0 (by omega) ⟨rfl,by simp only [V0,Nat.reduceLT,Nat.reduceAdd,Nat.reduceMul,Nat.reduceLeDiff,Nat.reduceEqDiff,reduceCtorEq,hfr,hw]⟩ ?_
  clear hfr
  rintro jj ⟨t,own1⟩ KB ⟨ho,hfr⟩ hnB heB hrB
  dsimp only at ho hfr
  subst ho
  simp only [V3] at hfr
  simp only [V0,Nat.reduceLT,Nat.reduceAdd,Nat.reduceMul,Nat.reduceLeDiff,Nat.reduceEqDiff,reduceCtorEq,hfr,h10]
  refine heB _ _ ?_
  simp only [V0,Nat.reduceLT,Nat.reduceAdd,Nat.reduceMul,Nat.reduceLeDiff,Nat.reduceEqDiff,reduceCtorEq,hfr,zr,yk]
  exact ⟨_,rfl,rfl,[],by simp⟩
 obtain ⟨v,own',h1,rfl,J',rfl⟩:=main
 exact ⟨J',h1⟩
theorem opdq_nil (hS:NoS S) {m d:Nat} {out:yLM} {ownV own:yLO} {lim:Int} (hm:6<=m):∃ J',∀ id,callN Ftab S m d out ownV own id 109 [.nilsl,.int .i64 0,.int .i64 0,.int .i64 lim]=some (.x,.tuple [],own++J'):=by
 obtain ⟨m,rfl⟩:∃ q,m=q+1:=⟨m - 1,by omega⟩
 have main:∃ v own',(∀ id,callN Ftab S (m+1) d out ownV own id 109 [.nilsl,.int .i64 0,.int .i64 0,.int .i64 lim]=some (.x,v,own'))/\(v=.tuple []/\∃ J',own'=own++J'):=by
  refine zt (i:=i109) (ns hS (by rfl)) rfl rfl (lb rfl) fun t hfr=>?_
  simp only [V2,Nat.reduceAdd,i109] at hfr
  have hw:wrapI .i64 ((0:Int) - 0)=0:=rfl
  have h12:((0:Int)<=12)=True:=eq_true (by decide)
  simp only [i109,V0,Nat.reduceLT,Nat.reduceAdd,Nat.reduceMul,Nat.reduceLeDiff,Nat.reduceEqDiff,reduceCtorEq,hfr]
  refine zb (fun jj st=>st.own=own/\Slots 134 st.t [(0,.nilsl),(1,.int .i64 0),(2,.int .i64 0)]) 0 (by omega) ⟨rfl,by simp only [V0,Nat.reduceLT,Nat.reduceAdd,Nat.reduceMul,Nat.reduceLeDiff,Nat.reduceEqDiff,reduceCtorEq,hfr]⟩ ?_
  clear hfr
  rintro jj ⟨t,own1⟩ KB ⟨ho,hfr⟩ hnB heB hrB
  dsimp only at ho hfr
  subst ho
  simp only [V3] at hfr
  obtain ⟨J',hs⟩:=oins_nil (d:=d) (out:=out) (ownV:=own1++[.free]) (own:=own1++[.free]) hS (m:=m) (by omega)
  simp only [zcy] at hs
  simp only [V0,Nat.reduceLT,Nat.reduceAdd,Nat.reduceMul,Nat.reduceLeDiff,Nat.reduceEqDiff,reduceCtorEq,hfr,hw,h12,hs]
  refine hrB _ ?_
  simp only [V0,Nat.reduceLT,Nat.reduceAdd,Nat.reduceMul,Nat.reduceLeDiff,Nat.reduceEqDiff,reduceCtorEq,hfr,ze,yk]
  exact ⟨_,rfl,rfl,_,rfl⟩
 obtain ⟨v,own',h1,rfl,J',rfl⟩:=main
 exact ⟨J',h1⟩
theorem osort_nil (hS:NoS S) {Nl m d:Nat} {out:yLM} {ownV own:yLO} (hL:LenOK S Nl) (hm:Nl+8<=m):∃ J',∀ id,callN Ftab S m d out ownV own id 90 [.nilsl]=some (.x,.tuple [],own++J'):=by
 obtain ⟨m,rfl⟩:∃ q,m=q+1:=⟨m - 1,by omega⟩
 have main:∃ v own',(∀ id,callN Ftab S (m+1) d out ownV own id 90 [.nilsl]=some (.x,v,own'))/\(v=.tuple []/\∃ J',own'=own++J'):=by
  refine zt (i:=i90) (ns hS (by rfl)) rfl rfl (lb rfl) fun t hfr=>?_
  simp only [V2,Nat.reduceAdd,i90] at hfr
  have hu:wrapI .u64 (0:Int)=0:=rfl
  have hlen:=hL 0 (by omega) m (by omega)
  simp only [zcp] at hlen
  obtain ⟨J',hs⟩:=opdq_nil (d:=d) (out:=out) (ownV:=own++[.free,.free]) (own:=own++[.free,.free]) (lim:=(lenN 0:Int)) hS (m:=m) (by omega)
  simp only [zcy] at hs
  simp only [i90,V0,Nat.reduceLT,Nat.reduceAdd,Nat.reduceMul,Nat.reduceLeDiff,Nat.reduceEqDiff,reduceCtorEq,hfr,hu,hlen,hs,e_conv,zr,yk]
  exact ⟨_,rfl,rfl,_,rfl⟩
 obtain ⟨v,own',h1,rfl,J',rfl⟩:=main
 exact ⟨J',h1⟩
theorem putM_len {β:Type} (L:List (Int × β)) (id:Int) (y:β):(putM L id y).length<=L.length+1:=by
 unfold putM
 cases L.findIdx? fun kv=>id==kv.1 <;> simp
theorem cy_inner (hS:NoS S) (p:Pn) {m D:Nat} {out:yLM} {K:yKM} (t:List IV) (q:SlOf 1 intc) (hql:q.l.length<=1000000) (hm:q.l.length+10<=m) (i:Nat) (x1:IObj) (lv:IV) (J:yLO) (nx:List (Int × Int)) (bs:List Nat) (ck:Nat) (xs:List Int) (hO:OwnJ intc 1 D 4 J lv xs) (hx:xs.length+q.l.length<=1000000) (hn:nx.length<=xs.length)
  (hfr:Slots 72 t [(1,.ptrM D 0 0),(2,.nilsl),(4,lv),(5,.ptrM D 3 0),(8,q.v),(22,p.ns.v),(23,iv (p.ns.l.length:Nat)),(24,iv i)])
  (hK:∀ t' lv J nx bs ck,OwnJ intc 1 D 4 J lv (xs++q.l)->nx.length<=(xs++q.l).length->Slots 72 t' [(1,.ptrM D 0 0),(2,.nilsl),(4,lv),(5,.ptrM D 3 0),(8,q.v),(22,p.ns.v),(23,iv (p.ns.l.length:Nat)),(24,iv i)]->K .normal ⟨t',.cells [p.ns.v,p.as.v,p.fs.v]::x1::.map (mKs nx) (mVs (IV.int .i64) nx) bs ck::.cells [.mapM D 2]::J⟩) :
  Ex (callN Ftab S m) D out m (i64.body.sub [1,1,1,1,0,1,0,0,1,1,0,0,1,1]) K ⟨t,.cells [p.ns.v,p.as.v,p.fs.v]::x1::.map (mKs nx) (mVs (IV.int .i64) nx) bs ck::.cells [.mapM D 2]::J⟩:=by
 simp only [V3] at hfr
 have hqf:=q.few
 simp only [i64,IC.sub,V0,Nat.reduceLT,Nat.reduceAdd,Nat.reduceMul,Nat.reduceLeDiff,Nat.reduceEqDiff,reduceCtorEq,hfr]
 refine zb (fun jj st=>∃ (k:Nat) (lv:IV) (J:yLO) (nx:List (Int × Int)) (bs:List Nat) (ck:Nat),q.l.length - k<=jj/\k<=q.l.length/\OwnJ intc 1 D 4 J lv (xs++q.l.take k)/\nx.length<=xs.length+k/\st.own=.cells [p.ns.v,p.as.v,p.fs.v]::x1::.map (mKs nx) (mVs (IV.int .i64) nx) bs ck::.cells [.mapM D 2]::J/\Slots 72 st.t [(1,.ptrM D 0 0),(2,.nilsl),(4,lv),(5,.ptrM D 3 0),(8,q.v),(22,p.ns.v),(23,iv (p.ns.l.length:Nat)),(24,iv i),(32,q.v),(33,iv (q.l.length:Nat)),(34,iv k)]) q.l.length (by omega) ⟨0,lv,J,nx,bs,ck,by omega,by omega,by rw [List.take_zero,zda]; exact hO,by omega,rfl,by simp only [V0,Nat.reduceLT,Nat.reduceAdd,Nat.reduceMul,Nat.reduceLeDiff,Nat.reduceEqDiff,reduceCtorEq,hfr,zcp]⟩ ?_
 clear hfr hO hn
 rintro jj ⟨t,own1⟩ KB ⟨k,lv,J,nx,bs,ck,hjj,hk,hO,hn,ho,hfr⟩ hnB heB hrB
 dsimp only at ho hfr
 subst ho
 simp only [V3] at hfr
 by_cases h:k<q.l.length
 ·obtain ⟨z,hx1⟩:=gx (l:=q.l) (i:=k) h
  have hrd:rdN (q.l.flatMap intc) (k*1) 1=some [.int .i64 z]:=(zc zi 0 1 hx1 (by omega)).trans rfl
  have hw:wrapI .i64 ((k:Int)+1)=((k+1:Nat):Int):=we
  have htk:xs++q.l.take k++[z]=xs++q.l.take (k+1):=by rw [zd1,hx1]; simp
  have hlt:(xs++q.l.take k).length=xs.length+k:=by rw [zce,zd2,Nat.min_eq_left (by omega)]
  obtain ⟨e,lv',J2,happ,hO2⟩:=YC (Pre:=[.cells [p.ns.v,p.as.v,p.fs.v],x1,.map (mKs nx) (mVs (IV.int .i64) nx) bs ck,.cells [.mapM D 2]]) (n0:=J.length+1+1+1+1) (slot:=0) (k:=0) (out:=out) (R:=[.free]) zi hO (ys:=[z]) (by simp) (by simp only [hlt,zcc,zci]; omega) (by simp only [zcc,zci]; omega) rfl rfl
  simp only [zcu,zc4,zcs,zdo,intc,zg,zcc,zci,zda,zcq] at happ
  rw [htk] at hO2
  obtain ⟨bs',ck',hup⟩:=upd_m (u:=IV.int .i64) nx bs ck (wrapI .i64 (0 - z)) (precI q.l z)
  have hup2:=fun C n0 ownV own t a b c=>hup C D out n0 2 ownV own t a b c
  have cp:=at_prec hS q z hql m (by omega)
  simp only [zg] at cp
  simp only [V0,Nat.reduceLT,Nat.reduceAdd,Nat.reduceMul,Nat.reduceLeDiff,Nat.reduceEqDiff,reduceCtorEq,hfr,h,za q h,hrd,rep,zw,zF,zJ,yG,happ,cp,hup2]
  refine ⟨by simp [comm],?_⟩
  have hpl:=putM_len nx (wrapI .i64 (0 - z)) (precI q.l z)
  simp only [V0,Nat.reduceLT,Nat.reduceAdd,Nat.reduceMul,Nat.reduceLeDiff,Nat.reduceEqDiff,reduceCtorEq,hfr,hw]
  exact hnB _ (q.l.length - (k+1)) (by omega) ⟨k+1,lv',_,_,bs',ck',by omega,by omega,hO2.more _,by omega,rfl,by simp only [V0,Nat.reduceLT,Nat.reduceAdd,Nat.reduceMul,Nat.reduceLeDiff,Nat.reduceEqDiff,reduceCtorEq,hfr,hw]⟩
 ·simp only [V0,Nat.reduceLT,Nat.reduceAdd,Nat.reduceMul,Nat.reduceLeDiff,Nat.reduceEqDiff,reduceCtorEq,hfr,h]
  refine heB _ _ ?_
  simp only [V0,Nat.reduceLT,Nat.reduceAdd,Nat.reduceMul,Nat.reduceLeDiff,Nat.reduceEqDiff,reduceCtorEq,hfr]
  have hkl:k=q.l.length:=by omega
  rw [hkl,List.take_length] at hO
  exact hK _ _ _ _ _ _ hO (by rw [zce]; omega) (by simp only [V0,Nat.reduceLT,Nat.reduceAdd,Nat.reduceMul,Nat.reduceLeDiff,Nat.reduceEqDiff,reduceCtorEq,hfr])
theorem cy_nodes (hT:TabCl Ftab) (hSc:SumCl S) (hS:NoS S) (p:Pn) (hfv:FewVia p) (ha:2*p.as.l.length<65536) (hna:2*p.as.l.length*p.ns.l.length<65536):∃ N,∀ m,N<=m->∀ (D:Nat) (out:yLM) (K:yKM) (t:List IV) (x1:IObj),
  Slots 72 t [(1,.ptrM D 0 0),(2,.nilsl),(4,.nilsl),(5,.ptrM D 3 0)] ->
  (∀ t' lv J nx bs ck xs,OwnJ intc 1 D 4 J lv xs->DartsOK p xs->xs.length<=2*p.as.l.length*p.ns.l.length->nx.length<=xs.length->Slots 72 t' [(1,.ptrM D 0 0),(2,.nilsl),(4,lv),(5,.ptrM D 3 0)]->K .normal ⟨t',.cells [p.ns.v,p.as.v,p.fs.v]::x1::.map (mKs nx) (mVs (IV.int .i64) nx) bs ck::.cells [.mapM D 2]::J⟩) ->
  Ex (callN Ftab S m) D out m (i64.body.sub [1,1,1,1,0]) K ⟨t,.cells [p.ns.v,p.as.v,p.fs.v]::x1::.map [] [] [] 0::.cells [.mapM D 2]::[]⟩:=by
 have har:∀ n∈p.ns.l,∃ N,∀ m,N<=m->∃ q:SlOf 1 intc,DartsOK p q.l/\q.l.length<=2*p.as.l.length/\∀ d out ownV own id,callN Ftab S m d out ownV own id 88 [.agg p.c,.int .i64 n.id]=some (.r,q.v,own):=fun n _=>by
  obtain ⟨q,h1,h2,N,h3⟩:=around_gives hT hSc hS p hfv ha n.id
  exact ⟨N,fun m hm=>⟨q,h1,h2,h3 m hm⟩⟩
 obtain ⟨Na,hNa⟩:=Yb p.ns.l har
 refine ⟨Na+p.ns.l.length+200000,fun m hm D out K t x1 hfr hK=>?_⟩
 simp only [zd,zh] at hfr
 have hnf:=p.ns.few
 have hI:=fun {D:Nat} {out:yLM} {K:yKM} t q hql hm i x1 lv J nx bs ck xs=>@cy_inner S hS p m D out K t q hql hm i x1 lv J nx bs ck xs
 rw [show i64.body.sub [1,1,1,1,0]=.seq (i64.body.sub [1,1,1,1,0,0]) (.block 0 (.loop (.seq (i64.body.sub [1,1,1,1,0,1,0,0,0]) (.seq (i64.body.sub [1,1,1,1,0,1,0,0,1,0]) (.seq (.block 1 (.seq (i64.body.sub [1,1,1,1,0,1,0,0,1,1,0,0,0]) (.seq (i64.body.sub [1,1,1,1,0,1,0,0,1,1,0,0,1,0]) (i64.body.sub [1,1,1,1,0,1,0,0,1,1,0,0,1,1])))) (i64.body.sub [1,1,1,1,0,1,0,0,1,1,1])))))) from rfl]
 generalize i64.body.sub [1,1,1,1,0,1,0,0,1,1,0,0,1,1]=T at hI ⊢
 simp only [i64,IC.sub,V0,Nat.reduceLT,Nat.reduceAdd,Nat.reduceMul,Nat.reduceLeDiff,Nat.reduceEqDiff,reduceCtorEq,hfr]
 refine zb (fun jj st=>∃ (i:Nat) (lv:IV) (J:yLO) (nx:List (Int × Int)) (bs:List Nat) (ck:Nat) (xs:List Int),p.ns.l.length - i<=jj/\i<=p.ns.l.length/\OwnJ intc 1 D 4 J lv xs/\DartsOK p xs/\xs.length<=2*p.as.l.length*i/\nx.length<=xs.length/\st.own=.cells [p.ns.v,p.as.v,p.fs.v]::x1::.map (mKs nx) (mVs (IV.int .i64) nx) bs ck::.cells [.mapM D 2]::J/\Slots 72 st.t [(1,.ptrM D 0 0),(2,.nilsl),(4,lv),(5,.ptrM D 3 0),(22,p.ns.v),(23,iv (p.ns.l.length:Nat)),(24,iv i)]) p.ns.l.length (by omega) ⟨0,.nilsl,[],[],[],0,[],by omega,by omega,.inl ⟨rfl,rfl⟩,fun _ h=>by simp at h,by simp,by simp,rfl,by simp only [V0,Nat.reduceLT,Nat.reduceAdd,Nat.reduceMul,Nat.reduceLeDiff,Nat.reduceEqDiff,reduceCtorEq,hfr,zcp]⟩ ?_
 clear hfr
 rintro jj ⟨t,own⟩ KA ⟨i,lv,J,nx,bs,ck,xs,hjj,hi,hO,hD,hxl,hn,ho,hfr⟩ hnA heA hrA
 dsimp only at ho hfr
 subst ho
 simp only [V3] at hfr
 have hmul:2*p.as.l.length*i<=2*p.as.l.length*p.ns.l.length:=Nat.mul_le_mul_left _ hi
 by_cases h:i<p.ns.l.length
 ·have hx:p.ns.l[i]?=some p.ns.l[i]:=zb7 h
  obtain ⟨q,hq1,hq2,hq3⟩:=hNa _ (zdj h) m (by omega)
  generalize p.ns.l[i]=x at hx hq3
  have hrd:rdN (p.ns.l.flatMap Nd.c) (i*3) 3=some [.int .i64 x.id,.int .i64 x.at'.x,.int .i64 x.at'.y]:=(zc Nd.c_len 0 3 hx (by omega)).trans rfl
  have hw:wrapI .i64 ((i:Int)+1)=((i+1:Nat):Int):=we
  simp only [Pn.c] at hq3
  have hmul1:2*p.as.l.length*(i+1)=2*p.as.l.length*i+2*p.as.l.length:=Nat.mul_succ _ _
  have hmul2:2*p.as.l.length*(i+1)<=2*p.as.l.length*p.ns.l.length:=Nat.mul_le_mul_left _ h
  simp only [V0,Nat.reduceLT,Nat.reduceAdd,Nat.reduceMul,Nat.reduceLeDiff,Nat.reduceEqDiff,reduceCtorEq,hfr,h,za p.ns h,hrd,hq3]
  refine hI _ q (by omega) (by omega) i x1 lv _ nx bs ck xs (hO.more _) (by omega) hn (by simp only [V0,Nat.reduceLT,Nat.reduceAdd,Nat.reduceMul,Nat.reduceLeDiff,Nat.reduceEqDiff,reduceCtorEq,hfr]) fun t' lv' J' nx' bs' ck' hO' hn' ht'=>?_
  simp only [V3] at ht'
  simp only [V0,Nat.reduceLT,Nat.reduceAdd,Nat.reduceMul,Nat.reduceLeDiff,Nat.reduceEqDiff,reduceCtorEq,ht',hw]
  rw [zce] at hn'
  exact hnA _ (p.ns.l.length - (i+1)) (by omega) ⟨i+1,lv',J',nx',bs',ck',xs++q.l,by omega,by omega,hO',fun z hz=>by
   rcases zd4.1 hz with h | h
   ·exact hD z h
   ·exact hq1 z h,by rw [zce]; omega,by rw [zce]; omega,rfl,by simp only [V0,Nat.reduceLT,Nat.reduceAdd,Nat.reduceMul,Nat.reduceLeDiff,Nat.reduceEqDiff,reduceCtorEq,ht',hw]⟩
 ·simp only [V0,Nat.reduceLT,Nat.reduceAdd,Nat.reduceMul,Nat.reduceLeDiff,Nat.reduceEqDiff,reduceCtorEq,hfr,h]
  refine heA _ _ ?_
  simp only [V0,Nat.reduceLT,Nat.reduceAdd,Nat.reduceMul,Nat.reduceLeDiff,Nat.reduceEqDiff,reduceCtorEq,hfr]
  exact hK _ _ _ _ _ _ _ hO hD (by omega) hn (by simp only [V0,Nat.reduceLT,Nat.reduceAdd,Nat.reduceMul,Nat.reduceLeDiff,Nat.reduceEqDiff,reduceCtorEq,hfr])
end
end
end Go.Proofs.YtiiofgieclfikaaGreatDoor
end
