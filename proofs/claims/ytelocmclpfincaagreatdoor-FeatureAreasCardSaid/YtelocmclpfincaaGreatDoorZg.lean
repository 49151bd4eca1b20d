/-
  A part of the proof: the small machine, its simulation and its walks.
-/
import Derived.Test.YtelocmclpfincaaGreatDoorZb
import Derived.Test.YtelocmclpfincaaGreatDoorZe
import Derived.Test.YtelocmclpfincaaGreatDoorZf
set_option linter.unusedVariables false
set_option linter.unusedSimpArgs false
set_option maxRecDepth 1000000
set_option maxHeartbeats 3200000
section
namespace Go.Proofs.YtelocmclpfincaaGreatDoor
open Go Go.RowKit
section
def GivesN (S:ySM) (N:Nat) (f:FuncId) (args:List IV) (v:IV):Prop:=∀ m,N<=m->∀ d out ownV own id,callN Ftab S m d out ownV own id f args=some (.r,v,own)
theorem zak (a b:IV):rep [a,b] 3=[a,b,a,b,a,b]:=zcw rfl rfl
theorem ZS (a b:IV):rep [a,b] 4=[a,b,a,b,a,b,a,b]:=zcw rfl rfl
def nearP (p:Pt):Bool:=!(decide (p.x < -2097152)||decide (2097152<p.x)||decide (p.y < -2097152)||decide (2097152<p.y))
noncomputable def twI (a b c:Pt):Int:=wrapI .i64 (wrapI .i64 (wrapI .i64 (b.x - a.x)*wrapI .i64 (c.y - a.y)) - wrapI .i64 (wrapI .i64 (b.y - a.y)*wrapI .i64 (c.x - a.x)))
section
variable {S:ySM}
theorem at_twice (hS:NoS S) (a b c:Pt):GivesN S 2 119 [.agg a.c,.agg b.c,.agg c.c] (.int .i64 (twI a b c)):=by
 refine zd (i:=i119) (ns hS (by rfl)) rfl rfl (lb rfl) 1 (by omega) zw fun m hm d out t hfr=>?_
 simp only [V2,Nat.reduceAdd,i119,Pt.c] at hfr
 simp only [i119,V0,sevalprocAttr,hfr,twI]
theorem at_before (hS:NoS S) (a b:Pt):GivesN S 2 163 [.agg a.c,.agg b.c] (.bool (decide (a.x<b.x)||(a.x==b.x&&decide (a.y<b.y)))):=by
 refine zd (i:=i163) (ns hS (by rfl)) rfl rfl (lb rfl) 1 (by omega) zk fun m hm d out t hfr=>?_
 simp only [V2,Nat.reduceAdd,i163,Pt.c] at hfr
 cases h1:decide (a.x<b.x)
 ·cases h2:a.x==b.x
  ·simp only [i163,V0,sevalprocAttr,hfr,h1,h2,zdi,zcg]
  ·simp only [i163,V0,sevalprocAttr,hfr,h1,h2,zdi,zcn]
 ·simp only [i163,V0,sevalprocAttr,hfr,h1,zdm]
theorem at_near (hS:NoS S) (l:List Pt) (hl:l.length<=1000):GivesN S (l.length+4) 118 [.slC (l.flatMap Pt.c) l.length 2 true] (.bool (l.all nearP)):=by
 refine zd (i:=i118) (ns hS (by rfl)) rfl rfl (lb rfl) (l.length+3) (by omega) zk fun m hm d out t hfr=>?_
 simp only [V2,Nat.reduceAdd,i118] at hfr
 have hE:∀ x:Pt,x.c=[.int .i64 x.x,.int .i64 x.y]:=fun x=>rfl
 simp only [i118,V0,sevalprocAttr,hfr]
 refine zb (fun jj st=>∃ (i:Nat) (O:yLO),l.length - i<=jj/\i<=l.length/\(l.take i).all nearP=true/\st.own=O/\Slots 30 st.t [(5,.slC (l.flatMap Pt.c) l.length 2 true),(6,iv (l.length:Nat)),(7,iv i)]) l.length (by omega) ⟨0,[],by omega,by omega,by simp,rfl,by simp only [V0,sevalprocAttr,hfr,zcp]⟩ ?_
 rintro jj ⟨t,own⟩ K ⟨i,O,hjj,hi,ha,ho,hfr⟩ hn he hr
 dsimp only at ho hfr
 subst ho
 simp only [V3] at hfr
 by_cases h:i<l.length
 ·have hx:l[i]?=some l[i]:=zce h
  have hmem:l[i]∈l:=zdr h
  generalize l[i]=x at hx hmem
  have hrd:rdN (l.flatMap Pt.c) (i*2) 2=some [.int .i64 x.x,.int .i64 x.y]:=(zc (sz:=2) (fun _=>rfl) 0 2 hx (by omega)).trans rfl
  have hw:wrapI .i64 ((i:Int)+1)=((i+1:Nat):Int):=we
  have fin:nearP x=false->l.all nearP=false:=fun hf=>by
   rw [List.all_eq_false]
   exact ⟨x,hmem,by rw [hf]; decide⟩
  cases h1:decide (x.x < -2097152)
  ·cases h2:decide (2097152<x.x)
   ·cases h3:decide (x.y < -2097152)
    ·cases h4:decide (2097152<x.y)
     ·simp only [V0,sevalprocAttr,hfr,h,zM,hrd,gt_iff_lt,h1,h2,h3,h4,hw]
      refine hn _ (l.length - (i+1)) (by omega) ⟨i+1,_,by omega,by omega,?_,rfl,by simp only [V0,sevalprocAttr,hfr,h1,h2,h3,h4,hw]⟩
      rw [zdv,hx,zd2,List.all_append,ha]
      simp [nearP,h1,h2,h3,h4]
     ·simp only [V0,sevalprocAttr,hfr,h,zM,hrd,gt_iff_lt,h1,h2,h3,h4]
      refine hr _ ?_
      simp only [V0,sevalprocAttr,hfr,fin (by simp [nearP,h1,h2,h3,h4])]
    ·simp only [V0,sevalprocAttr,hfr,h,zM,hrd,gt_iff_lt,h1,h2,h3]
     refine hr _ ?_
     simp only [V0,sevalprocAttr,hfr,fin (by simp [nearP,h1,h2,h3])]
   ·simp only [V0,sevalprocAttr,hfr,h,zM,hrd,gt_iff_lt,h1,h2]
    refine hr _ ?_
    simp only [V0,sevalprocAttr,hfr,fin (by simp [nearP,h1,h2])]
  ·simp only [V0,sevalprocAttr,hfr,h,zM,hrd,gt_iff_lt,h1]
   refine hr _ ?_
   simp only [V0,sevalprocAttr,hfr,fin (by simp [nearP,h1])]
 ·simp only [V0,sevalprocAttr,hfr,h]
  refine he _ _ ?_
  have hall:l.all nearP=true:=by rw [← zcm (l:=l) (i:=i) (by omega)]; exact ha
  simp only [V0,sevalprocAttr,hfr,hall]
noncomputable def twG (a b c:Pt):Int:=bif [a,b,c].all nearP then twI a b c else 0
theorem at_twiceG (hS:NoS S) (a b c:Pt):GivesN S 8 162 [.agg a.c,.agg b.c,.agg c.c] (.int .i64 (twG a b c)):=by
 refine zd (i:=i162) (ns hS (by rfl)) rfl rfl (lb rfl) (7) (by omega) zw fun m hm d out t hfr=>?_
 simp only [V2,Nat.reduceAdd,i162,Pt.c] at hfr
 have c0:=fun d out ownV own i=>at_near hS [a,b,c] (by simp) m (by simp; omega) d out ownV own i
 simp only [zdc,zec,Pt.c,zc5,zdh,zo,zcr,zc7,zde,Nat.reduceAdd] at c0
 have c1:=at_twice hS a b c m (by omega)
 simp only [Pt.c,zo] at c1
 unfold twG
 cases hb:[a,b,c].all nearP
 ·simp only [hb] at c0
  simp only [i162,V0,sevalprocAttr,hfr,zak,c0,c1,cond_false]
 ·simp only [hb] at c0
  simp only [i162,V0,sevalprocAttr,hfr,zak,c0,c1,cond_true]
noncomputable def sideI (a b c:Pt):Int:=bif decide (0<twG a b c) then 1 else bif decide (twG a b c<0) then -1 else 0
theorem at_side (hS:NoS S) (a b c:Pt):GivesN S 10 143 [.agg a.c,.agg b.c,.agg c.c] (.int .i64 (sideI a b c)):=by
 refine zd (i:=i143) (ns hS (by rfl)) rfl rfl (lb rfl) (9) (by omega) zw fun m hm d out t hfr=>?_
 simp only [V2,Nat.reduceAdd,i143,Pt.c] at hfr
 have c1:=at_twiceG hS a b c m (by omega)
 simp only [Pt.c,zo] at c1
 unfold sideI
 generalize twG a b c=w at c1
 cases h1:decide (0<w)
 ·cases h2:decide (w<0)
  ·simp only [i143,V0,sevalprocAttr,hfr,c1,gt_iff_lt,h1,h2,cond_false]
  ·simp only [i143,V0,sevalprocAttr,hfr,c1,gt_iff_lt,h1,h2,cond_false,cond_true]
 ·simp only [i143,V0,sevalprocAttr,hfr,c1,gt_iff_lt,h1,cond_true]
def mnI (a b:Int):Int:=if b<a then b else a
def mxI (a b:Int):Int:=if a<b then b else a
noncomputable def onI (a b p:Pt):Bool:=([a,b,p].all nearP&&twI a b p==0)&&(decide (mnI a.x b.x<=p.x)&&(decide (p.x<=mxI a.x b.x)&&(decide (mnI a.y b.y<=p.y)&&decide (p.y<=mxI a.y b.y))))
theorem at_on (hS:NoS S) (a b p:Pt):GivesN S 8 92 [.agg a.c,.agg b.c,.agg p.c] (.bool (onI a b p)):=by
 refine zd (i:=i92) (ns hS (by rfl)) rfl rfl (lb rfl) (7) (by omega) zk fun m hm d out t hfr=>?_
 simp only [V2,Nat.reduceAdd,i92,Pt.c] at hfr
 have c0:=fun d out ownV own i=>at_near hS [a,b,p] (by simp) m (by simp; omega) d out ownV own i
 simp only [zdc,zec,Pt.c,zc5,zdh,zo,zcr,zc7,zde,Nat.reduceAdd] at c0
 have c1:=at_twice hS a b p m (by omega)
 simp only [Pt.c,zo] at c1
 unfold onI
 have hmn:∀ a b:Int,(if b<a then b else a)=mnI a b:=fun _ _=>rfl
 have hmx:∀ a b:Int,(if a<b then b else a)=mxI a b:=fun _ _=>rfl
 cases hb:[a,b,p].all nearP
 ·simp only [hb] at c0
  simp only [i92,V0,sevalprocAttr,hfr,zak,c0,c1,zcg]
 ·simp only [hb] at c0
  have hbne:∀ z:Int,(z != 0)=!(z==0):=fun z=>rfl
  cases h0:twI a b p==0
  ·simp only [i92,V0,sevalprocAttr,hfr,zak,c0,c1,hbne,h0,zc4,zcg]
  ·cases h1:decide (mnI a.x b.x<=p.x)
   ·simp only [i92,V0,sevalprocAttr,hfr,zak,c0,c1,hbne,h0,hmn,hmx,gt_iff_lt,h1,zc4,zcg]
   ·cases h2:decide (p.x<=mxI a.x b.x)
    ·simp only [i92,V0,sevalprocAttr,hfr,zak,c0,c1,hbne,h0,hmn,hmx,gt_iff_lt,h1,h2,zc4,zcg]
    ·cases h3:decide (mnI a.y b.y<=p.y)
     ·simp only [i92,V0,sevalprocAttr,hfr,zak,c0,c1,hbne,h0,hmn,hmx,gt_iff_lt,h1,h2,h3,zc4,zcg]
     ·simp only [i92,V0,sevalprocAttr,hfr,zak,c0,c1,hbne,h0,hmn,hmx,gt_iff_lt,h1,h2,h3]
end
end
section
theorem zI (a b c d:Int):eqvs [1,1] [.int .i64 a,.int .i64 b] [.int .i64 c,.int .i64 d]=some ((a==c)&&(b==d)):=by
 simp only [eqvs,eqv]
 cases h1:a==c <;> cases h2:b==d <;> simp [h1,h2]
def ptE (a b:Pt):Bool:=(a.x==b.x)&&(a.y==b.y)
def bfP (a b:Pt):Bool:=decide (a.x<b.x)||(a.x==b.x&&decide (a.y<b.y))
def swP (a b:Pt):Pt × Pt:=bif bfP b a then (b,a) else (a,b)
def sharedI (a b c d:Pt):Int :=
 let f:=bif bfP (swP a b).1 (swP c d).1 then (swP c d).1 else (swP a b).1
 let l:=bif bfP (swP c d).2 (swP a b).2 then (swP c d).2 else (swP a b).2
 bif ptE f l then 1 else bif bfP f l then 2 else 0
section
variable {S:ySM}
theorem at_shared (hS:NoS S) (a b c d:Pt):GivesN S 4 144 [.agg a.c,.agg b.c,.agg c.c,.agg d.c] (.int .i64 (sharedI a b c d)):=by
 refine zd (i:=i144) (ns hS (by rfl)) rfl rfl (lb rfl) (3) (by omega) zw fun m hm dd out t hfr=>?_
 simp only [V2,Nat.reduceAdd,i144,Pt.c] at hfr
 have cb:∀ (u v:Pt) dd out ownV own i,callN Ftab S m dd out ownV own i 163 [.agg [.int .i64 u.x,.int .i64 u.y],.agg [.int .i64 v.x,.int .i64 v.y]]=some (.r,.bool (bfP u v),own):=fun u v dd out ownV own i=>at_before hS u v m (by omega) dd out ownV own i
 unfold sharedI
 obtain ⟨p1,p2,hp,hs1⟩:∃ p1 p2:Pt,swP a b=(p1,p2)/\True:=⟨_,_,rfl,trivial⟩
 obtain ⟨q1,q2,hq,hs2⟩:∃ q1 q2:Pt,swP c d=(q1,q2)/\True:=⟨_,_,rfl,trivial⟩
 simp only [hp,hq]
 have fin:∀ (K:yKM) (t:List IV),Slots 39 t [(4,.ptrM dd 0 0),(5,.ptrM dd 1 0),(6,.ptrM dd 2 0),(7,.ptrM dd 3 0)] ->
   (∀ t' O',Slots 39 t' [(8,.int .i64 (let f:=bif bfP p1 q1 then q1 else p1; let l:=bif bfP q2 p2 then q2 else p2; bif ptE f l then 1 else bif bfP f l then 2 else 0))]->K .ret ⟨t',O'⟩) ->
   Ex (callN Ftab S m) dd out m (i144.body.sub [1,1,1]) K ⟨t,.cells [.int .i64 p1.x,.int .i64 p1.y]::.cells [.int .i64 p2.x,.int .i64 p2.y]::.cells [.int .i64 q1.x,.int .i64 q1.y]::.cells [.int .i64 q2.x,.int .i64 q2.y]::[.free,.free]⟩:=by
  intro K t hfr hK
  simp only [ze,zg] at hfr
  simp only [i144,IC.sub,V0,sevalprocAttr,hfr]
  refine ⟨by simp [comm],?_⟩
  cases h1:bfP p1 q1 <;> cases h2:bfP q2 p2
  ·cases h3:ptE p1 p2
   ·cases h4:bfP p1 p2
    ·have h3':=h3
     unfold ptE at h3'
     simp only [V0,sevalprocAttr,hfr,cb,h1,h2,h4,zI,h3',zcz]
     exact hK _ _ (by simp only [V0,sevalprocAttr,hfr,h1,h2,h3,h4,cond_true,cond_false])
    ·have h3':=h3
     unfold ptE at h3'
     simp only [V0,sevalprocAttr,hfr,cb,h1,h2,h4,zI,h3',zcz]
     exact hK _ _ (by simp only [V0,sevalprocAttr,hfr,h1,h2,h3,h4,cond_true,cond_false])
   ·have h3':=h3
    unfold ptE at h3'
    simp only [V0,sevalprocAttr,hfr,cb,h1,h2,zI,h3',zcz]
    exact hK _ _ (by simp only [V0,sevalprocAttr,hfr,h1,h2,h3,cond_true,cond_false])
  ·cases h3:ptE p1 q2
   ·cases h4:bfP p1 q2
    ·have h3':=h3
     unfold ptE at h3'
     simp only [V0,sevalprocAttr,hfr,cb,h1,h2,h4,zI,h3',zcz]
     exact hK _ _ (by simp only [V0,sevalprocAttr,hfr,h1,h2,h3,h4,cond_true,cond_false])
    ·have h3':=h3
     unfold ptE at h3'
     simp only [V0,sevalprocAttr,hfr,cb,h1,h2,h4,zI,h3',zcz]
     exact hK _ _ (by simp only [V0,sevalprocAttr,hfr,h1,h2,h3,h4,cond_true,cond_false])
   ·have h3':=h3
    unfold ptE at h3'
    simp only [V0,sevalprocAttr,hfr,cb,h1,h2,zI,h3',zcz]
    exact hK _ _ (by simp only [V0,sevalprocAttr,hfr,h1,h2,h3,cond_true,cond_false])
  ·cases h3:ptE q1 p2
   ·cases h4:bfP q1 p2
    ·have h3':=h3
     unfold ptE at h3'
     simp only [V0,sevalprocAttr,hfr,cb,h1,h2,h4,zI,h3',zcz]
     exact hK _ _ (by simp only [V0,sevalprocAttr,hfr,h1,h2,h3,h4,cond_true,cond_false])
    ·have h3':=h3
     unfold ptE at h3'
     simp only [V0,sevalprocAttr,hfr,cb,h1,h2,h4,zI,h3',zcz]
     exact hK _ _ (by simp only [V0,sevalprocAttr,hfr,h1,h2,h3,h4,cond_true,cond_false])
   ·have h3':=h3
    unfold ptE at h3'
    simp only [V0,sevalprocAttr,hfr,cb,h1,h2,zI,h3',zcz]
    exact hK _ _ (by simp only [V0,sevalprocAttr,hfr,h1,h2,h3,cond_true,cond_false])
  ·cases h3:ptE q1 q2
   ·cases h4:bfP q1 q2
    ·have h3':=h3
     unfold ptE at h3'
     simp only [V0,sevalprocAttr,hfr,cb,h1,h2,h4,zI,h3',zcz]
     exact hK _ _ (by simp only [V0,sevalprocAttr,hfr,h1,h2,h3,h4,cond_true,cond_false])
    ·have h3':=h3
     unfold ptE at h3'
     simp only [V0,sevalprocAttr,hfr,cb,h1,h2,h4,zI,h3',zcz]
     exact hK _ _ (by simp only [V0,sevalprocAttr,hfr,h1,h2,h3,h4,cond_true,cond_false])
   ·have h3':=h3
    unfold ptE at h3'
    simp only [V0,sevalprocAttr,hfr,cb,h1,h2,zI,h3',zcz]
    exact hK _ _ (by simp only [V0,sevalprocAttr,hfr,h1,h2,h3,cond_true,cond_false])
 have hsw:∀ u v:Pt,swP u v=bif bfP v u then (v,u) else (u,v):=fun _ _=>rfl
 rw [show i144.body=.seq (i144.body.sub [0]) (.seq (i144.body.sub [1,0]) (.seq (i144.body.sub [1,1,0]) (i144.body.sub [1,1,1]))) from rfl]
 generalize hB:i144.body.sub [1,1,1]=B at fin ⊢
 rw [hsw] at hp hq
 cases h1:bfP b a <;> cases h2:bfP d c
 ·rw [h1] at hp
  rw [h2] at hq
  simp only [cond_true,cond_false,zdu] at hp hq
  obtain ⟨rfl,rfl⟩:=hp
  obtain ⟨rfl,rfl⟩:=hq
  simp only [i144,IC.sub,V0,sevalprocAttr,hfr,cb,h1,h2]
  refine fin _ _ (by simp only [V0,sevalprocAttr,hfr]) fun t' O' ht=>?_
  simp only [ze,zg] at ht
  simp only [V0,sevalprocAttr,ht]
 ·rw [h1] at hp
  rw [h2] at hq
  simp only [cond_true,cond_false,zdu] at hp hq
  obtain ⟨rfl,rfl⟩:=hp
  obtain ⟨rfl,rfl⟩:=hq
  simp only [i144,IC.sub,V0,sevalprocAttr,hfr,cb,h1,h2]
  refine fin _ _ (by simp only [V0,sevalprocAttr,hfr]) fun t' O' ht=>?_
  simp only [ze,zg] at ht
  simp only [V0,sevalprocAttr,ht]
 ·rw [h1] at hp
  rw [h2] at hq
  simp only [cond_true,cond_false,zdu] at hp hq
  obtain ⟨rfl,rfl⟩:=hp
  obtain ⟨rfl,rfl⟩:=hq
  simp only [i144,IC.sub,V0,sevalprocAttr,hfr,cb,h1,h2]
  refine fin _ _ (by simp only [V0,sevalprocAttr,hfr]) fun t' O' ht=>?_
  simp only [ze,zg] at ht
  simp only [V0,sevalprocAttr,ht]
 ·rw [h1] at hp
  rw [h2] at hq
  simp only [cond_true,cond_false,zdu] at hp hq
  obtain ⟨rfl,rfl⟩:=hp
  obtain ⟨rfl,rfl⟩:=hq
  simp only [i144,IC.sub,V0,sevalprocAttr,hfr,cb,h1,h2]
  refine fin _ _ (by simp only [V0,sevalprocAttr,hfr]) fun t' O' ht=>?_
  simp only [ze,zg] at ht
  simp only [V0,sevalprocAttr,ht]
noncomputable def meetI (a b c d:Pt):Int:=bif [a,b,c,d].all nearP then (bif ptE a b then (bif onI c d a then 1 else 0) else bif ptE c d then (bif onI a b c then 1 else 0) else
 bif sideI a b c==0&&sideI a b d==0 then sharedI a b c d else
 bif decide (wrapI .i64 (sideI a b c*sideI a b d)<=0)&&decide (wrapI .i64 (sideI c d a*sideI c d b)<=0) then 1 else 0) else 0
theorem at_meet (hS:NoS S) (a b c d:Pt):GivesN S 14 117 [.agg a.c,.agg b.c,.agg c.c,.agg d.c] (.int .i64 (meetI a b c d)):=by
 refine zd (i:=i117) (ns hS (by rfl)) rfl rfl (lb rfl) (13) (by omega) zw fun m hm dd out t hfr=>?_
 simp only [V2,Nat.reduceAdd,i117,Pt.c] at hfr
 have c0:=fun dd out ownV own i=>at_near hS [a,b,c,d] (by simp) m (by simp; omega) dd out ownV own i
 simp only [zdc,zec,Pt.c,zc5,zdh,zo,zcr,zc7,zde,Nat.reduceAdd] at c0
 have cs:∀ (u v w:Pt) dd out ownV own i,callN Ftab S m dd out ownV own i 143 [.agg [.int .i64 u.x,.int .i64 u.y],.agg [.int .i64 v.x,.int .i64 v.y],.agg [.int .i64 w.x,.int .i64 w.y]]=some (.r,.int .i64 (sideI u v w),own):=fun u v w dd out ownV own i=>at_side hS u v w m (by omega) dd out ownV own i
 have co:∀ (u v w:Pt) dd out ownV own i,callN Ftab S m dd out ownV own i 92 [.agg [.int .i64 u.x,.int .i64 u.y],.agg [.int .i64 v.x,.int .i64 v.y],.agg [.int .i64 w.x,.int .i64 w.y]]=some (.r,.bool (onI u v w),own):=fun u v w dd out ownV own i=>at_on hS u v w m (by omega) dd out ownV own i
 have ch:=fun dd out ownV own i=>at_shared hS a b c d m (by omega) dd out ownV own i
 simp only [Pt.c,zo] at ch
 unfold meetI
 cases hb:[a,b,c,d].all nearP
 ·simp only [hb] at c0
  simp only [i117,V0,sevalprocAttr,hfr,ZS,c0,cond_false]
 ·simp only [hb] at c0
  cases h1:ptE a b
  ·have h1':(a.x==b.x&&a.y==b.y)=false:=h1
   cases h2:ptE c d
   ·have h2':(c.x==d.x&&c.y==d.y)=false:=h2
    cases h3:sideI a b c==0
    ·cases h5:decide (wrapI .i64 (sideI a b c*sideI a b d)<=0)
     ·simp only [i117,V0,sevalprocAttr,hfr,ZS,c0,cs,co,ch,zI,h1',h2',h3,h5,zcz,cond_false,cond_true,zcg]
      refine ⟨by simp [comm],?_⟩
      simp only [V0,sevalprocAttr,hfr]
     ·cases h6:decide (wrapI .i64 (sideI c d a*sideI c d b)<=0)
      ·simp only [i117,V0,sevalprocAttr,hfr,ZS,c0,cs,co,ch,zI,h1',h2',h3,h5,h6,zcz,cond_false,cond_true,zcg]
       refine ⟨by simp [comm],?_⟩
       simp only [V0,sevalprocAttr,hfr]
      ·simp only [i117,V0,sevalprocAttr,hfr,ZS,c0,cs,co,ch,zI,h1',h2',h3,h5,h6,zcz,cond_false,cond_true,zcg]
       refine ⟨by simp [comm],?_⟩
       simp only [V0,sevalprocAttr,hfr]
    ·cases h4:sideI a b d==0
     ·cases h5:decide (wrapI .i64 (sideI a b c*sideI a b d)<=0)
      ·simp only [i117,V0,sevalprocAttr,hfr,ZS,c0,cs,co,ch,zI,h1',h2',h3,h4,h5,zcz,cond_false,cond_true,zcg,zc4]
       refine ⟨by simp [comm],?_⟩
       simp only [V0,sevalprocAttr,hfr]
      ·cases h6:decide (wrapI .i64 (sideI c d a*sideI c d b)<=0)
       ·simp only [i117,V0,sevalprocAttr,hfr,ZS,c0,cs,co,ch,zI,h1',h2',h3,h4,h5,h6,zcz,cond_false,cond_true,zcg,zc4]
        refine ⟨by simp [comm],?_⟩
        simp only [V0,sevalprocAttr,hfr]
       ·simp only [i117,V0,sevalprocAttr,hfr,ZS,c0,cs,co,ch,zI,h1',h2',h3,h4,h5,h6,zcz,cond_false,cond_true,zcg,zc4]
        refine ⟨by simp [comm],?_⟩
        simp only [V0,sevalprocAttr,hfr]
     ·simp only [i117,V0,sevalprocAttr,hfr,ZS,c0,cs,co,ch,zI,h1',h2',h3,h4,zcz,cond_false,cond_true]
   ·have h2':(c.x==d.x&&c.y==d.y)=true:=h2
    cases h3:onI a b c
    ·simp only [i117,V0,sevalprocAttr,hfr,ZS,c0,cs,co,ch,zI,h1',h2',h3,zcz,cond_false,cond_true]
    ·simp only [i117,V0,sevalprocAttr,hfr,ZS,c0,cs,co,ch,zI,h1',h2',h3,zcz,cond_false,cond_true]
  ·have h1':(a.x==b.x&&a.y==b.y)=true:=h1
   cases h3:onI c d a
   ·simp only [i117,V0,sevalprocAttr,hfr,ZS,c0,cs,co,ch,zI,h1',h3,zcz,cond_false,cond_true]
   ·simp only [i117,V0,sevalprocAttr,hfr,ZS,c0,cs,co,ch,zI,h1',h3,zcz,cond_false,cond_true]
end
end
section
def ascL:List Int->Bool
 | a::b::t=>decide (a<b)&&ascL (b::t)
 | _=>true
def ascTo (l:List Int) (k:Nat):Prop:=∀ i x y,i+1<k->l[i]?=some x->l[i+1]?=some y->x<y
theorem ZT:∀ {l:List Int},ascL l=true↔ascTo l l.length
 | []=>by simp [ascL,ascTo]
 | [a]=>by simp [ascL,ascTo]
 | a::b::t=>by
  have ih:=ZT (l:=b::t)
  simp only [ascL,zcq,decide_eq_true_eq,ih]
  constructor
  ·rintro ⟨h1,h2⟩ i x y hi hx hy
   cases i with
   | zero =>
    simp only [zdf,zc1,zcj,zde] at hx hy
    subst hx hy
    exact h1
   | succ i =>
    simp only [zc1] at hx hy
    exact h2 i x y (by simp only [zcr] at hi ⊢; omega) hx hy
  ·intro h
   refine ⟨h 0 a b (by simp) rfl rfl,fun i x y hi hx hy=>h (i+1) x y (by simp only [zcr] at hi ⊢; omega) ?_ ?_⟩
   ·simpa using hx
   ·simpa using hy
def fIdx {α:Type} (q:α->Bool) (l:List α):Int:=match l.findIdx? q with
 | some i=>(i:Int)
 | none=>-1
theorem fIdx_at {α:Type} {q:α->Bool} {l:List α} {i:Nat} {x:α} (hx:l[i]?=some x) (hq:q x=true) (ha:(l.take i).findIdx? q=none):fIdx q l=(i:Int):=by
 have h:l.findIdx? q=some i:=by
  rw [List.findIdx?_eq_some_iff_getElem]
  obtain ⟨h1,rfl⟩:=zcf.1 hx
  refine ⟨h1,hq,fun j hj=>?_⟩
  have hm:=List.findIdx?_eq_none_iff.1 ha (l[j]'(by omega)) (by
   rw [List.mem_iff_getElem]
   exact ⟨j,by simp; omega,by simp⟩)
  simp [hm]
 simp only [fIdx,h]
theorem zbu {α:Type} {q:α->Bool} {l:List α}:decide (0<=fIdx q l)=l.any q:=by
 unfold fIdx
 cases h:l.findIdx? q with
 | none =>
  have:=List.findIdx?_eq_none_iff.1 h
  have h2:l.any q=false:=by
   rw [zd9]
   intro x hx
   simp [this x hx]
  simp [h2]
 | some i =>
  obtain ⟨h1,h2,_⟩:=List.findIdx?_eq_some_iff_getElem.1 h
  have h3:l.any q=true:=List.any_eq_true.2 ⟨_,zdr h1,h2⟩
  rw [h3]
  simp only [decide_eq_true_eq]
  omega
section
variable {S:ySM}
theorem at_asc (hS:NoS S) (l:SlOf 1 intc):GivesN S (l.l.length+4) 50 [l.v] (.bool (ascL l.l)):=by
 refine zd (i:=i50) (ns hS (by rfl)) rfl rfl (lb rfl) (l.l.length+3) (by omega) zk fun m hm d out t hfr=>?_
 simp only [V2,Nat.reduceAdd,i50] at hfr
 have hlf:=l.few
 simp only [i50,V0,sevalprocAttr,hfr]
 refine zb (fun jj st=>∃ (i:Nat) (O:yLO),l.l.length - i<=jj/\(1<=i/\i<=l.l.length+1)/\ascTo l.l i/\st.own=O/\Slots 20 st.t [(0,l.v),(3,iv i)]) l.l.length (by omega) ⟨1,[],by omega,by omega,fun i x y h _ _=>by omega,rfl,by simp only [V0,sevalprocAttr,hfr,Int.natCast_one]⟩ ?_
 rintro jj ⟨t,own⟩ K ⟨i,O,hjj,hi,ha,ho,hfr⟩ hn he hr
 dsimp only at ho hfr
 subst ho
 simp only [V3] at hfr
 by_cases h:i<l.l.length
 ·obtain ⟨x,hx⟩:=gx (l:=l.l) (i:=i) h
  have h0:i - 1<l.l.length:=by omega
  obtain ⟨y,hy⟩:=gx (l:=l.l) (i:=i - 1) h0
  have hrx:rdN (l.l.flatMap intc) (i*1) 1=some [.int .i64 x]:=zc zj 0 1 hx (by omega)
  have hry:rdN (l.l.flatMap intc) ((i - 1)*1) 1=some [.int .i64 y]:=zc zj 0 1 hy (by omega)
  have hw:wrapI .i64 ((i:Int)+1)=((i+1:Nat):Int):=we
  have hv:wrapI .i64 ((i:Int) - 1)=((i - 1:Nat):Int):=we
  by_cases hb:x<=y
  ·simp only [V0,sevalprocAttr,hfr,h,za l h,za l h0,hrx,hry,hv,ge_iff_le,hb]
   refine ⟨by simp [comm],?_⟩
   simp only [V0,sevalprocAttr,hfr]
   refine hr _ ?_
   have hf:ascL l.l=false:=by
    rw [← zdy]
    intro hc
    have:=ZT.1 hc (i - 1) y x (by omega) hy (by rw [show i - 1+1=i by omega]; exact hx)
    omega
   simp only [V0,sevalprocAttr,hfr,hf]
  ·simp only [V0,sevalprocAttr,hfr,h,za l h,za l h0,hrx,hry,hv,ge_iff_le,hb]
   refine ⟨by simp [comm],?_⟩
   simp only [V0,sevalprocAttr,hfr,hw]
   refine hn _ (l.l.length - (i+1)) (by omega) ⟨i+1,_,by omega,by omega,?_,rfl,by simp only [V0,sevalprocAttr,hfr,hw]⟩
   intro j u v hj hu hv
   by_cases hj2:j+1<i
   ·exact ha j u v hj2 hu hv
   ·have e:j=i - 1:=by omega
    subst e
    rw [show i - 1+1=i by omega] at hv
    rw [hy] at hu
    rw [hx] at hv
    cases hu
    cases hv
    omega
 ·simp only [V0,sevalprocAttr,hfr,h]
  refine he _ _ ?_
  have hf:ascL l.l=true:=ZT.2 fun j u v hj hu hv=>ha j u v (by omega) hu hv
  simp only [V0,sevalprocAttr,hfr,hf]
theorem at_idxI (hS:NoS S) (l:SlOf 1 intc) {α':Type} (q:Int->Bool) (gf:FuncId) (caps:List IV) (Nc:Nat) (hc:∀ m,Nc<=m->∀ d out ownV own id (x:Int),callN Ftab S m d out ownV own id gf (iv x::caps)=some (.r,.bool (q x),own)) :
  GivesN S (Nc+l.l.length+4) 112 [l.v,.fn gf [] caps] (.int .i64 (fIdx q l.l)):=by
 refine zd (i:=i112) (ns hS (by rfl)) rfl rfl (lb rfl) (Nc+l.l.length+3) (by omega) zw fun m hm d out t hfr=>?_
 simp only [V2,Nat.reduceAdd,i112] at hfr
 simp only [i112,V0,sevalprocAttr,hfr]
 have hlf:=l.few
 refine zb (fun jj st=>∃ (i:Nat) (O:yLO),l.l.length - i<=jj/\i<=l.l.length/\(l.l.take i).findIdx? q=none/\st.own=O/\Slots 19 st.t [(0,l.v),(1,.fn gf [] caps),(7,iv (l.l.length:Nat)),(8,iv i)]) l.l.length (by omega) ⟨0,[],by omega,by omega,by simp,rfl,by simp only [V0,sevalprocAttr,hfr,zcp]⟩ ?_
 rintro jj ⟨t,own⟩ K ⟨i,O,hjj,hi,ha,ho,hfr⟩ hn he hr
 dsimp only at ho hfr
 subst ho
 simp only [V3] at hfr
 by_cases h:i<l.l.length
 ·obtain ⟨x,hx⟩:=gx (l:=l.l) (i:=i) h
  have hrd:rdN (l.l.flatMap intc) (i*1) 1=some [.int .i64 x]:=zc zj 0 1 hx (by omega)
  have hw:wrapI .i64 ((i:Int)+1)=((i+1:Nat):Int):=we
  have cc:=fun d out ownV own id=>hc m (by omega) d out ownV own id x
  simp only [zo,Pt.c] at cc
  cases hq:q x
  ·simp only [V0,sevalprocAttr,hfr,h,za l h,hrd,cc,hq,hw]
   refine hn _ (l.l.length - (i+1)) (by omega) ⟨i+1,_,by omega,by omega,?_,rfl,by simp only [V0,sevalprocAttr,hfr,cc,hq,hw]⟩
   rw [zdv,hx,zd2,List.findIdx?_append,ha]
   simp [List.findIdx?_cons,hq]
  ·simp only [V0,sevalprocAttr,hfr,h,za l h,hrd,cc,hq]
   refine hr _ ?_
   simp only [V0,sevalprocAttr,hfr,fIdx_at hx hq ha]
 ·simp only [V0,sevalprocAttr,hfr,h]
  refine he _ _ ?_
  have hall:fIdx q l.l=-1:=by
   rw [zcm (by omega)] at ha
   simp only [fIdx,ha]
  simp only [V0,sevalprocAttr,hfr,hall]
theorem at_conI (hS:NoS S) (l:SlOf 1 intc) (q:Int->Bool) (gf:FuncId) (caps:List IV) (Nc:Nat) (hc:∀ m,Nc<=m->∀ d out ownV own id (x:Int),callN Ftab S m d out ownV own id gf (iv x::caps)=some (.r,.bool (q x),own)) :
  GivesN S (Nc+l.l.length+6) 76 [l.v,.fn gf [] caps] (.bool (l.l.any q)):=by
 refine zd (i:=i76) (ns hS (by rfl)) rfl rfl (lb rfl) (Nc+l.l.length+5) (by omega) zk fun m hm d out t hfr=>?_
 simp only [V2,Nat.reduceAdd,i76] at hfr
 have cc:=fun d out ownV own id=>at_idxI hS l (α':=Unit) q gf caps Nc hc m (by omega) d out ownV own id
 have hz:decide (0<=fIdx q l.l)=l.l.any q:=zbu
 simp only [i76,V0,sevalprocAttr,hfr,cc,ge_iff_le,hz]
theorem at_idxP (hS:NoS S) (l:SlOf 2 Pt.c) {α':Type} (q:Pt->Bool) (gf:FuncId) (caps:List IV) (Nc:Nat) (hc:∀ m,Nc<=m->∀ d out ownV own id (x:Pt),callN Ftab S m d out ownV own id gf (.agg x.c::caps)=some (.r,.bool (q x),own)) :
  GivesN S (Nc+l.l.length+4) 113 [l.v,.fn gf [] caps] (.int .i64 (fIdx q l.l)):=by
 refine zd (i:=i113) (ns hS (by rfl)) rfl rfl (lb rfl) (Nc+l.l.length+3) (by omega) zw fun m hm d out t hfr=>?_
 simp only [V2,Nat.reduceAdd,i113] at hfr
 simp only [i113,V0,sevalprocAttr,hfr]
 have hlf:=l.few
 refine zb (fun jj st=>∃ (i:Nat) (O:yLO),l.l.length - i<=jj/\i<=l.l.length/\(l.l.take i).findIdx? q=none/\st.own=O/\Slots 19 st.t [(0,l.v),(1,.fn gf [] caps),(7,iv (l.l.length:Nat)),(8,iv i)]) l.l.length (by omega) ⟨0,[],by omega,by omega,by simp,rfl,by simp only [V0,sevalprocAttr,hfr,zcp]⟩ ?_
 rintro jj ⟨t,own⟩ K ⟨i,O,hjj,hi,ha,ho,hfr⟩ hn he hr
 dsimp only at ho hfr
 subst ho
 simp only [V3] at hfr
 by_cases h:i<l.l.length
 ·obtain ⟨x,hx⟩:=gx (l:=l.l) (i:=i) h
  have hrd:rdN (l.l.flatMap Pt.c) (i*2) 2=some [.int .i64 x.x,.int .i64 x.y]:=(zc (sz:=2) (fun _=>rfl) 0 2 hx (by omega)).trans rfl
  have hw:wrapI .i64 ((i:Int)+1)=((i+1:Nat):Int):=we
  have cc:=fun d out ownV own id=>hc m (by omega) d out ownV own id x
  simp only [zo,Pt.c] at cc
  cases hq:q x
  ·simp only [V0,sevalprocAttr,hfr,h,za l h,hrd,cc,hq,hw]
   refine hn _ (l.l.length - (i+1)) (by omega) ⟨i+1,_,by omega,by omega,?_,rfl,by simp only [V0,sevalprocAttr,hfr,cc,hq,hw]⟩
   rw [zdv,hx,zd2,List.findIdx?_append,ha]
   simp [List.findIdx?_cons,hq]
  ·simp only [V0,sevalprocAttr,hfr,h,za l h,hrd,cc,hq]
   refine hr _ ?_
   simp only [V0,sevalprocAttr,hfr,fIdx_at hx hq ha]
 ·simp only [V0,sevalprocAttr,hfr,h]
  refine he _ _ ?_
  have hall:fIdx q l.l=-1:=by
   rw [zcm (by omega)] at ha
   simp only [fIdx,ha]
  simp only [V0,sevalprocAttr,hfr,hall]
theorem at_conP (hS:NoS S) (l:SlOf 2 Pt.c) (q:Pt->Bool) (gf:FuncId) (caps:List IV) (Nc:Nat) (hc:∀ m,Nc<=m->∀ d out ownV own id (x:Pt),callN Ftab S m d out ownV own id gf (.agg x.c::caps)=some (.r,.bool (q x),own)) :
  GivesN S (Nc+l.l.length+6) 83 [l.v,.fn gf [] caps] (.bool (l.l.any q)):=by
 refine zd (i:=i83) (ns hS (by rfl)) rfl rfl (lb rfl) (Nc+l.l.length+5) (by omega) zk fun m hm d out t hfr=>?_
 simp only [V2,Nat.reduceAdd,i83] at hfr
 have cc:=fun d out ownV own id=>at_idxP hS l (α':=Unit) q gf caps Nc hc m (by omega) d out ownV own id
 have hz:decide (0<=fIdx q l.l)=l.l.any q:=zbu
 simp only [i83,V0,sevalprocAttr,hfr,cc,ge_iff_le,hz]
def badId (n:Int):Bool:=decide (n<1)||decide (1073741824<n)
theorem at_num1 (hS:NoS S) (x:Int):GivesN S 2 81 [iv x] (.bool (badId x)):=by
 refine zd (i:=i81) (ns hS (by rfl)) rfl rfl (lb rfl) (1) (by omega) zk fun m hm d out t hfr=>?_
 simp only [V2,Nat.reduceAdd,i81] at hfr
 unfold badId
 cases h1:decide (x<1)
 ·simp only [i81,V0,sevalprocAttr,hfr,gt_iff_lt,h1,zdi]
 ·simp only [i81,V0,sevalprocAttr,hfr,gt_iff_lt,h1,zdm]
theorem at_num (hS:NoS S) (l:SlOf 1 intc):GivesN S (l.l.length+10) 51 [l.v] (.bool (!(l.l.any badId))):=by
 refine zd (i:=i51) (ns hS (by rfl)) rfl rfl (lb rfl) (l.l.length+9) (by omega) zk fun m hm d out t hfr=>?_
 simp only [V2,Nat.reduceAdd,i51] at hfr
 have cc:=fun d out ownV own id=>at_conI hS l badId 81 [] 2 (fun m hm d out ownV own id x=>at_num1 hS x m hm d out ownV own id) m (by omega) d out ownV own id
 simp only [i51,V0,sevalprocAttr,hfr,cc]
def badPt (p:Pt):Bool:=decide (p.x < -1048576)||(decide (1048576<p.x)||(decide (p.y < -1048576)||decide (1048576<p.y)))
theorem zbv (hS:NoS S) (p:Pt):GivesN S 2 82 [.agg p.c] (.bool (badPt p)):=by
 refine zd (i:=i82) (ns hS (by rfl)) rfl rfl (lb rfl) (1) (by omega) zk fun m hm d out t hfr=>?_
 simp only [V2,Nat.reduceAdd,i82,Pt.c] at hfr
 unfold badPt
 cases h1:decide (p.x < -1048576)
 ·cases h2:decide (1048576<p.x)
  ·cases h3:decide (p.y < -1048576)
   ·simp only [i82,V0,sevalprocAttr,hfr,gt_iff_lt,h1,h2,h3,zdi]
   ·simp only [i82,V0,sevalprocAttr,hfr,gt_iff_lt,h1,h2,h3,zdi,zdm]
  ·simp only [i82,V0,sevalprocAttr,hfr,gt_iff_lt,h1,h2,zdi,zdm]
 ·simp only [i82,V0,sevalprocAttr,hfr,gt_iff_lt,h1,zdm]
end
end
section
section
variable {x y z:IObj} {O R:yLO}
theorem z8:(x::(O++y::R))[O.length+1]?=some y:=by simp
theorem yf:(x::(O++y::R)).set (O.length+1) z=x::(O++z::R):=by simp
end
theorem zG {α:Type} {l:List α} {q:α->Bool} {i:Nat} {x:α} (hx:l[i]?=some x) (ha:(l.take i).any q=false) (hq:q x=false):(l.take (i+1)).any q=false:=by
 rw [zdv,hx,zd2,List.any_append,ha]
 simp [hq]
theorem zW {α:Type} {l:List α} {q:α->Bool} {i:Nat} {x:α} (hx:l[i]?=some x) (hq:q x=true):l.any q=true:=List.any_eq_true.2 ⟨x,zdq hx,hq⟩
section
variable {S:ySM}
theorem at_index (hS:NoS S) (l:SlOf 1 intc) (n:Int):GivesN S (l.l.length+4) 55 [l.v,iv n] (.int .i64 (fIdx (fun x=>n==x) l.l)):=by
 refine zd (i:=i55) (ns hS (by rfl)) rfl rfl (lb rfl) (l.l.length+3) (by omega) zw fun m hm d out t hfr=>?_
 simp only [V2,Nat.reduceAdd,i55] at hfr
 simp only [i55,V0,sevalprocAttr,hfr]
 have hlf:=l.few
 refine zb (fun jj st=>∃ (i:Nat) (O:yLO),l.l.length - i<=jj/\i<=l.l.length/\(l.l.take i).findIdx? (fun x=>n==x)=none/\st.own=O/\Slots 19 st.t [(0,l.v),(1,iv n),(7,iv (l.l.length:Nat)),(8,iv i)]) l.l.length (by omega) ⟨0,[],by omega,by omega,by simp,rfl,by simp only [V0,sevalprocAttr,hfr,zcp]⟩ ?_
 rintro jj ⟨t,own⟩ K ⟨i,O,hjj,hi,ha,ho,hfr⟩ hn he hr
 dsimp only at ho hfr
 subst ho
 simp only [V3] at hfr
 by_cases h:i<l.l.length
 ·obtain ⟨x,hx⟩:=gx (l:=l.l) (i:=i) h
  have hrd:rdN (l.l.flatMap intc) (i*1) 1=some [.int .i64 x]:=zc zj 0 1 hx (by omega)
  have hw:wrapI .i64 ((i:Int)+1)=((i+1:Nat):Int):=we
  cases hq:n==x
  ·simp only [V0,sevalprocAttr,hfr,h,za l h,hrd,hq,hw]
   refine hn _ (l.l.length - (i+1)) (by omega) ⟨i+1,_,by omega,by omega,?_,rfl,by simp only [V0,sevalprocAttr,hfr,hq,hw]⟩
   rw [zdv,hx,zd2,List.findIdx?_append,ha]
   simp [List.findIdx?_cons,hq]
  ·simp only [V0,sevalprocAttr,hfr,h,za l h,hrd,hq]
   refine hr _ ?_
   simp only [V0,sevalprocAttr,hfr,fIdx_at (q:=fun x=>n==x) hx hq ha]
 ·simp only [V0,sevalprocAttr,hfr,h]
  refine he _ _ ?_
  have hall:fIdx (fun x=>n==x) l.l=-1:=by
   rw [zcm (by omega)] at ha
   simp only [fIdx,ha]
  simp only [V0,sevalprocAttr,hfr,hall]
theorem zaf (hS:NoS S) (l:SlOf 1 intc) (n:Int):GivesN S (l.l.length+6) 19 [l.v,iv n] (.bool (l.l.any fun x=>n==x)):=by
 refine zd (i:=i19) (ns hS (by rfl)) rfl rfl (lb rfl) (l.l.length+5) (by omega) zk fun m hm d out t hfr=>?_
 simp only [V2,Nat.reduceAdd,i19] at hfr
 have cc:=at_index hS l n m (by omega)
 have hz:decide (0<=fIdx (fun x=>n==x) l.l)=l.l.any fun x=>n==x:=zbu
 simp only [zo] at cc
 simp only [i19,V0,sevalprocAttr,hfr,cc,ge_iff_le,hz]
def placedB (p:Pn):Bool:=!(p.ns.l.any fun n=>badPt n.at')&&!(p.as.l.any fun a=>a.via.l.any badPt)
theorem at_placed (hS:NoS S) (p:Pn) (V:Nat) (hV:∀ a∈p.as.l,a.via.l.length<=V):GivesN S (p.ns.l.length+p.as.l.length+V+20) 52 [.agg p.c] (.bool (placedB p)):=by
 refine zd (i:=i52) (ns hS (by rfl)) rfl rfl (lb rfl) (p.ns.l.length+p.as.l.length+V+19) (by omega) zk fun m hm d out t hfr=>?_
 simp only [V2,Nat.reduceAdd,i52,Pn.c] at hfr
 have hnf:=p.ns.few
 have haf:=p.as.few
 simp only [i52,V0,sevalprocAttr,hfr]
 refine zb (fun jj st=>∃ (i:Nat) (O:yLO),p.ns.l.length - i<=jj/\i<=p.ns.l.length/\(p.ns.l.take i).any (fun n=>badPt n.at')=false/\st.own=.cells [p.ns.v,p.as.v,p.fs.v]::O/\Slots 32 st.t [(1,.ptrM d 0 0),(3,.fn 82 [] []),(9,p.ns.v),(10,iv (p.ns.l.length:Nat)),(11,iv i)]) p.ns.l.length (by omega) ⟨0,[],by omega,by omega,by simp,rfl,by simp only [V0,sevalprocAttr,hfr,zcp]⟩ ?_
 rintro jj ⟨t,own⟩ K ⟨i,O,hjj,hi,ha,ho,hfr⟩ hn he hr
 dsimp only at ho hfr
 subst ho
 simp only [V3] at hfr
 by_cases h:i<p.ns.l.length
 ·obtain ⟨x,hx⟩:=gx (l:=p.ns.l) (i:=i) h
  have hrd:rdN (p.ns.l.flatMap Nd.c) (i*3) 3=some [.int .i64 x.id,.int .i64 x.at'.x,.int .i64 x.at'.y]:=(zc Nd.c_len 0 3 hx (by omega)).trans rfl
  have hw:wrapI .i64 ((i:Int)+1)=((i+1:Nat):Int):=we
  have cc:=fun d out ownV own id=>zbv hS x.at' m (by omega) d out ownV own id
  simp only [zo,Pt.c] at cc
  cases hq:badPt x.at'
  ·simp only [V0,sevalprocAttr,hfr,h,za p.ns h,hrd,cc,hq,hw,z8,yf]
   exact hn _ (p.ns.l.length - (i+1)) (by omega) ⟨i+1,_,by omega,by omega,zG hx ha hq,rfl,by simp only [V0,sevalprocAttr,hfr,cc,hq,hw]⟩
  ·simp only [V0,sevalprocAttr,hfr,h,za p.ns h,hrd,cc,hq,z8,yf]
   refine hr _ ?_
   have hf:placedB p=false:=by
    unfold placedB
    rw [zW (q:=fun n=>badPt n.at') hx hq]
    rfl
   simp only [V0,sevalprocAttr,hfr,hf]
 ·have h1:p.ns.l.any (fun n=>badPt n.at')=false:=by
   rw [← zcm (l:=p.ns.l) (i:=i) (by omega)]
   exact ha
  simp only [V0,sevalprocAttr,hfr,h]
  refine he _ _ ?_
  simp only [V0,sevalprocAttr,hfr]
  refine zb (fun jj st=>∃ (i:Nat) (O:yLO),p.as.l.length - i<=jj/\i<=p.as.l.length/\(p.as.l.take i).any (fun a=>a.via.l.any badPt)=false/\st.own=.cells [p.ns.v,p.as.v,p.fs.v]::O/\Slots 32 st.t [(1,.ptrM d 0 0),(3,.fn 82 [] []),(21,p.as.v),(22,iv (p.as.l.length:Nat)),(23,iv i)]) p.as.l.length (by omega) ⟨0,O,by omega,by omega,by simp,rfl,by simp only [V0,sevalprocAttr,hfr,zcp]⟩ ?_
  clear ha hfr
  rintro jj ⟨t,own⟩ K2 ⟨i,O,hjj,hi,ha,ho,hfr⟩ hn he hr
  dsimp only at ho hfr
  subst ho
  simp only [V3] at hfr
  by_cases h:i<p.as.l.length
  ·have hx:p.as.l[i]?=some p.as.l[i]:=zce h
   have hm0:=hV _ (zdr h)
   generalize p.as.l[i]=x at hx hm0
   have hrd:rdN (p.as.l.flatMap Ac.c) (i*6) 6=some [.int .i64 x.id,.int .i64 x.fr,.int .i64 x.to,x.via.v,.int .i64 x.l,.int .i64 x.r]:=(zc Ac.c_len 0 6 hx (by omega)).trans rfl
   have hw:wrapI .i64 ((i:Int)+1)=((i+1:Nat):Int):=we
   have cc:=fun d out ownV own id=>at_conP hS x.via badPt 82 [] 2 (fun m hm d out ownV own id x=>zbv hS x m hm d out ownV own id) m (by omega) d out ownV own id
   cases hq:x.via.l.any badPt
   ·simp only [V0,sevalprocAttr,hfr,h,za p.as h,hrd,cc,hq,hw,z8,yf]
    exact hn _ (p.as.l.length - (i+1)) (by omega) ⟨i+1,_,by omega,by omega,zG hx ha hq,rfl,by simp only [V0,sevalprocAttr,hfr,cc,hq,hw]⟩
   ·simp only [V0,sevalprocAttr,hfr,h,za p.as h,hrd,cc,hq,z8,yf]
    refine hr _ ?_
    have hf:placedB p=false:=by
     unfold placedB
     rw [zW (q:=fun a=>a.via.l.any badPt) hx hq]
     simp
    simp only [V0,sevalprocAttr,hfr,hf]
  ·have h2:p.as.l.any (fun a=>a.via.l.any badPt)=false:=by
    rw [← zcm (l:=p.as.l) (i:=i) (by omega)]
    exact ha
   simp only [V0,sevalprocAttr,hfr,h]
   refine he _ _ ?_
   have hf:placedB p=true:=by
    unfold placedB
    rw [h1,h2]
    rfl
   simp only [V0,sevalprocAttr,hfr,hf]
end
end
section
section
variable {x y z w:IObj} {O R Q:yLO}
theorem pk_geti:(O++y::(R++z::Q))[O.length+(R.length+1)]?=some z:=by
 rw [zct (by omega),show O.length+(R.length+1) - O.length=R.length+1 by omega,zc1]
 simp
theorem pk_seti:(O++y::(R++z::Q)).set (O.length+(R.length+1)) w=O++y::(R++w::Q):=by
 rw [List.set_append_right _ _ (by omega),show O.length+(R.length+1) - O.length=R.length+1 by omega,List.set_cons_succ]
 simp
theorem pk_get:(x::(O++y::(R++z::Q)))[O.length+(R.length+1)+1]?=some z:=by
 rw [zc1,zct (by omega),show O.length+(R.length+1) - O.length=R.length+1 by omega,zc1]
 simp
theorem pk_set:(x::(O++y::(R++z::Q))).set (O.length+(R.length+1)+1) w=x::(O++y::(R++w::Q)):=by
 rw [List.set_cons_succ,List.set_append_right _ _ (by omega),show O.length+(R.length+1) - O.length=R.length+1 by omega,List.set_cons_succ]
 simp
end
theorem slice_to {sz:Nat} {α:Type} {g:α->List IV} (hg:∀ a,(g a).length=sz) (q:SlOf sz g) {i:Nat} (h:i<q.l.length):∃ q2:SlOf sz g,q2.l=q.l.take i/\∀ (t:List IV) (x:Opd),ρ t x=.int .i64 (i:Int)->sliceI sz t q.v none (some x) none=some q2.v:=by
 have hh:∀ (cs:List IV) (n:Nat) (v:IV),Sl sz cs n v->i<n->∃ tight,∀ (t:List IV) (x:Opd),ρ t x=.int .i64 (i:Int)->sliceI sz t v none (some x) none=some (.slC (cs.take (i*sz)) i sz tight):=fun cs n v hs hi=>by
  cases hs with
  | nil=>omega
  | row cs n tight hl =>
   refine ⟨tight&&i==n,fun t x hx=>?_⟩
   simp only [sliceI,optI,hx,yg,zf,Option.isSome_none,zc2,if_false]
   rw [if_pos ⟨⟨zcs _,by omega,Nat.zero_le _⟩,trivial⟩]
   simp
 obtain ⟨tight,h1⟩:=hh _ _ _ q.ok h
 have ht:(q.l.flatMap g).take (i*sz)=(q.l.take i).flatMap g:=by
  conv=>lhs; rw [← List.take_append_drop i q.l,zed]
  rw [List.take_left' (by rw [zx hg,zd5,Nat.min_eq_left (by omega)])]
 have hli:(q.l.take i).length=i:=by rw [zd5,Nat.min_eq_left (by omega)]
 refine ⟨⟨q.l.take i,.slC ((q.l.take i).flatMap g) i sz tight,by
  rw [hli]
  exact .row _ _ _ (by rw [zx hg,hli]),by have:=q.few; omega⟩,rfl,fun t x hx=>?_⟩
 rw [h1 t x hx,ht]
def hasI (l:List Int) (n:Int):Bool:=l.any fun x=>n==x
def dupPt (l:List Nd):Bool:=l.zipIdx.any fun ni=>(l.take ni.2).any fun m=>ptE ni.1.at' m.at'
def loose (nodes:List Int) (a:Ac):Bool:=!hasI nodes a.fr||!hasI nodes a.to
def offSide (fs:List Int) (f:Int):Bool:=f != 0&&!hasI fs f
def connE (p:Pn) (nodes:List Int):Int:=bif dupPt p.ns.l then 8 else bif p.as.l.any (loose nodes) then 7 else bif p.as.l.any (fun a=>offSide p.fs.l a.l||offSide p.fs.l a.r) then 12 else 0
section
variable {S:ySM}
theorem at_conn (hS:NoS S) (p:Pn) (q:SlOf 1 intc):GivesN S (p.ns.l.length+p.as.l.length+p.fs.l.length+q.l.length+20) 53 [.agg p.c,q.v] (.int .i64 (connE p q.l)):=by
 refine zd (i:=i53) (ns hS (by rfl)) rfl rfl (lb rfl) (p.ns.l.length+p.as.l.length+p.fs.l.length+q.l.length+19) (by omega) zw fun m hm d out t hfr=>?_
 simp only [V2,Nat.reduceAdd,i53,Pn.c] at hfr
 have hnf:=p.ns.few
 have haf:=p.as.few
 simp only [i53,V0,Nat.reduceLT,Nat.reduceAdd,Nat.reduceMul,Nat.reduceLeDiff,Nat.reduceEqDiff,reduceCtorEq,hfr]
 refine zb (fun jj st=>∃ (i:Nat) (O:yLO),p.ns.l.length - i<=jj/\i<=p.ns.l.length/\(p.ns.l.zipIdx.take i).any (fun ni=>(p.ns.l.take ni.2).any fun m=>ptE ni.1.at' m.at')=false/\st.own=.cells [p.ns.v,p.as.v,p.fs.v]::O/\Slots 85 st.t [(1,q.v),(2,.ptrM d 0 0),(16,p.ns.v),(17,iv (p.ns.l.length:Nat)),(18,iv i)]) p.ns.l.length (by omega) ⟨0,[],by omega,by omega,by simp,rfl,by simp only [V0,Nat.reduceLT,Nat.reduceAdd,Nat.reduceMul,Nat.reduceLeDiff,Nat.reduceEqDiff,reduceCtorEq,hfr,zcp]⟩ ?_
 rintro jj ⟨t,own⟩ KA ⟨i,O,hjj,hi,ha,ho,hfr⟩ hnA heA hrA
 dsimp only at ho hfr
 subst ho
 simp only [V3] at hfr
 by_cases h:i<p.ns.l.length
 ·obtain ⟨x,hx⟩:=gx (l:=p.ns.l) (i:=i) h
  have hxz:p.ns.l.zipIdx[i]?=some (x,i):=by rw [List.getElem?_zipIdx,hx]; simp
  have hrd:rdN (p.ns.l.flatMap Nd.c) (i*3) 3=some [.int .i64 x.id,.int .i64 x.at'.x,.int .i64 x.at'.y]:=(zc Nd.c_len 0 3 hx (by omega)).trans rfl
  have hw:wrapI .i64 ((i:Int)+1)=((i+1:Nat):Int):=we
  obtain ⟨q2,hq2,hsl⟩:=slice_to Nd.c_len p.ns h
  have hq2l:q2.l.length=i:=by rw [hq2,zd5,Nat.min_eq_left (by omega)]
  simp only [V0,Nat.reduceLT,Nat.reduceAdd,Nat.reduceMul,Nat.reduceLeDiff,Nat.reduceEqDiff,reduceCtorEq,hfr,h,za p.ns h,hrd,z8,yf,zbh,hsl]
  refine zb (fun jj st=>∃ (k:Nat) (R:yLO),q2.l.length - k<=jj/\k<=q2.l.length/\(q2.l.take k).any (fun m=>ptE x.at' m.at')=false/\st.own=.cells [p.ns.v,p.as.v,p.fs.v]::(O++.cells [.int .i64 x.id,.int .i64 x.at'.x,.int .i64 x.at'.y]::R)/\Slots 85 st.t [(1,q.v),(2,.ptrM d 0 0),(16,p.ns.v),(17,iv (p.ns.l.length:Nat)),(18,iv i),(6,.ptrM d (O.length+1) 0),(26,q2.v),(27,iv (q2.l.length:Nat)),(28,iv k)]) q2.l.length (by omega) ⟨0,_,by omega,by omega,by simp,rfl,by simp only [V0,Nat.reduceLT,Nat.reduceAdd,Nat.reduceMul,Nat.reduceLeDiff,Nat.reduceEqDiff,reduceCtorEq,hfr,zcp,hsl]⟩ ?_
  clear hfr
  rintro jj2 ⟨t,own⟩ KB ⟨k,R,hjk,hk,hb,ho,hfr⟩ hnB heB hrB
  dsimp only at ho hfr
  subst ho
  simp only [V3] at hfr
  by_cases h2:k<q2.l.length
  ·obtain ⟨y,hy⟩:=gx (l:=q2.l) (i:=k) h2
   have hry:rdN (q2.l.flatMap Nd.c) (k*3) 3=some [.int .i64 y.id,.int .i64 y.at'.x,.int .i64 y.at'.y]:=(zc Nd.c_len 0 3 hy (by omega)).trans rfl
   have hwk:wrapI .i64 ((k:Int)+1)=((k+1:Nat):Int):=we
   cases hq:ptE x.at' y.at'
   ·have hq':=hq
    unfold ptE at hq'
    simp only [V0,Nat.reduceLT,Nat.reduceAdd,Nat.reduceMul,Nat.reduceLeDiff,Nat.reduceEqDiff,reduceCtorEq,hfr,h2,za q2 h2,hry,z8,yf,pk_get,pk_set,pk_geti,pk_seti,zI,hq',zcz,hwk]
    exact hnB _ (q2.l.length - (k+1)) (by omega) ⟨k+1,_,by omega,by omega,zG hy hb hq,rfl,by simp only [V0,Nat.reduceLT,Nat.reduceAdd,Nat.reduceMul,Nat.reduceLeDiff,Nat.reduceEqDiff,reduceCtorEq,hfr,hwk,hq',z8,pk_get,pk_geti,zI]⟩
   ·have hq':=hq
    unfold ptE at hq'
    simp only [V0,Nat.reduceLT,Nat.reduceAdd,Nat.reduceMul,Nat.reduceLeDiff,Nat.reduceEqDiff,reduceCtorEq,hfr,h2,za q2 h2,hry,z8,yf,pk_get,pk_set,pk_geti,pk_seti,zI,hq',zcz]
    refine hrB _ ?_
    simp only [V0,Nat.reduceLT,Nat.reduceAdd,Nat.reduceMul,Nat.reduceLeDiff,Nat.reduceEqDiff,reduceCtorEq,hfr]
    refine hrA _ ?_
    have hf:dupPt p.ns.l=true:=by
     refine zW hxz ?_
     show (p.ns.l.take i).any (fun m=>ptE x.at' m.at')=true
     rw [← hq2]
     exact zW (q:=fun m=>ptE x.at' m.at') hy hq
    simp only [V0,Nat.reduceLT,Nat.reduceAdd,Nat.reduceMul,Nat.reduceLeDiff,Nat.reduceEqDiff,reduceCtorEq,hfr,connE,hf,cond_true]
  ·simp only [V0,Nat.reduceLT,Nat.reduceAdd,Nat.reduceMul,Nat.reduceLeDiff,Nat.reduceEqDiff,reduceCtorEq,hfr,h2]
   refine heB _ _ ?_
   simp only [V0,Nat.reduceLT,Nat.reduceAdd,Nat.reduceMul,Nat.reduceLeDiff,Nat.reduceEqDiff,reduceCtorEq,hfr,hw]
   have hq0:(p.ns.l.take i).any (fun m=>ptE x.at' m.at')=false:=by
    rw [← hq2,← zcm (l:=q2.l) (i:=k) (by omega)]
    exact hb
   exact hnA _ (p.ns.l.length - (i+1)) (by omega) ⟨i+1,_,by omega,by omega,zG hxz ha hq0,rfl,by simp only [V0,Nat.reduceLT,Nat.reduceAdd,Nat.reduceMul,Nat.reduceLeDiff,Nat.reduceEqDiff,reduceCtorEq,hfr,hw]⟩
 ·have hdup:dupPt p.ns.l=false:=by
   unfold dupPt
   rw [← zcm (l:=p.ns.l.zipIdx) (i:=i) (by rw [List.length_zipIdx]; omega)]
   exact ha
  simp only [V0,Nat.reduceLT,Nat.reduceAdd,Nat.reduceMul,Nat.reduceLeDiff,Nat.reduceEqDiff,reduceCtorEq,hfr,h]
  refine heA _ _ ?_
  simp only [V0,Nat.reduceLT,Nat.reduceAdd,Nat.reduceMul,Nat.reduceLeDiff,Nat.reduceEqDiff,reduceCtorEq,hfr]
  refine zb (fun jj st=>∃ (i:Nat) (O:yLO),p.as.l.length - i<=jj/\i<=p.as.l.length/\(p.as.l.take i).any (loose q.l)=false/\st.own=.cells [p.ns.v,p.as.v,p.fs.v]::O/\Slots 85 st.t [(1,q.v),(2,.ptrM d 0 0),(40,p.as.v),(41,iv (p.as.l.length:Nat)),(42,iv i)]) p.as.l.length (by omega) ⟨0,O,by omega,by omega,by simp,rfl,by simp only [V0,Nat.reduceLT,Nat.reduceAdd,Nat.reduceMul,Nat.reduceLeDiff,Nat.reduceEqDiff,reduceCtorEq,hfr,zcp]⟩ ?_
  clear hfr ha hnA heA hrA
  rintro jj ⟨t,own⟩ KA ⟨i,O,hjj,hi,ha,ho,hfr⟩ hnA heA hrA
  dsimp only at ho hfr
  subst ho
  simp only [V3] at hfr
  by_cases h:i<p.as.l.length
  ·obtain ⟨x,hx⟩:=gx (l:=p.as.l) (i:=i) h
   have hrd:rdN (p.as.l.flatMap Ac.c) (i*6) 6=some [.int .i64 x.id,.int .i64 x.fr,.int .i64 x.to,x.via.v,.int .i64 x.l,.int .i64 x.r]:=(zc Ac.c_len 0 6 hx (by omega)).trans rfl
   have hw:wrapI .i64 ((i:Int)+1)=((i+1:Nat):Int):=we
   have c1:∀ n dd oo ownV own id,callN Ftab S m dd oo ownV own id 19 [q.v,.int .i64 n]=some (.r,.bool (hasI q.l n),own):=fun n dd oo ownV own id=>zaf hS q n m (by omega) dd oo ownV own id
   cases h1:hasI q.l x.fr
   ·simp only [V0,Nat.reduceLT,Nat.reduceAdd,Nat.reduceMul,Nat.reduceLeDiff,Nat.reduceEqDiff,reduceCtorEq,hfr,h,za p.as h,hrd,z8,yf,c1,h1]
    refine hrA _ ?_
    have hf:p.as.l.any (loose q.l)=true:=zW hx (by simp [loose,h1])
    simp only [V0,Nat.reduceLT,Nat.reduceAdd,Nat.reduceMul,Nat.reduceLeDiff,Nat.reduceEqDiff,reduceCtorEq,hfr,connE,hdup,hf,cond_true,cond_false]
   ·cases h2:hasI q.l x.to
    ·simp only [V0,Nat.reduceLT,Nat.reduceAdd,Nat.reduceMul,Nat.reduceLeDiff,Nat.reduceEqDiff,reduceCtorEq,hfr,h,za p.as h,hrd,z8,yf,c1,h1,h2]
     refine hrA _ ?_
     have hf:p.as.l.any (loose q.l)=true:=zW hx (by simp [loose,h2])
     simp only [V0,Nat.reduceLT,Nat.reduceAdd,Nat.reduceMul,Nat.reduceLeDiff,Nat.reduceEqDiff,reduceCtorEq,hfr,connE,hdup,hf,cond_true,cond_false]
    ·simp only [V0,Nat.reduceLT,Nat.reduceAdd,Nat.reduceMul,Nat.reduceLeDiff,Nat.reduceEqDiff,reduceCtorEq,hfr,h,za p.as h,hrd,z8,yf,c1,h1,h2,hw]
     exact hnA _ (p.as.l.length - (i+1)) (by omega) ⟨i+1,_,by omega,by omega,zG hx ha (by simp [loose,h1,h2]),rfl,by simp only [V0,Nat.reduceLT,Nat.reduceAdd,Nat.reduceMul,Nat.reduceLeDiff,Nat.reduceEqDiff,reduceCtorEq,hfr,hw,c1,h1,h2]⟩
  ·have hlo:p.as.l.any (loose q.l)=false:=by
    rw [← zcm (l:=p.as.l) (i:=i) (by omega)]
    exact ha
   simp only [V0,Nat.reduceLT,Nat.reduceAdd,Nat.reduceMul,Nat.reduceLeDiff,Nat.reduceEqDiff,reduceCtorEq,hfr,h]
   refine heA _ _ ?_
   simp only [V0,Nat.reduceLT,Nat.reduceAdd,Nat.reduceMul,Nat.reduceLeDiff,Nat.reduceEqDiff,reduceCtorEq,hfr]
   refine zb (fun jj st=>∃ (i:Nat) (O:yLO),p.as.l.length - i<=jj/\i<=p.as.l.length/\(p.as.l.take i).any (fun a=>offSide p.fs.l a.l||offSide p.fs.l a.r)=false/\st.own=.cells [p.ns.v,p.as.v,p.fs.v]::O/\Slots 85 st.t [(2,.ptrM d 0 0),(60,p.as.v),(61,iv (p.as.l.length:Nat)),(62,iv i)]) p.as.l.length (by omega) ⟨0,O,by omega,by omega,by simp,rfl,by simp only [V0,Nat.reduceLT,Nat.reduceAdd,Nat.reduceMul,Nat.reduceLeDiff,Nat.reduceEqDiff,reduceCtorEq,hfr,zcp]⟩ ?_
   clear hfr ha hnA heA hrA
   rintro jj ⟨t,own⟩ KA ⟨i,O,hjj,hi,ha,ho,hfr⟩ hnA heA hrA
   dsimp only at ho hfr
   subst ho
   simp only [V3] at hfr
   by_cases h:i<p.as.l.length
   ·obtain ⟨x,hx⟩:=gx (l:=p.as.l) (i:=i) h
    have hrd:rdN (p.as.l.flatMap Ac.c) (i*6) 6=some [.int .i64 x.id,.int .i64 x.fr,.int .i64 x.to,x.via.v,.int .i64 x.l,.int .i64 x.r]:=(zc Ac.c_len 0 6 hx (by omega)).trans rfl
    have hw:wrapI .i64 ((i:Int)+1)=((i+1:Nat):Int):=we
    have c1:∀ n dd oo ownV own id,callN Ftab S m dd oo ownV own id 19 [p.fs.v,.int .i64 n]=some (.r,.bool (hasI p.fs.l n),own):=fun n dd oo ownV own id=>zaf hS p.fs n m (by omega) dd oo ownV own id
    have hz2:rep [IV.int .i64 0] 2=[.int .i64 0,.int .i64 0]:=zcw rfl rfl
    simp only [V0,Nat.reduceLT,Nat.reduceAdd,Nat.reduceMul,Nat.reduceLeDiff,Nat.reduceEqDiff,reduceCtorEq,hfr,h,za p.as h,hrd,z8,yf]
    refine zb (fun jj st=>∃ (k:Nat) (O:yLO),2 - k<=jj/\k<=2/\(1<=k->offSide p.fs.l x.l=false)/\(2<=k->offSide p.fs.l x.r=false)/\st.own=.cells [p.ns.v,p.as.v,p.fs.v]::O/\Slots 85 st.t [(2,.ptrM d 0 0),(60,p.as.v),(61,iv (p.as.l.length:Nat)),(62,iv i),(70,.agg [.int .i64 x.l,.int .i64 x.r]),(71,iv k)]) 2 (by omega) ⟨0,_,by omega,by omega,by omega,by omega,rfl,by simp only [V0,Nat.reduceLT,Nat.reduceAdd,Nat.reduceMul,Nat.reduceLeDiff,Nat.reduceEqDiff,reduceCtorEq,hfr,zcp]⟩ ?_
    clear hfr
    rintro jj2 ⟨t,own⟩ KB ⟨k,R,hjk,hk,hk1,hk2,ho,hfr⟩ hnB heB hrB
    dsimp only at ho hfr
    subst ho
    simp only [V3] at hfr
    have bad:∀ f:Int,f=x.l∨f=x.r->offSide p.fs.l f=true->p.as.l.any (fun a=>offSide p.fs.l a.l||offSide p.fs.l a.r)=true:=fun f hf h=>zW (q:=fun a=>offSide p.fs.l a.l||offSide p.fs.l a.r) hx (by
     rcases hf with rfl | rfl <;> simp [h])
    have hbne:∀ z:Int,(z != 0)=!(z==0):=fun z=>rfl
    have hcase:k=0∨k=1∨k=2:=by omega
    rcases hcase with rfl | rfl | rfl
    ·have hlt:(((0:Nat):Int)<2)=True:=eq_true (by decide)
     have hw0:wrapI .i64 (((0:Nat):Int)+1)=((1:Nat):Int):=rfl
     have hn0:natI (.int .i64 ((0:Nat):Int))=some 0:=yg
     have h02:(0<2)=True:=eq_true (by decide)
     cases h1:x.l==0
     ·cases h2:hasI p.fs.l x.l
      ·simp only [V0,Nat.reduceLT,Nat.reduceAdd,Nat.reduceMul,Nat.reduceLeDiff,Nat.reduceEqDiff,reduceCtorEq,hfr,hlt,zF,e_index,hn0,h02,zdl,hbne,h1,c1,h2]
       refine hrB _ ?_
       simp only [V0,Nat.reduceLT,Nat.reduceAdd,Nat.reduceMul,Nat.reduceLeDiff,Nat.reduceEqDiff,reduceCtorEq,hfr]
       refine hrA _ ?_
       simp only [V0,Nat.reduceLT,Nat.reduceAdd,Nat.reduceMul,Nat.reduceLeDiff,Nat.reduceEqDiff,reduceCtorEq,hfr,connE,hdup,hlo,bad x.l (.inl rfl) (by simp [offSide,hbne,h1,h2]),cond_true,cond_false]
      ·simp only [V0,Nat.reduceLT,Nat.reduceAdd,Nat.reduceMul,Nat.reduceLeDiff,Nat.reduceEqDiff,reduceCtorEq,hfr,hlt,zF,e_index,hn0,h02,zdl,hbne,h1,c1,h2,hw0]
       exact hnB _ 1 (by omega) ⟨1,_,by omega,by omega,fun _=>by simp [offSide,h2],by omega,rfl,by simp only [V0,Nat.reduceLT,Nat.reduceAdd,Nat.reduceMul,Nat.reduceLeDiff,Nat.reduceEqDiff,reduceCtorEq,hfr,hlt,hbne,h1,h2,c1,hw0]⟩
     ·simp only [V0,Nat.reduceLT,Nat.reduceAdd,Nat.reduceMul,Nat.reduceLeDiff,Nat.reduceEqDiff,reduceCtorEq,hfr,hlt,zF,e_index,hn0,h02,zdl,hbne,h1,c1,hw0]
      exact hnB _ 1 (by omega) ⟨1,_,by omega,by omega,fun _=>by simp [offSide,hbne,h1],by omega,rfl,by simp only [V0,Nat.reduceLT,Nat.reduceAdd,Nat.reduceMul,Nat.reduceLeDiff,Nat.reduceEqDiff,reduceCtorEq,hfr,hlt,hbne,h1,c1,hw0]⟩
    ·have hlt:(((1:Nat):Int)<2)=True:=eq_true (by decide)
     have hw0:wrapI .i64 (((1:Nat):Int)+1)=((2:Nat):Int):=rfl
     have hn0:natI (.int .i64 ((1:Nat):Int))=some 1:=yg
     have h02:(1<2)=True:=eq_true (by decide)
     cases h1:x.r==0
     ·cases h2:hasI p.fs.l x.r
      ·simp only [V0,Nat.reduceLT,Nat.reduceAdd,Nat.reduceMul,Nat.reduceLeDiff,Nat.reduceEqDiff,reduceCtorEq,hfr,hlt,zF,e_index,hn0,h02,zd4,hbne,h1,c1,h2]
       refine hrB _ ?_
       simp only [V0,Nat.reduceLT,Nat.reduceAdd,Nat.reduceMul,Nat.reduceLeDiff,Nat.reduceEqDiff,reduceCtorEq,hfr]
       refine hrA _ ?_
       simp only [V0,Nat.reduceLT,Nat.reduceAdd,Nat.reduceMul,Nat.reduceLeDiff,Nat.reduceEqDiff,reduceCtorEq,hfr,connE,hdup,hlo,bad x.r (.inr rfl) (by simp [offSide,hbne,h1,h2]),cond_true,cond_false]
      ·simp only [V0,Nat.reduceLT,Nat.reduceAdd,Nat.reduceMul,Nat.reduceLeDiff,Nat.reduceEqDiff,reduceCtorEq,hfr,hlt,zF,e_index,hn0,h02,zd4,hbne,h1,c1,h2,hw0]
       exact hnB _ 0 (by omega) ⟨2,_,by omega,by omega,fun _=>hk1 (by omega),fun _=>by simp [offSide,h2],rfl,by simp only [V0,Nat.reduceLT,Nat.reduceAdd,Nat.reduceMul,Nat.reduceLeDiff,Nat.reduceEqDiff,reduceCtorEq,hfr,hlt,hbne,h1,h2,c1,hw0]⟩
     ·simp only [V0,Nat.reduceLT,Nat.reduceAdd,Nat.reduceMul,Nat.reduceLeDiff,Nat.reduceEqDiff,reduceCtorEq,hfr,hlt,zF,e_index,hn0,h02,zd4,hbne,h1,c1,hw0]
      exact hnB _ 0 (by omega) ⟨2,_,by omega,by omega,fun _=>hk1 (by omega),fun _=>by simp [offSide,hbne,h1],rfl,by simp only [V0,Nat.reduceLT,Nat.reduceAdd,Nat.reduceMul,Nat.reduceLeDiff,Nat.reduceEqDiff,reduceCtorEq,hfr,hlt,hbne,h1,c1,hw0]⟩
    ·have hlt:(((2:Nat):Int)<2)=False:=eq_false (by decide)
     simp only [V0,Nat.reduceLT,Nat.reduceAdd,Nat.reduceMul,Nat.reduceLeDiff,Nat.reduceEqDiff,reduceCtorEq,hfr,hlt]
     refine heB _ _ ?_
     simp only [V0,Nat.reduceLT,Nat.reduceAdd,Nat.reduceMul,Nat.reduceLeDiff,Nat.reduceEqDiff,reduceCtorEq,hfr,hw]
     exact hnA _ (p.as.l.length - (i+1)) (by omega) ⟨i+1,_,by omega,by omega,zG hx ha (by simp [hk1 (by omega),hk2 (by omega)]),rfl,by simp only [V0,Nat.reduceLT,Nat.reduceAdd,Nat.reduceMul,Nat.reduceLeDiff,Nat.reduceEqDiff,reduceCtorEq,hfr,hw]⟩
   ·have hof:p.as.l.any (fun a=>offSide p.fs.l a.l||offSide p.fs.l a.r)=false:=by
     rw [← zcm (l:=p.as.l) (i:=i) (by omega)]
     exact ha
    simp only [V0,Nat.reduceLT,Nat.reduceAdd,Nat.reduceMul,Nat.reduceLeDiff,Nat.reduceEqDiff,reduceCtorEq,hfr,h]
    refine heA _ _ ?_
    simp only [V0,Nat.reduceLT,Nat.reduceAdd,Nat.reduceMul,Nat.reduceLeDiff,Nat.reduceEqDiff,reduceCtorEq,hfr,connE,hdup,hlo,hof,cond_false]
end
end
section
theorem YI {S:ySM} {f:FuncId} {i:IFn} {args:List IV} {w:IV} (hS:S f args=none) (hi:Ftab f=some i) (hm:i.mode=0) (hl:args.length<=i.ntmps) (N:Nat)
  (h:∀ m,N<=m->∀ d out t,Slots i.ntmps t (slotsOf 0 args)->Ex (callN Ftab S m) d out m i.body (FinF d out i.res m w) ⟨t,[]⟩):∀ m,N+1<=m->∀ d out ownV own id,callN Ftab S m d out ownV own id f args=some (.r,w,own):=by
 intro m hm1 d out ownV own id
 obtain ⟨m,rfl⟩:∃ q,m=q+1:=⟨m - 1,by omega⟩
 obtain ⟨o,st,h1,h2,v,h3,h4⟩:=h m (by omega) (d+1) (fun l=>if l=d then ownV else out l) (args++List.replicate (i.ntmps - args.length) (.tuple [])) ⟨by simp; omega,fun p hp=>by
  obtain ⟨j,h1,h2⟩:=yn hp
  rw [zL,zc0,h1,zde,zco (zcf.1 h2).1,h2]
  rfl⟩
 have hm0:¬ (0=2):=by decide
 have hm00:¬ (0=3):=by decide
 simp only [callN,hS,hi,hm,hm0,hm00,if_false,zf,h1]
 rcases h2 with rfl | rfl <;> simp [ended,h3,leave,h4]
section
variable {x y z w:IObj} {O R Q J:yLO}
theorem pq_get:(O++(J++x::R))[O.length+J.length]?=some x:=by
 rw [zct (by omega),zds]
 simp
theorem pq_set:(O++(J++x::R)).set (O.length+J.length) w=O++(J++w::R):=by
 rw [List.set_append_right _ _ (by omega),zds]
 simp
end
theorem fz_tuple2 {n d:Nat} {own:yLO} {a b a' b':IV} (h1:freeze n d own a=some a') (h2:freeze n d own b=some b'):freeze (n+1) d own (.tuple [a,b])=some (.tuple [a',b']):=by
 simp [freeze,h1,h2]
theorem map_take {α β:Type} {f:α->β} {l:List α} {i:Nat} {x:α} (hx:l[i]?=some x):(l.take (i+1)).map f=(l.take i).map f++[f x]:=by
 rw [zdv,hx]
 simp
section
variable {S:ySM}
theorem ZU {α:Type} {l:List α} {f:α->Int} (h:l.length<=1000000):(l.map f).length<9223372036854775808:=by rw [zd1]; omega
theorem at_ident (hS:NoS S) (p:Pn) (h1:p.ns.l.length<=1000000) (h2:p.as.l.length<=1000000):GivesN S (p.ns.l.length+p.as.l.length+10) 49 [.agg p.c] (.tuple [(rowQ zj (p.ns.l.map Nd.id) (ZU h1)).v,(rowQ zj (p.as.l.map Ac.id) (ZU h2)).v]):=by
 refine YI (i:=i49) (ns hS (by rfl)) rfl rfl (lb rfl) (p.ns.l.length+p.as.l.length+9) fun m hm d out t hfr=>?_
 simp only [V2,Nat.reduceAdd,i49,Pn.c] at hfr
 simp only [i49,V0,sevalprocAttr,hfr]
 refine zb (fun jj st=>∃ (i:Nat) (J:yLO) (lv:IV),p.ns.l.length - i<=jj/\i<=p.ns.l.length/\OwnJ intc 1 d 1 J lv ((p.ns.l.take i).map Nd.id)/\st.own=.cells [p.ns.v,p.as.v,p.fs.v]::J/\Slots 36 st.t [(1,.ptrM d 0 0),(2,lv),(3,.nilsl),(9,p.ns.v),(10,iv (p.ns.l.length:Nat)),(11,iv i)]) p.ns.l.length (by omega) ⟨0,[],.nilsl,by omega,by omega,.inl ⟨by simp,rfl⟩,rfl,by simp only [V0,sevalprocAttr,hfr,zcp]⟩ ?_
 clear hfr
 rintro jj ⟨t,own⟩ KA ⟨i,J,lv,hjj,hi,hO,ho,hfr⟩ hnA heA hrA
 dsimp only at ho hfr
 subst ho
 simp only [V3] at hfr
 by_cases h:i<p.ns.l.length
 ·obtain ⟨x,hx⟩:=gx (l:=p.ns.l) (i:=i) h
  have hrd:rdN (p.ns.l.flatMap Nd.c) (i*3) 3=some [.int .i64 x.id,.int .i64 x.at'.x,.int .i64 x.at'.y]:=(zc Nd.c_len 0 3 hx (by omega)).trans rfl
  have hw:wrapI .i64 ((i:Int)+1)=((i+1:Nat):Int):=we
  have hlt:((p.ns.l.take i).map Nd.id).length=i:=by rw [zd1,zd5,Nat.min_eq_left (by omega)]
  obtain ⟨e,lv',J2,happ,hO2⟩:=Zq (Pre:=[.cells [p.ns.v,p.as.v,p.fs.v]]) (n0:=J.length+1+1) (slot:=0) (k:=1) (out:=out) (R:=[.cells [.int .i64 x.id,.int .i64 x.at'.x,.int .i64 x.at'.y],.free]) zj hO (ys:=[x.id]) (by simp) (by simp only [hlt,zcr,zc7]; omega) (by simp only [zcr,zc7]; omega) rfl rfl
  simp only [zc5,zdh,zdc,zec,intc,zo,zcr,zc7,zd0,zde] at happ
  rw [← map_take (f:=Nd.id) hx] at hO2
  simp only [V0,sevalprocAttr,hfr,h,za p.ns h,hrd,z8,yf,rep,zp,zB,zJ,Z2,happ,hw]
  exact hnA _ (p.ns.l.length - (i+1)) (by omega) ⟨i+1,J2,lv',by omega,by omega,hO2,rfl,by simp only [V0,sevalprocAttr,hfr,hw]⟩
 ·simp only [V0,sevalprocAttr,hfr,h]
  refine heA _ _ ?_
  simp only [V0,sevalprocAttr,hfr]
  have hO1:OwnJ intc 1 d 1 J lv (p.ns.l.map Nd.id):=by
   rw [zcm (by omega)] at hO
   exact hO
  clear hO
  refine zb (fun jj st=>∃ (i:Nat) (J2:yLO) (lw:IV),p.as.l.length - i<=jj/\i<=p.as.l.length/\OwnJ intc 1 d (J.length+1) J2 lw ((p.as.l.take i).map Ac.id)/\st.own=.cells [p.ns.v,p.as.v,p.fs.v]::(J++J2)/\Slots 36 st.t [(2,lv),(3,lw),(22,p.as.v),(23,iv (p.as.l.length:Nat)),(24,iv i)]) p.as.l.length (by omega) ⟨0,[],.nilsl,by omega,by omega,.inl ⟨by simp,rfl⟩,by simp,by simp only [V0,sevalprocAttr,hfr,zcp]⟩ ?_
  clear hfr hnA heA hrA
  rintro jj ⟨t,own⟩ KA ⟨i,J2,lw,hjj,hi,hO,ho,hfr⟩ hnA heA hrA
  dsimp only at ho hfr
  subst ho
  simp only [V3] at hfr
  by_cases h:i<p.as.l.length
  ·obtain ⟨x,hx⟩:=gx (l:=p.as.l) (i:=i) h
   have hrd:rdN (p.as.l.flatMap Ac.c) (i*6) 6=some [.int .i64 x.id,.int .i64 x.fr,.int .i64 x.to,x.via.v,.int .i64 x.l,.int .i64 x.r]:=(zc Ac.c_len 0 6 hx (by omega)).trans rfl
   have hw:wrapI .i64 ((i:Int)+1)=((i+1:Nat):Int):=we
   have hlt:((p.as.l.take i).map Ac.id).length=i:=by rw [zd1,zd5,Nat.min_eq_left (by omega)]
   obtain ⟨e,lv',J3,happ,hO2⟩:=Zq (Pre:=.cells [p.ns.v,p.as.v,p.fs.v]::J) (n0:=J.length+(J2.length+1)+1) (slot:=0) (k:=1) (out:=out) (R:=[.cells [.int .i64 x.id,.int .i64 x.fr,.int .i64 x.to,x.via.v,.int .i64 x.l,.int .i64 x.r],.free]) zj hO (ys:=[x.id]) (by simp) (by simp only [hlt,zcr,zc7]; omega) (by simp only [zcr,zc7]; omega) rfl rfl
   simp only [zc5,zdh,zdc,zec,intc,zo,zcr,zc7,zd0,zde] at happ
   rw [← map_take (f:=Ac.id) hx] at hO2
   simp only [V0,sevalprocAttr,hfr,h,za p.as h,hrd,pq_get,pq_set,rep,zp,zB,zJ,Z2,happ,hw]
   exact hnA _ (p.as.l.length - (i+1)) (by omega) ⟨i+1,J3,lv',by omega,by omega,hO2,rfl,by simp only [V0,sevalprocAttr,hfr,hw]⟩
  ·simp only [V0,sevalprocAttr,hfr,h]
   refine heA _ _ ?_
   have hO2:OwnJ intc 1 d (J.length+1) J2 lw (p.as.l.map Ac.id):=by
    rw [zcm (by omega)] at hO
    exact hO
   obtain ⟨m,rfl⟩:∃ q,m=q+1:=⟨m - 1,by omega⟩
   have f1:=ownJ_fz (Pre:=[.cells [p.ns.v,p.as.v,p.fs.v]]) (m:=m) zj (fun a x hx=>by
    simp only [intc,zdn,zdx,or_false] at hx
    subst hx
    exact zw) (by omega) (ZU h1) (hO1.more J2)
   have f2:=ownJ_fz (Pre:=.cells [p.ns.v,p.as.v,p.fs.v]::J) (m:=m) zj (fun a x hx=>by
    simp only [intc,zdn,zdx,or_false] at hx
    subst hx
    exact zw) (by omega) (ZU h2) hO2
   simp only [zc5,zdh] at f1 f2
   simp only [V0,sevalprocAttr,hfr,Zp]
   exact ⟨_,rfl,fz_tuple2 f1 f2⟩
end
end
section
def lineC (a:Ac) (path:SlOf 2 Pt.c):List IV:=[.int .i64 a.id,.int .i64 a.fr,.int .i64 a.to,a.via.v,.int .i64 a.l,.int .i64 a.r,path.v]
structure Sg where
 a:Ac
 path:SlOf 2 Pt.c
 k:Nat
 hk:k+1<path.l.length
def Sg.g (s:Sg):List IV:=[.ptrC (lineC s.a s.path) 0,.int .i64 (s.k:Int)]
def Sg.e (s:Sg):IV:=.agg s.g
def Sg.p0 (s:Sg):Pt:=s.path.l[s.k]'(by have:=s.hk; omega)
def Sg.p1 (s:Sg):Pt:=s.path.l[s.k+1]'s.hk
def Sg.w (s:Sg):Int:=mnI s.p0.x s.p1.x
def Sg.ea (s:Sg):Int:=mxI s.p0.x s.p1.x
def cmpI (x y:Int):Int:=if x<y then -1 else if y<x then 1 else 0
theorem sg_elt:Elt Sg.g Sg.e 2 true:=⟨fun _=>rfl,fun _=>rfl,fun _=>rfl,fun _=>rfl⟩
theorem sg_r0 (s:Sg):rdN (s.path.l.flatMap Pt.c) (s.k*2) 2=some [.int .i64 s.p0.x,.int .i64 s.p0.y]:=(zc (sz:=2) (fun _=>rfl) 0 2 (zce (by have:=s.hk; omega)) (by omega)).trans rfl
theorem sg_r1 (s:Sg):rdN (s.path.l.flatMap Pt.c) ((s.k+1)*2) 2=some [.int .i64 s.p1.x,.int .i64 s.p1.y]:=(zc (sz:=2) (fun _=>rfl) 0 2 (zce s.hk) (by omega)).trans rfl
section
variable {S:ySM}
theorem YJ (hS:NoS S) (s:Sg):GivesN S 4 91 [.agg s.g] (.tuple [.agg s.p0.c,.agg s.p1.c]):=by
 refine YI (i:=i91) (ns hS (by rfl)) rfl rfl (lb rfl) (3) fun m hm d out t hfr=>?_
 simp only [V2,Nat.reduceAdd,i91,Sg.g,lineC] at hfr
 have hk:=s.hk
 have h0:s.k<s.path.l.length:=by omega
 have hf:=s.path.few
 have hw:wrapI .i64 ((s.k:Int)+1)=((s.k+1:Nat):Int):=we
 have r0:=sg_r0 s
 have r1:=sg_r1 s
 simp only [i91,V0,sevalprocAttr,hfr,za s.path h0,za s.path hk,r0,r1,hw]
 refine ⟨by simp [comm],?_⟩
 obtain ⟨m,rfl⟩:∃ q,m=q+3:=⟨m - 3,by omega⟩
 simp only [V0,sevalprocAttr,hfr,Zp,Pt.c]
 exact ⟨_,rfl,by simp [freeze]⟩
theorem at_first (hS:NoS S) (s:Sg):GivesN S 2 93 [.agg s.g] (.bool ((s.k:Int)==0)):=by
 refine zd (i:=i93) (ns hS (by rfl)) rfl rfl (lb rfl) (1) (by omega) zk fun m hm d out t hfr=>?_
 simp only [V2,Nat.reduceAdd,i93,Sg.g,lineC] at hfr
 simp only [i93,V0,sevalprocAttr,hfr]
theorem at_last (hS:NoS S) (s:Sg):GivesN S 2 94 [.agg s.g] (.bool ((s.k:Int)==((s.path.l.length - 2:Nat):Int))):=by
 refine zd (i:=i94) (ns hS (by rfl)) rfl rfl (lb rfl) (1) (by omega) zk fun m hm d out t hfr=>?_
 simp only [V2,Nat.reduceAdd,i94,Sg.g,lineC] at hfr
 have hk:=s.hk
 have hf:=s.path.few
 have hw:wrapI .i64 ((s.path.l.length:Int) - 2)=((s.path.l.length - 2:Nat):Int):=we
 simp only [i94,V0,sevalprocAttr,hfr,hw]
 refine ⟨by simp [comm],?_⟩
 simp only [V0,sevalprocAttr,hfr]
theorem at_west (hS:NoS S) (s:Sg):GivesN S 6 88 [.agg s.g] (.int .i64 s.w):=by
 refine zd (i:=i88) (ns hS (by rfl)) rfl rfl (lb rfl) (5) (by omega) zw fun m hm d out t hfr=>?_
 simp only [V2,Nat.reduceAdd,i88,Sg.g,lineC] at hfr
 have c0:=YJ hS s m (by omega)
 simp only [Sg.g,lineC,Pt.c,zo] at c0
 have hmn:∀ a b:Int,(if b<a then b else a)=mnI a b:=fun _ _=>rfl
 simp only [i88,V0,sevalprocAttr,hfr,c0,hmn,Sg.w]
theorem at_east (hS:NoS S) (s:Sg):GivesN S 6 89 [.agg s.g] (.int .i64 s.ea):=by
 refine zd (i:=i89) (ns hS (by rfl)) rfl rfl (lb rfl) (5) (by omega) zw fun m hm d out t hfr=>?_
 simp only [V2,Nat.reduceAdd,i89,Sg.g,lineC] at hfr
 have c0:=YJ hS s m (by omega)
 simp only [Sg.g,lineC,Pt.c,zo] at c0
 have hmx:∀ a b:Int,(if a<b then b else a)=mxI a b:=fun _ _=>rfl
 simp only [i89,V0,sevalprocAttr,hfr,c0,gt_iff_lt,hmx,Sg.ea]
theorem at_cmp (hS:NoS S) (x y:Int):GivesN S 4 87 [iv x,iv y] (.int .i64 (cmpI x y)):=by
 refine zd (i:=i87) (ns hS (by rfl)) rfl rfl (lb rfl) (3) (by omega) zw fun m hm d out t hfr=>?_
 simp only [V2,Nat.reduceAdd,i87] at hfr
 have c0:=fun x d out ownV own i=>gives_nan hS x m (by omega) d out ownV own i
 unfold cmpI
 by_cases h:x<y
 ·rw [if_pos h]
  simp only [i87,V0,sevalprocAttr,hfr,c0,h]
 ·rw [if_neg h]
  by_cases h2:y<x
  ·rw [if_pos h2]
   simp only [i87,V0,sevalprocAttr,hfr,c0,h,gt_iff_lt,h2]
  ·rw [if_neg h2]
   simp only [i87,V0,sevalprocAttr,hfr,c0,h,gt_iff_lt,h2]
theorem at_planar1 (hS:NoS S) (s u:Sg):GivesN S 8 86 [.agg s.g,.agg u.g] (.int .i64 (cmpI s.w u.w)):=by
 refine zd (i:=i86) (ns hS (by rfl)) rfl rfl (lb rfl) (7) (by omega) zw fun m hm d out t hfr=>?_
 simp only [V2,Nat.reduceAdd,i86,Sg.g,lineC] at hfr
 have c0:=at_west hS s m (by omega)
 have c1:=at_west hS u m (by omega)
 have c2:=at_cmp hS s.w u.w m (by omega)
 simp only [Sg.g,lineC,zo] at c0 c1 c2
 simp only [i86,V0,sevalprocAttr,hfr,c0,c1,c2]
 refine ⟨by simp [comm],?_⟩
 simp only [V0,sevalprocAttr,hfr]
theorem planar_cmp (hS:NoS S) {d:Nat} {out:yLM} {own0:yLO} {b:Nat}:CmpOK S 8 d out own0 b Sg.e 86 [] (fun s u=>cmpI s.w u.w):=fun m hm ownV own id x y _=>at_planar1 hS x y m hm d out ownV own id
end
end
section
theorem gives_mo {S:ySM} {f:FuncId} {i:IFn} {args:List IV} {v:IV} (hS:S f args=none) (hi:Ftab f=some i) (hm:i.mode=0) (hl:args.length<=i.ntmps) {N m d:Nat} {out:yLM} {ownV own:yLO} {id:Nat} (hN:1<=N) (hmN:N+1<=m) (hv:Fz 1 v)
  (h:∀ m,N<=m->∀ t,Slots i.ntmps t (slotsOf 0 args)->Ex (callN Ftab S m) (d+1) (fun l=>if l=d then ownV else out l) m i.body (Fin (d+1) (fun l=>if l=d then ownV else out l) i.res v) ⟨t,[]⟩):callN Ftab S m d out ownV own id f args=some (.r,v,own):=by
 obtain ⟨m,rfl⟩:∃ q,m=q+1:=⟨m - 1,by omega⟩
 obtain ⟨o,st,h1,h2,h3⟩:=h m (by omega) (args++List.replicate (i.ntmps - args.length) (.tuple [])) ⟨by simp; omega,fun p hp=>by
  obtain ⟨j,h1,h2⟩:=yn hp
  rw [zL,zc0,h1,zde,zco (zcf.1 h2).1,h2]
  rfl⟩
 have hm0:¬ (0=2):=by decide
 have hm00:¬ (0=3):=by decide
 have hf:freeze m (d+1) st.own v=some v:=hv m (by omega) _ _
 simp only [callN,hS,hi,hm,hm0,hm00,if_false,zf,h1]
 rcases h2 with rfl | rfl <;> simp [ended,h3,leave,hf]
def ptKs (L:List (Int × Pt)):List IV:=L.map fun kv=>.int .i64 kv.1
def ptVs (L:List (Int × Pt)):List IV:=L.map fun kv=>.agg kv.2.c
def lkP (L:List (Int × Pt)) (id:Int):Pt:=((L.find? fun kv=>id==kv.1).map Prod.snd).getD ⟨0,0⟩
theorem Z3 (id:Int):∀ (L:List (Int × Pt)) (n:Nat),findIx (false,[1]) (.int .i64 id) (ptKs L) n=some ((L.findIdx? fun kv=>id==kv.1).map (n+·))
 | [],n=>rfl
 | kv::L,n=>by
  have ih:=Z3 id L (n+1)
  have e:eqk (false,[1]) (.int .i64 id) (.int .i64 kv.1)=some (id==kv.1):=by
   have:eqvs [1] [.int .i64 id] [.int .i64 kv.1]=some (id==kv.1):=by
    simp only [eqvs,eqv]
    cases h1:id==kv.1 <;> simp [h1]
   exact this
  show (match eqk (false,[1]) (.int .i64 id) (.int .i64 kv.1) with | some true=>some (some n) | some false=>findIx (false,[1]) (.int .i64 id) (ptKs L) (n+1) | none=>none)=_
  rw [e]
  cases h:id==kv.1
  ·simp only [ih,List.findIdx?_cons,h]
   cases L.findIdx? fun kv=>id==kv.1 with
   | none=>rfl
   | some j=>simp; omega
  ·simp [List.findIdx?_cons,h]
theorem findK_pt (id:Int) (L:List (Int × Pt)):∃ r:Option IV,findK (false,[1]) (.int .i64 id) (ptKs L) (ptVs L)=some r/\r.getD (.agg [.int .i64 0,.int .i64 0])=.agg [.int .i64 (lkP L id).x,.int .i64 (lkP L id).y]:=by
 have h0:(kindB false (IV.int .i64 id)&&(IV.int .i64 id).cells.length==[1].length)=true:=rfl
 unfold findK
 rw [if_pos h0,Z3]
 cases h:L.findIdx? fun kv=>id==kv.1 with
 | none =>
  refine ⟨none,rfl,?_⟩
  have h1:(L.find? fun kv=>id==kv.1)=none:=by
   rw [List.findIdx?_eq_none_iff] at h
   rw [List.find?_eq_none]
   intro x hx
   simp [h x hx]
  simp [lkP,h1]
 | some j =>
  obtain ⟨hj,hq,hmin⟩:=List.findIdx?_eq_some_iff_getElem.1 h
  have h1:(L.find? fun kv=>id==kv.1)=some L[j]:=by
   rw [List.find?_eq_some_iff_getElem]
   exact ⟨hq,j,hj,rfl,fun k hk=>by simpa using hmin k hk⟩
  refine ⟨some (.agg (L[j]).2.c),?_,?_⟩
  ·simp [ptVs,hj]
  ·simp [lkP,h1,Pt.c,zo]
end
section
def sameRes (c:Int) (s u:Sg):Bool:=bif (((s.k+1:Nat):Int)==(u.k:Int))||((s.a.fr==s.a.to)&&(((s.k:Int)==0)&&((u.k:Int)==((u.path.l.length - 2:Nat):Int)))) then c==1 else c==0
section
variable {S:ySM}
theorem comp_same (hS:NoS S) (s u:Sg) (c:Int) {m d:Nat} {out:yLM} (hm:4<=m) {K:yKM} (t:List IV) (O:yLO) (hfr:Slots 137 t [(3,.ptrM d 0 0),(4,.ptrM d 1 0),(11,.int .i64 c)])
  (hK:∀ t' O',Slots 137 t' [(6,.bool (sameRes c s u))]->K .ret ⟨t',O'⟩):Ex (callN Ftab S m) d out m (i90.body.sub [1,1,1,1,0,1,0,1]) K ⟨t,.cells s.g::.cells u.g::O⟩:=by
 simp only [ze,zg] at hfr
 have hk:=s.hk
 have hf:=s.path.few
 have hw:wrapI .i64 ((s.k:Int)+1)=((s.k+1:Nat):Int):=we
 have c1:=at_first hS s m (by omega)
 have c2:=at_last hS u m (by omega)
 simp only [Sg.g,lineC] at c1 c2
 cases h1:((s.k+1:Nat):Int)==(u.k:Int)
 ·cases h2:s.a.fr==s.a.to
  ·simp only [i90,IC.sub,V0,Nat.reduceLT,Nat.reduceAdd,Nat.reduceMul,Nat.reduceLeDiff,Nat.reduceEqDiff,reduceCtorEq,hfr,Sg.g,lineC,hw,h1,h2]
   refine ⟨by simp [comm],?_⟩
   simp only [V0,Nat.reduceLT,Nat.reduceAdd,Nat.reduceMul,Nat.reduceLeDiff,Nat.reduceEqDiff,reduceCtorEq,hfr]
   exact hK _ _ (by simp only [V0,Nat.reduceLT,Nat.reduceAdd,Nat.reduceMul,Nat.reduceLeDiff,Nat.reduceEqDiff,reduceCtorEq,hfr,sameRes,hw,h1,h2,Bool.or_false,zdi,zcg,cond_false])
  ·cases h3:(s.k:Int)==0
   ·simp only [i90,IC.sub,V0,Nat.reduceLT,Nat.reduceAdd,Nat.reduceMul,Nat.reduceLeDiff,Nat.reduceEqDiff,reduceCtorEq,hfr,Sg.g,lineC,hw,h1,h2,c1,h3]
    refine ⟨by simp [comm],?_⟩
    simp only [V0,Nat.reduceLT,Nat.reduceAdd,Nat.reduceMul,Nat.reduceLeDiff,Nat.reduceEqDiff,reduceCtorEq,hfr]
    exact hK _ _ (by simp only [V0,Nat.reduceLT,Nat.reduceAdd,Nat.reduceMul,Nat.reduceLeDiff,Nat.reduceEqDiff,reduceCtorEq,hfr,sameRes,hw,h1,h2,h3,Bool.or_false,zdi,zcg,zc4,cond_false])
   ·cases h4:(u.k:Int)==((u.path.l.length - 2:Nat):Int)
    ·simp only [i90,IC.sub,V0,Nat.reduceLT,Nat.reduceAdd,Nat.reduceMul,Nat.reduceLeDiff,Nat.reduceEqDiff,reduceCtorEq,hfr,Sg.g,lineC,hw,h1,h2,c1,c2,h3,h4]
     refine ⟨by simp [comm],?_⟩
     simp only [V0,Nat.reduceLT,Nat.reduceAdd,Nat.reduceMul,Nat.reduceLeDiff,Nat.reduceEqDiff,reduceCtorEq,hfr]
     exact hK _ _ (by simp only [V0,Nat.reduceLT,Nat.reduceAdd,Nat.reduceMul,Nat.reduceLeDiff,Nat.reduceEqDiff,reduceCtorEq,hfr,sameRes,hw,h1,h2,h3,h4,Bool.or_false,zdi,zcg,zc4,cond_false])
    ·simp only [i90,IC.sub,V0,Nat.reduceLT,Nat.reduceAdd,Nat.reduceMul,Nat.reduceLeDiff,Nat.reduceEqDiff,reduceCtorEq,hfr,Sg.g,lineC,hw,h1,h2,c1,c2,h3,h4]
     refine ⟨by simp [comm],?_⟩
     simp only [V0,Nat.reduceLT,Nat.reduceAdd,Nat.reduceMul,Nat.reduceLeDiff,Nat.reduceEqDiff,reduceCtorEq,hfr]
     exact hK _ _ (by simp only [V0,Nat.reduceLT,Nat.reduceAdd,Nat.reduceMul,Nat.reduceLeDiff,Nat.reduceEqDiff,reduceCtorEq,hfr,sameRes,hw,h1,h2,h3,h4,Bool.or_true,zdi,Bool.and_true,cond_true])
 ·simp only [i90,IC.sub,V0,Nat.reduceLT,Nat.reduceAdd,Nat.reduceMul,Nat.reduceLeDiff,Nat.reduceEqDiff,reduceCtorEq,hfr,Sg.g,lineC,hw,h1]
  refine ⟨by simp [comm],?_⟩
  simp only [V0,Nat.reduceLT,Nat.reduceAdd,Nat.reduceMul,Nat.reduceLeDiff,Nat.reduceEqDiff,reduceCtorEq,hfr]
  exact hK _ _ (by simp only [V0,Nat.reduceLT,Nat.reduceAdd,Nat.reduceMul,Nat.reduceLeDiff,Nat.reduceEqDiff,reduceCtorEq,hfr,sameRes,hw,h1,zdm,cond_true])
noncomputable def atNode (L:List (Int × Pt)) (s u:Sg) (id:Int):Bool:=(id==u.a.fr||id==u.a.to)&&(onI s.p0 s.p1 (lkP L id)&&onI u.p0 u.p1 (lkP L id))
theorem comp_node (hS:NoS S) (s u:Sg) (L:List (Int × Pt)) {m d dm j:Nat} {out:yLM} (hm:12<=m) {bs:List Nat} {ck:Nat} (hdm:dm<d) (hmap:(out dm)[j]?=some (.map (ptKs L) (ptVs L) bs ck)) {K:yKM} (t:List IV) (F1 F2:IObj) (O:yLO)
  (hfr:Slots 137 t [(2,.mapM dm j),(3,.ptrM d 0 0),(4,.ptrM d 1 0),(7,.ptrM d 3 0),(8,.ptrM d 4 0),(9,.ptrM d 6 0),(10,.ptrM d 7 0)])
  (hK:∀ t' O',Slots 137 t' [(6,.bool (atNode L s u s.a.fr||atNode L s u s.a.to))]->K .ret ⟨t',O'⟩) :
  Ex (callN Ftab S m) d out m (i90.body.sub [1,1,1,1,1,1]) K ⟨t,.cells s.g::.cells u.g::F1::.cells s.p0.c::.cells s.p1.c::F2::.cells u.p0.c::.cells u.p1.c::O⟩:=by
 simp only [ze,zg] at hfr
 have hz2:rep [IV.int .i64 0] 2=[.int .i64 0,.int .i64 0]:=zcw rfl rfl
 have co:∀ (u v w:Pt) d out ownV own i,callN Ftab S m d out ownV own i 92 [.agg [.int .i64 u.x,.int .i64 u.y],.agg [.int .i64 v.x,.int .i64 v.y],.agg [.int .i64 w.x,.int .i64 w.y]]=some (.r,.bool (onI u v w),own):=fun u v w d out ownV own i=>at_on hS u v w m (by omega) d out ownV own i
 have hne:¬ (dm=d):=by omega
 simp only [i90,IC.sub,V0,Nat.reduceLT,Nat.reduceAdd,Nat.reduceMul,Nat.reduceLeDiff,Nat.reduceEqDiff,reduceCtorEq,hfr,Sg.g,lineC,Pt.c,hz2]
 refine ⟨by simp [comm],?_⟩
 simp only [V0,Nat.reduceLT,Nat.reduceAdd,Nat.reduceMul,Nat.reduceLeDiff,Nat.reduceEqDiff,reduceCtorEq,hfr]
 refine zb (fun jj st=>∃ (k:Nat) (O:yLO),2 - k<=jj/\k<=2/\(1<=k->atNode L s u s.a.fr=false)/\(2<=k->atNode L s u s.a.to=false)/\st.own=.cells [.ptrC (lineC s.a s.path) 0,.int .i64 (s.k:Int)]::.cells [.ptrC (lineC u.a u.path) 0,.int .i64 (u.k:Int)]::F1::.cells [.int .i64 s.p0.x,.int .i64 s.p0.y]::.cells [.int .i64 s.p1.x,.int .i64 s.p1.y]::F2::.cells [.int .i64 u.p0.x,.int .i64 u.p0.y]::.cells [.int .i64 u.p1.x,.int .i64 u.p1.y]::O/\Slots 137 st.t [(2,.mapM dm j),(3,.ptrM d 0 0),(4,.ptrM d 1 0),(7,.ptrM d 3 0),(8,.ptrM d 4 0),(9,.ptrM d 6 0),(10,.ptrM d 7 0),(99,.agg [.int .i64 s.a.fr,.int .i64 s.a.to]),(100,iv k)]) 2 (by omega) ⟨0,O,by omega,by omega,by omega,by omega,rfl,by simp only [V0,Nat.reduceLT,Nat.reduceAdd,Nat.reduceMul,Nat.reduceLeDiff,Nat.reduceEqDiff,reduceCtorEq,hfr,zcp]⟩ ?_
 clear hfr
 rintro jj ⟨t,own⟩ KB ⟨k,O,hjk,hk,hk1,hk2,ho,hfr⟩ hnB heB hrB
 dsimp only at ho hfr
 subst ho
 simp only [V3] at hfr
 have hcase:k=0∨k=1∨k=2:=by omega
 rcases hcase with rfl | rfl | rfl
 ·have hlt:(((0:Nat):Int)<2)=True:=eq_true (by decide)
  have hw0:wrapI .i64 (((0:Nat):Int)+1)=((1:Nat):Int):=rfl
  have hn0:natI (.int .i64 ((0:Nat):Int))=some 0:=yg
  have h02:(0<2)=True:=eq_true (by decide)
  obtain ⟨r,hr1,hr2⟩:=findK_pt s.a.fr L
  have ev:∀ (C:Call) (n0:Nat) (ownV own:yLO) (t:List IV) (x ix:Opd),ρ t x=.mapM dm j->ρ t ix=.int .i64 s.a.fr->evOp C d out n0 ownV own t (.lookup (.agg [.int .i64 0,.int .i64 0]) (false,[1]) false x ix)=some (.r,.agg [.int .i64 (lkP L s.a.fr).x,.int .i64 (lkP L s.a.fr).y],own):=fun C n0 ownV own t x ix h1 h2=>by
   rw [ev_lookup]
   simp only [e_lookup,h1,h2,look,if_neg hne,if_pos hdm,hmap,hr1,zck,hr2]
   rfl
  cases a1:s.a.fr==u.a.fr
  ·cases a2:s.a.fr==u.a.to
   ·skip
    have hat:atNode L s u s.a.fr=false:=by simp [atNode,a1,a2]
    simp only [V0,Nat.reduceLT,Nat.reduceAdd,Nat.reduceMul,Nat.reduceLeDiff,Nat.reduceEqDiff,reduceCtorEq,hfr,Sg.g,lineC,hlt,zF,e_index,hn0,h02,hw0,zdl,zd4,ev,co,a1,a2]
    exact hnB _ 1 (by omega) ⟨1,_,by omega,by omega,fun _=>hat,fun h=>absurd h (by omega),rfl,by simp only [V0,Nat.reduceLT,Nat.reduceAdd,Nat.reduceMul,Nat.reduceLeDiff,Nat.reduceEqDiff,reduceCtorEq,hfr,hlt,hw0,ev,a1,a2]⟩
   ·skip
    cases o1:onI s.p0 s.p1 (lkP L s.a.fr)
    ·skip
     have hat:atNode L s u s.a.fr=false:=by simp [atNode,a1,a2,o1]
     simp only [V0,Nat.reduceLT,Nat.reduceAdd,Nat.reduceMul,Nat.reduceLeDiff,Nat.reduceEqDiff,reduceCtorEq,hfr,Sg.g,lineC,hlt,zF,e_index,hn0,h02,hw0,zdl,zd4,ev,co,a1,a2,o1]
     exact hnB _ 1 (by omega) ⟨1,_,by omega,by omega,fun _=>hat,fun h=>absurd h (by omega),rfl,by simp only [V0,Nat.reduceLT,Nat.reduceAdd,Nat.reduceMul,Nat.reduceLeDiff,Nat.reduceEqDiff,reduceCtorEq,hfr,hlt,hw0,ev,a1,a2,o1]⟩
    ·cases o2:onI u.p0 u.p1 (lkP L s.a.fr)
     ·skip
      have hat:atNode L s u s.a.fr=false:=by simp [atNode,a1,a2,o1,o2]
      simp only [V0,Nat.reduceLT,Nat.reduceAdd,Nat.reduceMul,Nat.reduceLeDiff,Nat.reduceEqDiff,reduceCtorEq,hfr,Sg.g,lineC,hlt,zF,e_index,hn0,h02,hw0,zdl,zd4,ev,co,a1,a2,o1,o2]
      exact hnB _ 1 (by omega) ⟨1,_,by omega,by omega,fun _=>hat,fun h=>absurd h (by omega),rfl,by simp only [V0,Nat.reduceLT,Nat.reduceAdd,Nat.reduceMul,Nat.reduceLeDiff,Nat.reduceEqDiff,reduceCtorEq,hfr,hlt,hw0,ev,a1,a2,o1,o2]⟩
     ·skip
      have hat:atNode L s u s.a.fr=true:=by simp [atNode,a1,a2,o1,o2]
      simp only [V0,Nat.reduceLT,Nat.reduceAdd,Nat.reduceMul,Nat.reduceLeDiff,Nat.reduceEqDiff,reduceCtorEq,hfr,Sg.g,lineC,hlt,zF,e_index,hn0,h02,zdl,zd4,ev,co,a1,a2,o1,o2]
      refine hrB _ ?_
      simp only [V0,Nat.reduceLT,Nat.reduceAdd,Nat.reduceMul,Nat.reduceLeDiff,Nat.reduceEqDiff,reduceCtorEq,hfr]
      exact hK _ _ (by simp only [V0,Nat.reduceLT,Nat.reduceAdd,Nat.reduceMul,Nat.reduceLeDiff,Nat.reduceEqDiff,reduceCtorEq,hfr,hat,zdm])
  ·skip
   cases o1:onI s.p0 s.p1 (lkP L s.a.fr)
   ·skip
    have hat:atNode L s u s.a.fr=false:=by simp [atNode,a1,o1]
    simp only [V0,Nat.reduceLT,Nat.reduceAdd,Nat.reduceMul,Nat.reduceLeDiff,Nat.reduceEqDiff,reduceCtorEq,hfr,Sg.g,lineC,hlt,zF,e_index,hn0,h02,hw0,zdl,zd4,ev,co,a1,o1]
    exact hnB _ 1 (by omega) ⟨1,_,by omega,by omega,fun _=>hat,fun h=>absurd h (by omega),rfl,by simp only [V0,Nat.reduceLT,Nat.reduceAdd,Nat.reduceMul,Nat.reduceLeDiff,Nat.reduceEqDiff,reduceCtorEq,hfr,hlt,hw0,ev,a1,o1]⟩
   ·cases o2:onI u.p0 u.p1 (lkP L s.a.fr)
    ·skip
     have hat:atNode L s u s.a.fr=false:=by simp [atNode,a1,o1,o2]
     simp only [V0,Nat.reduceLT,Nat.reduceAdd,Nat.reduceMul,Nat.reduceLeDiff,Nat.reduceEqDiff,reduceCtorEq,hfr,Sg.g,lineC,hlt,zF,e_index,hn0,h02,hw0,zdl,zd4,ev,co,a1,o1,o2]
     exact hnB _ 1 (by omega) ⟨1,_,by omega,by omega,fun _=>hat,fun h=>absurd h (by omega),rfl,by simp only [V0,Nat.reduceLT,Nat.reduceAdd,Nat.reduceMul,Nat.reduceLeDiff,Nat.reduceEqDiff,reduceCtorEq,hfr,hlt,hw0,ev,a1,o1,o2]⟩
    ·skip
     have hat:atNode L s u s.a.fr=true:=by simp [atNode,a1,o1,o2]
     simp only [V0,Nat.reduceLT,Nat.reduceAdd,Nat.reduceMul,Nat.reduceLeDiff,Nat.reduceEqDiff,reduceCtorEq,hfr,Sg.g,lineC,hlt,zF,e_index,hn0,h02,zdl,zd4,ev,co,a1,o1,o2]
     refine hrB _ ?_
     simp only [V0,Nat.reduceLT,Nat.reduceAdd,Nat.reduceMul,Nat.reduceLeDiff,Nat.reduceEqDiff,reduceCtorEq,hfr]
     exact hK _ _ (by simp only [V0,Nat.reduceLT,Nat.reduceAdd,Nat.reduceMul,Nat.reduceLeDiff,Nat.reduceEqDiff,reduceCtorEq,hfr,hat,zdm])
 ·have hlt:(((1:Nat):Int)<2)=True:=eq_true (by decide)
  have hw0:wrapI .i64 (((1:Nat):Int)+1)=((2:Nat):Int):=rfl
  have hn0:natI (.int .i64 ((1:Nat):Int))=some 1:=yg
  have h02:(1<2)=True:=eq_true (by decide)
  obtain ⟨r,hr1,hr2⟩:=findK_pt s.a.to L
  have ev:∀ (C:Call) (n0:Nat) (ownV own:yLO) (t:List IV) (x ix:Opd),ρ t x=.mapM dm j->ρ t ix=.int .i64 s.a.to->evOp C d out n0 ownV own t (.lookup (.agg [.int .i64 0,.int .i64 0]) (false,[1]) false x ix)=some (.r,.agg [.int .i64 (lkP L s.a.to).x,.int .i64 (lkP L s.a.to).y],own):=fun C n0 ownV own t x ix h1 h2=>by
   rw [ev_lookup]
   simp only [e_lookup,h1,h2,look,if_neg hne,if_pos hdm,hmap,hr1,zck,hr2]
   rfl
  cases a1:s.a.to==u.a.fr
  ·cases a2:s.a.to==u.a.to
   ·skip
    have hat:atNode L s u s.a.to=false:=by simp [atNode,a1,a2]
    simp only [V0,Nat.reduceLT,Nat.reduceAdd,Nat.reduceMul,Nat.reduceLeDiff,Nat.reduceEqDiff,reduceCtorEq,hfr,Sg.g,lineC,hlt,zF,e_index,hn0,h02,hw0,zdl,zd4,ev,co,a1,a2]
    exact hnB _ 0 (by omega) ⟨2,_,by omega,by omega,fun _=>hk1 (by omega),fun _=>hat,rfl,by simp only [V0,Nat.reduceLT,Nat.reduceAdd,Nat.reduceMul,Nat.reduceLeDiff,Nat.reduceEqDiff,reduceCtorEq,hfr,hlt,hw0,ev,a1,a2]⟩
   ·skip
    cases o1:onI s.p0 s.p1 (lkP L s.a.to)
    ·skip
     have hat:atNode L s u s.a.to=false:=by simp [atNode,a1,a2,o1]
     simp only [V0,Nat.reduceLT,Nat.reduceAdd,Nat.reduceMul,Nat.reduceLeDiff,Nat.reduceEqDiff,reduceCtorEq,hfr,Sg.g,lineC,hlt,zF,e_index,hn0,h02,hw0,zdl,zd4,ev,co,a1,a2,o1]
     exact hnB _ 0 (by omega) ⟨2,_,by omega,by omega,fun _=>hk1 (by omega),fun _=>hat,rfl,by simp only [V0,Nat.reduceLT,Nat.reduceAdd,Nat.reduceMul,Nat.reduceLeDiff,Nat.reduceEqDiff,reduceCtorEq,hfr,hlt,hw0,ev,a1,a2,o1]⟩
    ·cases o2:onI u.p0 u.p1 (lkP L s.a.to)
     ·skip
      have hat:atNode L s u s.a.to=false:=by simp [atNode,a1,a2,o1,o2]
      simp only [V0,Nat.reduceLT,Nat.reduceAdd,Nat.reduceMul,Nat.reduceLeDiff,Nat.reduceEqDiff,reduceCtorEq,hfr,Sg.g,lineC,hlt,zF,e_index,hn0,h02,hw0,zdl,zd4,ev,co,a1,a2,o1,o2]
      exact hnB _ 0 (by omega) ⟨2,_,by omega,by omega,fun _=>hk1 (by omega),fun _=>hat,rfl,by simp only [V0,Nat.reduceLT,Nat.reduceAdd,Nat.reduceMul,Nat.reduceLeDiff,Nat.reduceEqDiff,reduceCtorEq,hfr,hlt,hw0,ev,a1,a2,o1,o2]⟩
     ·skip
      have hat:atNode L s u s.a.to=true:=by simp [atNode,a1,a2,o1,o2]
      simp only [V0,Nat.reduceLT,Nat.reduceAdd,Nat.reduceMul,Nat.reduceLeDiff,Nat.reduceEqDiff,reduceCtorEq,hfr,Sg.g,lineC,hlt,zF,e_index,hn0,h02,zdl,zd4,ev,co,a1,a2,o1,o2]
      refine hrB _ ?_
      simp only [V0,Nat.reduceLT,Nat.reduceAdd,Nat.reduceMul,Nat.reduceLeDiff,Nat.reduceEqDiff,reduceCtorEq,hfr]
      exact hK _ _ (by simp only [V0,Nat.reduceLT,Nat.reduceAdd,Nat.reduceMul,Nat.reduceLeDiff,Nat.reduceEqDiff,reduceCtorEq,hfr,hk1 (by omega),hat,Bool.or_true])
  ·skip
   cases o1:onI s.p0 s.p1 (lkP L s.a.to)
   ·skip
    have hat:atNode L s u s.a.to=false:=by simp [atNode,a1,o1]
    simp only [V0,Nat.reduceLT,Nat.reduceAdd,Nat.reduceMul,Nat.reduceLeDiff,Nat.reduceEqDiff,reduceCtorEq,hfr,Sg.g,lineC,hlt,zF,e_index,hn0,h02,hw0,zdl,zd4,ev,co,a1,o1]
    exact hnB _ 0 (by omega) ⟨2,_,by omega,by omega,fun _=>hk1 (by omega),fun _=>hat,rfl,by simp only [V0,Nat.reduceLT,Nat.reduceAdd,Nat.reduceMul,Nat.reduceLeDiff,Nat.reduceEqDiff,reduceCtorEq,hfr,hlt,hw0,ev,a1,o1]⟩
   ·cases o2:onI u.p0 u.p1 (lkP L s.a.to)
    ·skip
     have hat:atNode L s u s.a.to=false:=by simp [atNode,a1,o1,o2]
     simp only [V0,Nat.reduceLT,Nat.reduceAdd,Nat.reduceMul,Nat.reduceLeDiff,Nat.reduceEqDiff,reduceCtorEq,hfr,Sg.g,lineC,hlt,zF,e_index,hn0,h02,hw0,zdl,zd4,ev,co,a1,o1,o2]
     exact hnB _ 0 (by omega) ⟨2,_,by omega,by omega,fun _=>hk1 (by omega),fun _=>hat,rfl,by simp only [V0,Nat.reduceLT,Nat.reduceAdd,Nat.reduceMul,Nat.reduceLeDiff,Nat.reduceEqDiff,reduceCtorEq,hfr,hlt,hw0,ev,a1,o1,o2]⟩
    ·skip
     have hat:atNode L s u s.a.to=true:=by simp [atNode,a1,o1,o2]
     simp only [V0,Nat.reduceLT,Nat.reduceAdd,Nat.reduceMul,Nat.reduceLeDiff,Nat.reduceEqDiff,reduceCtorEq,hfr,Sg.g,lineC,hlt,zF,e_index,hn0,h02,zdl,zd4,ev,co,a1,o1,o2]
     refine hrB _ ?_
     simp only [V0,Nat.reduceLT,Nat.reduceAdd,Nat.reduceMul,Nat.reduceLeDiff,Nat.reduceEqDiff,reduceCtorEq,hfr]
     exact hK _ _ (by simp only [V0,Nat.reduceLT,Nat.reduceAdd,Nat.reduceMul,Nat.reduceLeDiff,Nat.reduceEqDiff,reduceCtorEq,hfr,hk1 (by omega),hat,Bool.or_true])
 ·have hlt:(((2:Nat):Int)<2)=False:=eq_false (by decide)
  simp only [V0,Nat.reduceLT,Nat.reduceAdd,Nat.reduceMul,Nat.reduceLeDiff,Nat.reduceEqDiff,reduceCtorEq,hfr,hlt]
  refine heB _ _ ?_
  simp only [V0,Nat.reduceLT,Nat.reduceAdd,Nat.reduceMul,Nat.reduceLeDiff,Nat.reduceEqDiff,reduceCtorEq,hfr]
  exact hK _ _ (by simp only [V0,Nat.reduceLT,Nat.reduceAdd,Nat.reduceMul,Nat.reduceLeDiff,Nat.reduceEqDiff,reduceCtorEq,hfr,hk1 (by omega),hk2 (by omega),Bool.or_self])
end
end
section
noncomputable def Sg.meet (s u:Sg):Int:=meetI s.p0 s.p1 u.p0 u.p1
noncomputable def compB (L:List (Int × Pt)) (s u:Sg):Bool:=bif s.a.id==u.a.id then (bif decide (u.k<s.k) then sameRes (s.meet u) u s else sameRes (s.meet u) s u) else bif s.meet u==1 then atNode L s u s.a.fr||atNode L s u s.a.to else s.meet u==0
section
variable {S:ySM}
theorem at_comp (hS:NoS S) (s u:Sg) (L:List (Int × Pt)) {m d j:Nat} {out:yLM} {ownV own:yLO} {id:Nat} {bs:List Nat} {ck:Nat} (hm:20<=m) (hmap:ownV[j]?=some (.map (ptKs L) (ptVs L) bs ck)) :
  callN Ftab S m d out ownV own id 90 [.agg s.g,.agg u.g,.mapM d j]=some (.r,.bool (compB L s u),own):=by
 refine gives_mo (i:=i90) (ns hS (by rfl)) rfl rfl (lb rfl) (N:=19) (by omega) hm zk fun m hm t hfr=>?_
 simp only [V2,Nat.reduceAdd,i90] at hfr
 have hmap2:((fun l=>if l=d then ownV else out l:yLM) d)[j]?=some (.map (ptKs L) (ptVs L) bs ck):=by simpa using hmap
 generalize (fun l=>if l=d then ownV else out l:yLM)=out2 at hmap2 ⊢
 have hce:=fun dd oo ownV own i=>YJ hS s m (by omega) dd oo ownV own i
 have hcu:=fun dd oo ownV own i=>YJ hS u m (by omega) dd oo ownV own i
 have hcm:=fun dd oo ownV own i=>at_meet hS s.p0 s.p1 u.p0 u.p1 m (by omega) dd oo ownV own i
 simp only [Sg.g,lineC,Pt.c,zo] at hce hcu hcm
 have hA1:=fun (K:yKM) t O=>comp_same hS s u (s.meet u) (m:=m) (d:=d+1) (out:=out2) (by omega) (K:=K) t O
 have hA2:=fun (K:yKM) t O=>comp_same hS u s (s.meet u) (m:=m) (d:=d+1) (out:=out2) (by omega) (K:=K) t O
 have hB1:=fun (K:yKM) t F1 F2 O=>comp_node hS s u L (m:=m) (d:=d+1) (out:=out2) (by omega) (by omega) hmap2 (K:=K) t F1 F2 O
 rw [show i90.body=.seq (i90.body.sub [0]) (.seq (i90.body.sub [1,0]) (.seq (i90.body.sub [1,1,0]) (.seq (i90.body.sub [1,1,1,0]) (.seq (.seq (i90.body.sub [1,1,1,1,0,0]) (.cond (.tmp 42) (.seq (i90.body.sub [1,1,1,1,0,1,0,0]) (i90.body.sub [1,1,1,1,0,1,0,1])) .skip)) (.seq (i90.body.sub [1,1,1,1,1,0]) (i90.body.sub [1,1,1,1,1,1])))))) from rfl]
 generalize i90.body.sub [1,1,1,1,0,1,0,1]=A at hA1 hA2 ⊢
 generalize i90.body.sub [1,1,1,1,1,1]=B at hB1 ⊢
 have hmt:meetI s.p0 s.p1 u.p0 u.p1=s.meet u:=rfl
 rw [hmt] at hcm
 cases h0:s.a.id==u.a.id
 ·cases h1:s.meet u==1
  ·have hbne:∀ z:Int,(z != 1)=!(z==1):=fun z=>rfl
   simp only [i90,IC.sub,V0,sevalprocAttr,hfr,Sg.g,lineC,hce,hcu,hcm]
   refine ⟨by simp [comm],?_⟩
   simp only [V0,sevalprocAttr,hfr,h0,hbne,h1]
   simp only [V0,sevalprocAttr,hfr,compB,h0,h1,cond_false]
  ·have hbne:∀ z:Int,(z != 1)=!(z==1):=fun z=>rfl
   simp only [i90,IC.sub,V0,sevalprocAttr,hfr,Sg.g,lineC,hce,hcu,hcm]
   refine ⟨by simp [comm],?_⟩
   simp only [V0,sevalprocAttr,hfr,h0,hbne,h1]
   refine hB1 _ _ _ _ _ (by simp only [V0,sevalprocAttr,hfr]) fun t' O' ht=>?_
   simp only [ze,zg] at ht
   simp only [V0,sevalprocAttr,ht,compB,h0,h1,cond_true,cond_false]
 ·by_cases h1:(u.k:Int)<(s.k:Int)
  ·have h1':decide (u.k<s.k)=true:=by simp; omega
   simp only [i90,IC.sub,V0,sevalprocAttr,hfr,Sg.g,lineC,hce,hcu,hcm]
   refine ⟨by simp [comm],?_⟩
   simp only [V0,sevalprocAttr,hfr,h0,gt_iff_lt,h1]
   refine hA2 _ _ _ (by simp only [V0,sevalprocAttr,hfr]) fun t' O' ht=>?_
   simp only [ze,zg] at ht
   simp only [V0,sevalprocAttr,ht,compB,h0,h1',cond_true]
  ·have h1':decide (u.k<s.k)=false:=by simp; omega
   simp only [i90,IC.sub,V0,sevalprocAttr,hfr,Sg.g,lineC,hce,hcu,hcm]
   refine ⟨by simp [comm],?_⟩
   simp only [V0,sevalprocAttr,hfr,h0,gt_iff_lt,h1]
   refine hA1 _ _ _ (by simp only [V0,sevalprocAttr,hfr]) fun t' O' ht=>?_
   simp only [ze,zg] at ht
   simp only [V0,sevalprocAttr,ht,compB,h0,h1',cond_true,cond_false]
end
end
section
theorem zbw {S:ySM} {f:FuncId} {i:IFn} {args:List IV} {m d:Nat} {out:yLM} {ownV own:yLO} {id:Nat} {Q:Eff × IV × List IObj->Prop} (hS:S f args=none) (hi:Ftab f=some i) (hm:i.mode≠2/\i.mode≠3) (hl:args.length<=i.ntmps)
  (h:∀ t,Slots i.ntmps t (slotsOf 0 args)->Ex (callN Ftab S m) (d+1) (fun l=>if l=d then ownV else out l) m i.body (fun o st=>(o=.normal∨o=.ret)/\∃ v r,resultI (d+1) (fun l=>if l=d then ownV else out l) st i.res=some v/\leave m d st.own own id i.mode v=some r/\Q r) ⟨t,[]⟩):∃ r,callN Ftab S (m+1) d out ownV own id f args=some r/\Q r:=by
 obtain ⟨o,st,h1,h2,v,r,h3,h4,h5⟩:=h (args++List.replicate (i.ntmps - args.length) (.tuple [])) ⟨by simp; omega,fun p hp=>by
  obtain ⟨j,h1,h2⟩:=yn hp
  rw [zL,zc0,h1,zde,zco (zcf.1 h2).1,h2]
  rfl⟩
 refine ⟨r,?_,h5⟩
 simp only [callN,hS,hi,if_neg hm.1,if_neg hm.2,zf,h1]
 rcases h2 with rfl | rfl <;> simp [ended,h3,h4]
theorem ownJ_app2 {α:Type} {g:α->List IV} {sz:Nat} (hs:∀ a,(g a).length=sz) {d n0 slot k:Nat} {out:yLM} {Pre J R:yLO} {lv:IV} {xs ys:List α} (h:OwnJ g sz d Pre.length J lv xs) (hy:ys.length≠0) (hx:xs.length+ys.length<=1073741824) (hk:n0+slot=Pre.length+(J.length+k)) (hf:R[k]?=some .free)
  (hsc:(ys.flatMap g).all IV.scalar=true) :
  ∃ e lv' J2,appendI d n0 (look d out (Pre++(J++R))) (Pre++(J++R)) sz lv (ys.flatMap g) ys.length slot=some (e,lv',Pre++J2)/\OwnJ g sz d Pre.length J2 lv' (xs++ys)/\∀ j x,j<J.length+k->(J++R)[j]?=some x->(J.length<=j∨x≠.cells (xs.flatMap g))->J2[j]?=some x:=by
 have hkl:k<R.length:=(zcf.1 hf).1
 have hget:(J++R)[J.length+k]?=some .free:=by
  rw [zct (by omega),zds]
  exact hf
 have hlt:J.length+k<(J++R).length:=by rw [zc8]; omega
 have hne:xs++ys≠[]:=by
  intro he
  exact hy (by rw [(List.append_eq_nil_iff.1 he).2]; rfl)
 rcases h with ⟨rfl,rfl⟩ | ⟨b,_,rfl,h2⟩
 ·rw [ZC hy (by unfold bound; simp at hx; omega)]
  unfold mkAt
  rw [hk,yr,hget]
  simp only [zf]
  rw [yX]
  refine ⟨_,_,_,rfl,.inr ⟨J.length+k,hne,by simp,?_⟩,fun j x hj hx2 _=>?_⟩
  ·rw [zdw hlt]
   rfl
  ·rw [zdp (by omega)]
   exact hx2
 ·have hb:b<J.length:=(zcf.1 h2).1
  have hb2:(J++R)[b]?=some (.cells (xs.flatMap g)):=by rw [zco hb]; exact h2
  rw [yE hy hx (zx hs) hsc (by simp only [look,if_true,yr]; exact hb2)]
  unfold killAt
  rw [hk,yr,hget]
  simp only [zf]
  rw [yX,yX]
  refine ⟨_,_,_,rfl,.inr ⟨J.length+k,hne,by simp,?_⟩,fun j x hj hx2 hne2=>?_⟩
  ·rw [zdw (by rw [List.length_set]; exact hlt)]
   simp
  ·rw [zdp (by omega)]
   by_cases hjb:j=b
   ·subst hjb
    rw [hb2] at hx2
    cases hx2
    rcases hne2 with h3 | h3
    ·omega
    ·exact absurd rfl h3
   ·rw [zdp (Ne.symm hjb)]
    exact hx2
def bdG (d:Nat) (sb:Sg × Nat):List IV:=[.ptrM d sb.2 0,.int .i64 (sb.1.k:Int)]
theorem bdG_len (d:Nat) (sb:Sg × Nat):(bdG d sb).length=2:=rfl
def LinesOK (J:yLO) (xs:List (Sg × Nat)):Prop:=∀ sb∈xs,1<=sb.2/\J[sb.2 - 1]?=some (.cells (lineC sb.1.a sb.1.path))
theorem line_ne {d:Nat} {a:Ac} {path:SlOf 2 Pt.c} {xs:List (Sg × Nat)}:(IObj.cells (lineC a path))≠.cells (xs.flatMap (bdG d)):=by
 intro h
 cases xs with
 | nil=>simp [lineC] at h
 | cons x xs=>simp [lineC,bdG] at h
theorem ptC_fz (a:Pt):∀ x∈a.c,Fz 1 x:=by
 intro x hx
 simp only [Pt.c,zdn,zdx,or_false] at hx
 rcases hx with rfl | rfl <;> exact zw
theorem segs_fz {n d:Nat} {own:yLO} (hn:4<=n):∀ {xs:List (Sg × Nat)},(∀ sb∈xs,own[sb.2]?=some (.cells (lineC sb.1.a sb.1.path)))->(xs.flatMap (bdG d)).mapM (freeze n d own)=some ((xs.map Prod.fst).flatMap Sg.g)
 | [],_=>rfl
 | sb::xs,h=>by
  obtain ⟨n,rfl⟩:∃ q,n=q+4:=⟨n - 4,by omega⟩
  have ih:=segs_fz (n:=n+4) (d:=d) hn (xs:=xs) fun x hx=>h x (List.mem_cons_of_mem _ hx)
  have h1:=h sb (zeb ..)
  have f1:freeze (n+4) d own (.ptrM d sb.2 0)=some (.ptrC (lineC sb.1.a sb.1.path) 0):=by
   have hvia:freeze (n+3) d own sb.1.a.via.v=some sb.1.a.via.v:=Z0 ptC_fz sb.1.a.via (n+3) (by omega) d own
   have hpa:freeze (n+3) d own sb.1.path.v=some sb.1.path.v:=Z0 ptC_fz sb.1.path (n+3) (by omega) d own
   have hi:∀ z:Int,freeze (n+3) d own (.int .i64 z)=some (.int .i64 z):=fun z=>rfl
   unfold freeze
   simp only [if_true,h1,lineC,zd8,List.mapM_nil,hvia,hpa,hi,Option.pure_def,Option.bind_eq_bind,zcy,zck]
  have f2:freeze (n+4) d own (.int .i64 (sb.1.k:Int))=some (.int .i64 (sb.1.k:Int)):=rfl
  rw [zdc,zdo,zdc]
  simp only [bdG,Sg.g,zc5,zdh,zd8,f1,f2,Option.pure_def,Option.bind_eq_bind,zcy]
  rw [ih]
  rfl
end
section
theorem LinesOK.keep {J J2:yLO} {xs:List (Sg × Nat)} {d:Nat} (h:LinesOK J xs) (hk:∀ (j:Nat) (x:IObj),J[j]?=some x->x≠IObj.cells (xs.flatMap (bdG d))->J2[j]?=some x):LinesOK J2 xs:=fun sb hs=>⟨(h sb hs).1,hk _ _ (h sb hs).2 line_ne⟩
theorem LinesOK.more {J R:yLO} {xs:List (Sg × Nat)} (h:LinesOK J xs):LinesOK (J++R) xs:=fun sb hs=>⟨(h sb hs).1,by
 have:=(h sb hs).2
 rw [zco (zcf.1 this).1]
 exact this⟩
theorem leave_segs {n d bi id:Nat} {own1 own:yLO} {xs:List (Sg × Nat)} {b:Bool} (hn:4<=n) (hb:own1[bi]?=some (.cells (xs.flatMap (bdG (d+1))))) (hl:∀ sb∈xs,own1[sb.2]?=some (.cells (lineC sb.1.a sb.1.path))) (hid:own[id]?=some .free) :
  leave n d own1 own id 1 (.tuple [.slM (d+1) bi 0 xs.length xs.length 2 false,.bool b])=some (.a,.tuple [.slM d id 0 xs.length xs.length 2 false,.bool b],own.set id (.cells ((xs.map Prod.fst).flatMap Sg.g))):=by
 obtain ⟨n,rfl⟩:∃ q,n=q+4:=⟨n - 4,by omega⟩
 have h1:∀ sb∈xs,(own1.set bi .gone)[sb.2]?=some (.cells (lineC sb.1.a sb.1.path)):=fun sb hs=>by
  have hne:bi≠sb.2:=by
   intro he
   have:=hl sb hs
   rw [← he,hb] at this
   exact line_ne (zdj this).symm
  rw [zdp hne]
  exact hl sb hs
 have hf:=segs_fz (n:=n+4) (d:=d+1) (by omega) h1
 have hseg:seg (xs.flatMap (bdG (d+1))) 0 (xs.length*2)=some (xs.flatMap (bdG (d+1))):=by
  have hlen:(xs.flatMap (bdG (d+1))).length=xs.length*2:=zx (bdG_len (d+1))
  unfold seg
  rw [if_pos (by omega),zf,List.drop_zero,zcm (by omega)]
 have hbool:∀ o,freeze (n+4) (d+1) o (.bool b)=some (.bool b):=fun o=>rfl
 unfold leave
 simp only [if_true,handed,hb,hseg,hf,zd8,List.mapM_nil,hbool,Option.pure_def,Option.bind_eq_bind,zcy,mkAt,hid,zf]
structure Sp where
 (id fr to:Int)
 (k n:Nat)
 (A B:Pt)
def Sg.sp (s:Sg):Sp:=⟨s.a.id,s.a.fr,s.a.to,s.k,s.path.l.length - 1,s.p0,s.p1⟩
def zPt:Pt:=⟨0,0⟩
def spsOf (a:Ac) (l:List Pt):List Sp:=(List.range (l.length - 1)).map fun k=>⟨a.id,a.fr,a.to,k,l.length - 1,l.getD k zPt,l.getD (k+1) zPt⟩
def anyEq (l:List Pt):Bool:=(List.range (l.length - 1)).any fun k=>ptE (l.getD k zPt) (l.getD (k+1) zPt)
def badA (p:Pn) (a:Ac):Bool:=!pathOk p a.id||((a.fr==a.to&&decide ((pathL p a.id).length<4))||anyEq (pathL p a.id))
def spsL (p:Pn):List Sp:=p.as.l.flatMap fun a=>spsOf a (pathL p a.id)
theorem badA_short {p:Pn} {x:Ac} (h:(x.fr==x.to)=true) (h4:(pathL p x.id).length<4):badA p x=true:=by simp [badA,h,h4]
theorem badA_not {p:Pn} {x:Ac} (h:pathOk p x.id=true) (h4:¬ (pathL p x.id).length<4) (he:anyEq (pathL p x.id)=false):badA p x=false:=by simp [badA,h,h4,he]
def SegsR (p:Pn) (d id:Nat) (own:yLO) (r:Eff × IV × yLO):Prop:=(∃ b,r=(.r,.tuple [.nilsl,.bool b],own)/\p.as.l.any (badA p)=!b/\(b=true->spsL p=[]))∨∃ l:List Sg,l≠[]/\l.length<=p.as.l.length*100/\(p.as.l.any (badA p)=false/\l.map Sg.sp=spsL p)/\r=(.a,.tuple [.slM d id 0 l.length l.length 2 false,.bool true],own.set id (.cells (l.flatMap Sg.g)))
section
variable {S:ySM}
theorem st_end2 {l r:yLO} {x y z w:IObj}:(l++x::y::z::r).set (l.length+2) w=l++x::y::w::r:=by
 rw [List.set_append_right _ _ (by omega),zds]
 rfl
theorem cells_pm {l i o:Nat}:(IV.ptrM l i o).cells=[.ptrM l i o]:=zcw rfl rfl
theorem rep1 (a b:IV):rep [a,b] 1=[a,b]:=zcw rfl rfl
theorem cellsI_2 {lk:Nat->Nat->Option IObj} {a b:IV} {tight:Bool}:cellsI lk 2 (.slC [a,b] 1 2 tight)=some ([a,b],1):=by
 simp [cellsI,seg,zf]
theorem spsOf_at {a:Ac} {l:List Pt} {k:Nat} {x y:Pt} (hx:l[k]?=some x) (hy:l[k+1]?=some y):(spsOf a l).take (k+1)=(spsOf a l).take k++[⟨a.id,a.fr,a.to,k,l.length - 1,x,y⟩]:=by
 have hl:=(zcf.1 hy).1
 have e:(spsOf a l)[k]?=some ⟨a.id,a.fr,a.to,k,l.length - 1,x,y⟩:=by
  unfold spsOf
  rw [zc9,List.getElem?_range (by omega)]
  simp [zc0,hx,hy]
 rw [zdv,e]
 rfl
theorem spsOf_len {a:Ac} {l:List Pt}:(spsOf a l).length=l.length - 1:=by simp [spsOf]
theorem anyEq_hit {l:List Pt} {k:Nat} {x y:Pt} (hx:l[k]?=some x) (hy:l[k+1]?=some y) (h:ptE x y=true):anyEq l=true:=by
 have hl:=(zcf.1 hy).1
 unfold anyEq
 rw [List.any_eq_true]
 exact ⟨k,List.mem_range.2 (by omega),by simp [zc0,hx,hy,h]⟩
def NoEq (l:List Pt) (k:Nat):Prop:=∀ i,i<k->ptE (l.getD i zPt) (l.getD (i+1) zPt)=false
theorem NoEq.next {l:List Pt} {k:Nat} {x y:Pt} (h0:NoEq l k) (hx:l[k]?=some x) (hy:l[k+1]?=some y) (h:ptE x y=false):NoEq l (k+1):=fun i hi=>by
 by_cases hk:i=k
 ·subst hk
  simp [zc0,hx,hy,h]
 ·exact h0 i (by omega)
theorem NoEq.done {l:List Pt} {k:Nat} (h0:NoEq l k) (hk:l.length - 1<=k):anyEq l=false:=by
 unfold anyEq
 rw [zd9]
 intro i hi
 have:=List.mem_range.1 hi
 rw [h0 i (by omega)]
 decide
theorem segs_tail (hS:NoS S) (p:Pn) (x:Ac) (q':SlOf 2 Pt.c) {m D i:Nat} {out:yLM} (hm:q'.l.length+6<=m) (hq:2<=q'.l.length/\q'.l.length<=66) {K:yKM} (t:List IV) (J:yLO) (lv:IV) (xs:List (Sg × Nat)) (hO:OwnJ (bdG D) 2 D 1 J lv xs) (hL:LinesOK J xs) (hxl:xs.length<=100000)
  (hfr:Slots 67 t [(1,.ptrM D 0 0),(2,lv),(3,.bool false),(5,.ptrM D (J.length+1) 0),(6,q'.v),(11,p.as.v),(12,iv (p.as.l.length:Nat)),(13,iv i)])
  (hR:∀ t' O',anyEq q'.l=true->Slots 67 t' [(2,.nilsl),(3,.bool false)]->K .ret ⟨t',O'⟩)
  (hK:∀ t' J' lv' xs',OwnJ (bdG D) 2 D 1 J' lv' xs'->LinesOK J' xs'->xs'.length<=xs.length+66->(anyEq q'.l=false/\xs'.map (fun x=>x.1.sp)=xs.map (fun x=>x.1.sp)++spsOf x q'.l)->Slots 67 t' [(1,.ptrM D 0 0),(2,lv'),(3,.bool false),(11,p.as.v),(12,iv (p.as.l.length:Nat)),(13,iv i)]->K .normal ⟨t',IObj.cells [p.ns.v,p.as.v,p.fs.v]::J'⟩) :
  Ex (callN Ftab S m) D out m (i84.body.sub [1,0,1,0,0,1,1,0,0,1,1,1]) K ⟨t,IObj.cells [p.ns.v,p.as.v,p.fs.v]::(J++[.cells [.int .i64 x.id,.int .i64 x.fr,.int .i64 x.to,x.via.v,.int .i64 x.l,.int .i64 x.r],.free])⟩:=by
 simp only [V3] at hfr
 have hqf:=q'.few
 have e1:wrapI .i64 ((q'.l.length:Int) - 1)=((q'.l.length - 1:Nat):Int):=we
 simp only [i84,IC.sub,V0,sevalprocAttr,hfr,z8,yf,st_end2,YB,e1]
 refine zb (fun jj st=>∃ (k:Nat) (J2:yLO) (lv2:IV) (xs2:List (Sg × Nat)),q'.l.length - 1 - k<=jj/\k<=q'.l.length - 1/\OwnJ (bdG D) 2 D 1 J2 lv2 xs2/\LinesOK J2 xs2/\(xs2.length<=xs.length+k/\NoEq q'.l k/\xs2.map (fun x=>x.1.sp)=xs.map (fun x=>x.1.sp)++(spsOf x q'.l).take k)/\J2[J.length+2]?=some (.cells (lineC x q'))/\st.own=IObj.cells [p.ns.v,p.as.v,p.fs.v]::J2/\Slots 67 st.t [(1,.ptrM D 0 0),(2,lv2),(3,.bool false),(6,q'.v),(8,.ptrM D (J.length+2+1) 0),(11,p.as.v),(12,iv (p.as.l.length:Nat)),(13,iv i),(44,iv (q'.l.length - 1:Nat)),(45,iv k)]) (q'.l.length - 1) (by omega) ⟨0,_,lv,xs,by omega,by omega,hO.more _,hL.more,⟨by omega,fun i hi=>absurd hi (Nat.not_lt_zero _),by simp⟩,YB,rfl,by simp only [V0,sevalprocAttr,hfr,zcp,e1]⟩ ?_
 clear hfr
 rintro jj ⟨t,own1⟩ KB ⟨k,J2,lv2,xs2,hjj,hk,hO2,hL2,⟨hx2,hne0,hsp⟩,hln,ho,hfr⟩ hnB heB hrB
 dsimp only at ho hfr
 subst ho
 simp only [V3] at hfr
 by_cases h:k<q'.l.length - 1
 ·have h0:k<q'.l.length:=by omega
  have h1:k+1<q'.l.length:=by omega
  obtain ⟨y0,hx0⟩:=gx (l:=q'.l) (i:=k) h0
  obtain ⟨y1,hx1⟩:=gx (l:=q'.l) (i:=k+1) h1
  have r0:rdN (q'.l.flatMap Pt.c) (k*2) 2=some [.int .i64 y0.x,.int .i64 y0.y]:=(zc (sz:=2) (fun _=>rfl) 0 2 hx0 (by omega)).trans rfl
  have r1:rdN (q'.l.flatMap Pt.c) ((k+1)*2) 2=some [.int .i64 y1.x,.int .i64 y1.y]:=(zc (sz:=2) (fun _=>rfl) 0 2 hx1 (by omega)).trans rfl
  have hw:wrapI .i64 ((k:Int)+1)=((k+1:Nat):Int):=we
  have hlen3:=hxl
  cases hq1:ptE y0 y1
  ·have hq':=hq1
   unfold ptE at hq'
   obtain ⟨e,lv3,J3,happ,hO3,hkeep⟩:=ownJ_app2 (Pre:=[IObj.cells [p.ns.v,p.as.v,p.fs.v]]) (n0:=J2.length+1) (slot:=0) (k:=0) (out:=out) (R:=[.free]) (bdG_len D) hO2 (ys:=[(⟨x,q',k,h1⟩,J.length+2+1)]) (by simp) (by simp only [zcr,zc7]; omega) (by simp only [zcr,zc7]; omega) rfl rfl
   simp only [zc5,zdh,zdc,zec,bdG,zcr,zc7,zd0,zde] at happ
   simp only [V0,sevalprocAttr,hfr,h,za q' h0,za q' h1,r0,r1,hw,zI,hq',zcz]
   refine ⟨by simp [comm],?_⟩
   simp only [V0,sevalprocAttr,hfr,zI,hq',zcz,cells_pm,rep1,zp,zB,zJ,cellsI_2,happ,hw]
   have keep:∀ (j:Nat) (z:IObj),J2[j]?=some z->z≠IObj.cells (xs2.flatMap (bdG D))->J3[j]?=some z:=fun j z hj hz=>by
    have hlt:=(zcf.1 hj).1
    exact hkeep j z (by omega) (by rw [zco hlt]; exact hj) (.inr hz)
   have hln3:=keep _ _ hln line_ne
   refine hnB _ (q'.l.length - 1 - (k+1)) (by omega) ⟨k+1,J3,lv3,_,by omega,by omega,hO3,?_,⟨by simp only [zc8,zcr,zc7]; omega,hne0.next hx0 hx1 hq1,?_⟩,hln3,rfl,by simp only [V0,sevalprocAttr,hfr,hw,zI,hq',zcz]⟩
   ·intro sb hsb
    rcases List.mem_append.1 hsb with hsb | hsb
    ·exact (hL2.keep keep) sb hsb
    ·simp only [zdn,zdx,or_false] at hsb
     subst hsb
     exact ⟨by simp,by simpa using hln3⟩
   ·have e0:q'.l[k]'h0=y0:=by rw [zce h0] at hx0; exact zdj hx0
    have e1:q'.l[k+1]'h1=y1:=by rw [zce h1] at hx1; exact zdj hx1
    have hs1:(⟨x,q',k,h1⟩:Sg).sp=⟨x.id,x.fr,x.to,k,q'.l.length - 1,y0,y1⟩:=by simp [Sg.sp,Sg.p0,Sg.p1,e0,e1]
    rw [List.map_append,hsp,zdg,spsOf_at hx0 hx1,zdo,List.map_nil,hs1]
  ·have hq':=hq1
   unfold ptE at hq'
   simp only [V0,sevalprocAttr,hfr,h,za q' h0,za q' h1,r0,r1,hw,zI,hq',zcz]
   refine ⟨by simp [comm],?_⟩
   simp only [V0,sevalprocAttr,hfr,zI,hq',zcz]
   refine hrB _ ?_
   exact hR _ _ (anyEq_hit hx0 hx1 hq1) (by simp only [V0,sevalprocAttr,hfr])
 ·simp only [V0,sevalprocAttr,hfr,h]
  refine heB _ _ ?_
  simp only [V0,sevalprocAttr,hfr]
  exact hK _ _ _ _ hO2 hL2 (by omega) ⟨hne0.done (by omega),by rw [hsp,zcm (by rw [spsOf_len]; omega)]⟩ (by simp only [V0,sevalprocAttr,hfr])
theorem at_segs (hS:NoS S) (p:Pn) (hv:∀ a∈p.as.l,a.via.l.length<=64) (ha:p.as.l.length<=1000):∃ N,∀ m,N<=m->∀ d out ownV own id,own[id]?=some .free->∃ r,callN Ftab S m d out ownV own id 84 [.agg p.c]=some r/\SegsR p d id own r:=by
 have hfv:FewVia p:=fun a h=>by have:=hv a h; omega
 have hviaD:∀ id,(arcD p id).via.l.length<=64:=fun id=>by
  unfold arcD
  cases hf:arcF p id with
  | none=>simp [zAc,nilS]
  | some a=>exact hv a (List.mem_of_find?_eq_some hf)
 have hpath:∀ a∈p.as.l,∃ N,∀ m,N<=m->∃ q':SlOf 2 Pt.c,(pathOk p a.id=true->q'.l=pathL p a.id)/\∀ d out ownV own id,callN Ftab S m d out ownV own id 20 [.agg p.c,iv a.id]=some (.r,.tuple [q'.v,iv (bif pathOk p a.id then 0 else 7)],own):=fun a _=>by
  obtain ⟨q',h1,N,h2⟩:=zbt hS p a.id hfv
  exact ⟨N,fun m hm=>⟨q',h1,h2 m hm⟩⟩
 obtain ⟨Np,hNp⟩:=unif p.as.l hpath
 refine ⟨Np+p.as.l.length+100,fun m hm d out ownV own id hid=>?_⟩
 obtain ⟨m,rfl⟩:∃ q,m=q+1:=⟨m - 1,by omega⟩
 refine zbw (i:=i84) (ns hS (by rfl)) rfl (by decide) (lb rfl) fun t hfr=>?_
 simp only [V2,Nat.reduceAdd,i84,Pn.c] at hfr
 generalize (fun l=>if l=d then ownV else out l:yLM)=out2
 obtain ⟨m,rfl⟩:∃ q,m=q+6:=⟨m - 6,by omega⟩
 have hnil:∀ (o:yLO) (b:Bool),leave (m+6) d o own id 1 (.tuple [.nilsl,.bool b])=some (.r,.tuple [.nilsl,.bool b],own):=fun o b=>by simp [leave,freeze]
 have haf:=p.as.few
 have hT0:=fun (x:Ac) (q':SlOf 2 Pt.c) {i:Nat}=>@segs_tail S hS p x q' (m+6) (d+1) i out2
 rw [show i84.body=.seq (i84.body.sub [0]) (.seq (.seq (i84.body.sub [1,0,0]) (.block 0 (.loop (.seq (i84.body.sub [1,0,1,0,0,0]) (.seq (i84.body.sub [1,0,1,0,0,1,0]) (.seq (.block 1 (.seq (i84.body.sub [1,0,1,0,0,1,1,0,0,0]) (.seq (i84.body.sub [1,0,1,0,0,1,1,0,0,1,0]) (.seq (i84.body.sub [1,0,1,0,0,1,1,0,0,1,1,0]) (i84.body.sub [1,0,1,0,0,1,1,0,0,1,1,1]))))) (i84.body.sub [1,0,1,0,0,1,1,1]))))))) (i84.body.sub [1,1])) from rfl]
 generalize i84.body.sub [1,0,1,0,0,1,1,0,0,1,1,1]=T at hT0 ⊢
 simp only [i84,IC.sub,V0,sevalprocAttr,hfr]
 refine zb (fun jj st=>∃ (i:Nat) (J:yLO) (lv:IV) (xs:List (Sg × Nat)),p.as.l.length - i<=jj/\i<=p.as.l.length/\OwnJ (bdG (d+1)) 2 (d+1) 1 J lv xs/\LinesOK J xs/\(xs.length<=i*100/\((p.as.l.take i).any (badA p)=false/\xs.map (fun x=>x.1.sp)=(p.as.l.take i).flatMap fun a=>spsOf a (pathL p a.id)))/\st.own=.cells [p.ns.v,p.as.v,p.fs.v]::J/\Slots 67 st.t [(1,.ptrM (d+1) 0 0),(2,lv),(3,.bool false),(11,p.as.v),(12,iv (p.as.l.length:Nat)),(13,iv i)]) p.as.l.length (by omega) ⟨0,[],.nilsl,[],by omega,by omega,.inl ⟨rfl,rfl⟩,fun _ h=>by simp at h,⟨by simp,by simp⟩,rfl,by simp only [V0,sevalprocAttr,hfr,zcp]⟩ ?_
 clear hfr
 rintro jj ⟨t,own1⟩ KA ⟨i,J,lv,xs,hjj,hi,hO,hL,⟨hx1,hbd,hsp⟩,ho,hfr⟩ hnA heA hrA
 dsimp only at ho hfr
 subst ho
 simp only [V3] at hfr
 by_cases h:i<p.as.l.length
 ·have hx:p.as.l[i]?=some p.as.l[i]:=zce h
  obtain ⟨q',hq1,hq2⟩:=hNp _ (zdr h) (m+6) (by omega)
  have hmx:p.as.l[i]∈p.as.l:=zdr h
  generalize p.as.l[i]=x at hx hq1 hq2 hmx
  have hbad:badA p x=true->p.as.l.any (badA p)=!false:=fun hb=>List.any_eq_true.2 ⟨x,hmx,hb⟩
  have hstep:badA p x=false->(p.as.l.take (i+1)).any (badA p)=false:=fun hb=>by
   rw [zdv,hx,zd2,List.any_append,hbd]
   simp [hb]
  have hsstep:(p.as.l.take (i+1)).flatMap (fun a=>spsOf a (pathL p a.id))=(p.as.l.take i).flatMap (fun a=>spsOf a (pathL p a.id))++spsOf x (pathL p x.id):=by
   rw [zdv,hx,zd2,zed]
   simp
  have hrd:rdN (p.as.l.flatMap Ac.c) (i*6) 6=some [.int .i64 x.id,.int .i64 x.fr,.int .i64 x.to,x.via.v,.int .i64 x.l,.int .i64 x.r]:=(zc Ac.c_len 0 6 hx (by omega)).trans rfl
  have hw:wrapI .i64 ((i:Int)+1)=((i+1:Nat):Int):=we
  simp only [zo,Pn.c] at hq2
  have hbne:∀ z:Int,(z != 0)=!(z==0):=fun z=>rfl
  cases hp:pathOk p x.id
  ·have h70:(((7:Int))==0)=false:=by decide
   simp only [hp,cond_false] at hq2
   simp only [V0,sevalprocAttr,hfr,h,za p.as h,hrd,z8,yf,hq2,hbne,h70]
   refine hrA _ ?_
   simp only [V0,sevalprocAttr,hfr]
   exact ⟨by simp,_,_,rfl,hnil _ _,.inl ⟨false,rfl,hbad (by simp [badA,hp]),fun h=>by cases h⟩⟩
  ·have h00:(((0:Int))==0)=true:=by decide
   simp only [hp,cond_true] at hq2
   have hql:=hq1 hp
   have hq3:2<=q'.l.length/\q'.l.length<=66:=by
    rw [hql]
    have:=hviaD x.id
    simp [pathL]
    omega
   have hT:=fun {i:Nat}=>@hT0 x q' i
   cases hft:x.fr==x.to
   ·simp only [V0,sevalprocAttr,hfr,h,za p.as h,hrd,z8,yf,hq2,hbne,h00,hft]
    refine hT (i:=i) (by omega) hq3 _ J lv xs hO hL (by omega) (by simp only [V0,sevalprocAttr,hfr]) (fun t' O' hae ht'=>?_) (fun t' J' lv' xs' hO' hL' hx' hae ht'=>?_)
    ·simp only [ze,zg] at ht'
     simp only [V0,sevalprocAttr,ht']
     refine hrA _ ?_
     simp only [V0,sevalprocAttr,ht']
     exact ⟨by simp,_,_,rfl,hnil _ _,.inl ⟨false,rfl,hbad (by rw [hql] at hae; simp [badA,hae]),fun h=>by cases h⟩⟩
    ·simp only [V3] at ht'
     simp only [V0,sevalprocAttr,ht',hw]
     exact hnA _ (p.as.l.length - (i+1)) (by omega) ⟨i+1,J',lv',xs',by omega,by omega,hO',hL',⟨by omega,hstep (by rw [hql] at hae; simp [badA,hp,hft,hae.1]),by rw [hae.2,hsp,hsstep,hql]⟩,rfl,by simp only [V0,sevalprocAttr,ht',hw]⟩
   ·by_cases h4:(q'.l.length:Int)<4
    ·simp only [V0,sevalprocAttr,hfr,h,za p.as h,hrd,z8,yf,hq2,hbne,h00,hft,h4]
     refine hrA _ ?_
     simp only [V0,sevalprocAttr,hfr]
     exact ⟨by simp,_,_,rfl,hnil _ _,.inl ⟨false,rfl,hbad (badA_short hft (by rw [hql] at h4; omega)),fun h=>by cases h⟩⟩
    ·simp only [V0,sevalprocAttr,hfr,h,za p.as h,hrd,z8,yf,hq2,hbne,h00,hft,h4]
     refine hT (i:=i) (by omega) hq3 _ J lv xs hO hL (by omega) (by simp only [V0,sevalprocAttr,hfr]) (fun t' O' hae ht'=>?_) (fun t' J' lv' xs' hO' hL' hx' hae ht'=>?_)
     ·simp only [ze,zg] at ht'
      simp only [V0,sevalprocAttr,ht']
      refine hrA _ ?_
      simp only [V0,sevalprocAttr,ht']
      exact ⟨by simp,_,_,rfl,hnil _ _,.inl ⟨false,rfl,hbad (by rw [hql] at hae; simp [badA,hae]),fun h=>by cases h⟩⟩
     ·simp only [V3] at ht'
      simp only [V0,sevalprocAttr,ht',hw]
      exact hnA _ (p.as.l.length - (i+1)) (by omega) ⟨i+1,J',lv',xs',by omega,by omega,hO',hL',⟨by omega,hstep (by rw [hql] at h4 hae; exact badA_not hp (by omega) hae.1),by rw [hae.2,hsp,hsstep,hql]⟩,rfl,by simp only [V0,sevalprocAttr,ht',hw]⟩
 ·simp only [V0,sevalprocAttr,hfr,h]
  refine heA _ _ ?_
  have hO2:=hO
  have hil:p.as.l.take i=p.as.l:=zcm (by omega)
  rw [hil] at hbd hsp
  rcases hO with ⟨rfl,rfl⟩ | ⟨b,hne,rfl,hb⟩
  ·simp only [V0,sevalprocAttr,hfr]
   exact ⟨by simp,_,_,rfl,hnil _ _,.inl ⟨true,rfl,hbd,fun _=>hsp.symm⟩⟩
  ·simp only [V0,sevalprocAttr,hfr]
   refine ⟨by simp,_,_,rfl,?_,.inr ⟨xs.map Prod.fst,by simpa using hne,?_,⟨hbd,by rw [List.map_map]; exact hsp⟩,rfl⟩⟩
   ·have hb1:(IObj.cells [p.ns.v,p.as.v,p.fs.v]::J)[1+b]?=some (.cells (xs.flatMap (bdG (d+1)))):=by rw [Nat.add_comm,zc1]; exact hb
    have hl2:∀ sb∈xs,(IObj.cells [p.ns.v,p.as.v,p.fs.v]::J)[sb.2]?=some (.cells (lineC sb.1.a sb.1.path)):=fun sb hs=>by
     obtain ⟨g1,g2⟩:=hL sb hs
     rw [show sb.2=sb.2 - 1+1 by omega,zc1]
     exact g2
    have:=leave_segs (n:=m+6) (b:=true) (by omega) hb1 hl2 hid
    rw [zd1]
    exact this
   ·rw [zd1]
    have:i=p.as.l.length:=by omega
    rw [← this]
    exact hx1
end
end
section
section
variable {B R Q:yLO} {j c i:Nat} {w x:IObj} {vis:List Nat}
theorem zm:(B++(R++Q))[B.length+(R.length+j)]?=Q[j]?:=by
 rw [zct (by omega),zds,zct (by omega),zds]
theorem zh:(B++(R++Q))[B.length+R.length]?=Q[0]?:=zm (j:=0)
theorem zn:(B++(R++Q)).set (B.length+(R.length+j)) w=B++(R++Q.set j w):=by
 rw [List.set_append_right _ _ (by omega),zds,List.set_append_right _ _ (by omega),zds]
theorem zi:(B++(R++Q)).set (B.length+R.length) w=B++(R++Q.set 0 w):=zn (j:=0)
theorem yu (h:j<c):(hide vis (B.length+(R.length+c)) (B++(R++Q)))[B.length+(R.length+j)]?=Q[j]?:=by
 rw [zy,zm,decide_eq_true (show B.length+(R.length+j)<B.length+(R.length+c) by omega)]
 simp
theorem yo (h:0<c):(hide vis (B.length+(R.length+c)) (B++(R++Q)))[B.length+R.length]?=Q[0]?:=yu (j:=0) h
theorem zag (h:B[i]?=some x):(B++R)[i]?=some x:=by
 rw [zco (zcf.1 h).1]
 exact h
theorem b_hide (h:B[i]?=some x):(hide vis (B.length+c) (B++R))[i]?=some x:=by
 have hl:=(zcf.1 h).1
 rw [zy,zag h,decide_eq_true (show i<B.length+c by omega)]
 simp
end
noncomputable def ndBad (s:Sp) (x:Nd):Bool:=onI s.A s.B x.at'&&(!((s.k:Int)==0&&s.fr==x.id)&&!((s.k:Int)==((s.n - 1:Nat):Int)&&s.to==x.id))
section
variable {S:ySM}
theorem pl_nodes (hS:NoS S) (p:Pn) (s:Sg) {m D si:Nat} {out:yLM} (hm:p.ns.l.length+20<=m) {K:yKM} (t:List IV) (B R:yLO) (lv mp lv2 nn ii:IV) (h0:B[0]?=some (.cells [p.ns.v,p.as.v,p.fs.v])) (hsi:B[si]?=some (.cells s.g))
  (hfr:Slots 117 t [(1,.ptrM D 0 0),(9,.ptrM D si 0),(3,lv),(5,mp),(39,lv2),(40,nn),(41,ii)])
  (hR:∀ t' O',(∃ x∈p.ns.l,ndBad s.sp x=true)->Slots 117 t' [(2,.bool false)]->K .ret ⟨t',O'⟩)
  (hK:∀ t' R',(∀ x∈p.ns.l,ndBad s.sp x=false)->Slots 117 t' [(1,.ptrM D 0 0),(3,lv),(5,mp),(39,lv2),(40,nn),(41,ii)]->K .normal ⟨t',B++R'⟩) :
  Ex (callN Ftab S m) D out m (i54.body.sub [1,1,1,1,1,1,0,1,0,0,1,1,0,0,1,1]) K ⟨t,B++R⟩:=by
 simp only [V3] at hfr
 have hnf:=p.ns.few
 simp only [Sg.g,lineC] at hsi
 have g0:∀ R,(B++R)[0]?=some (.cells [p.ns.v,p.as.v,p.fs.v]):=fun R=>zag h0
 have gs:∀ R,(B++R)[si]?=some (.cells [.ptrC [.int .i64 s.a.id,.int .i64 s.a.fr,.int .i64 s.a.to,s.a.via.v,.int .i64 s.a.l,.int .i64 s.a.r,s.path.v] 0,.int .i64 (s.k:Int)]):=fun R=>zag hsi
 have gh:∀ vis c R,(hide vis (B.length+c) (B++R))[si]?=some (.cells [.ptrC [.int .i64 s.a.id,.int .i64 s.a.fr,.int .i64 s.a.to,s.a.via.v,.int .i64 s.a.l,.int .i64 s.a.r,s.path.v] 0,.int .i64 (s.k:Int)]):=fun vis c R=>b_hide hsi
 have ce:=YJ hS s m (by omega)
 have cf:=at_first hS s m (by omega)
 have cl:=at_last hS s m (by omega)
 have co:∀ (u v w:Pt) d out ownV own i,callN Ftab S m d out ownV own i 92 [.agg [.int .i64 u.x,.int .i64 u.y],.agg [.int .i64 v.x,.int .i64 v.y],.agg [.int .i64 w.x,.int .i64 w.y]]=some (.r,.bool (onI u v w),own):=fun u v w d out ownV own i=>at_on hS u v w m (by omega) d out ownV own i
 simp only [Sg.g,lineC,Pt.c,zo] at ce cf cl
 simp only [i54,IC.sub,V0,sevalprocAttr,zcv,zm,zh,zn,zi,hfr,g0]
 refine zb (fun jj st=>∃ (k:Nat) (R:yLO),p.ns.l.length - k<=jj/\(k<=p.ns.l.length/\∀ i x,i<k->p.ns.l[i]?=some x->ndBad s.sp x=false)/\st.own=B++R/\Slots 117 st.t [(1,.ptrM D 0 0),(9,.ptrM D si 0),(3,lv),(5,mp),(39,lv2),(40,nn),(41,ii),(67,p.ns.v),(68,iv (p.ns.l.length:Nat)),(69,iv k)]) p.ns.l.length (by omega) ⟨0,_,by omega,⟨by omega,fun i x h=>absurd h (Nat.not_lt_zero _)⟩,rfl,by simp only [V0,sevalprocAttr,zcv,zm,zh,zn,zi,hfr,zcp]⟩ ?_
 clear hfr
 rintro jj ⟨t,own1⟩ KB ⟨k,R,hjj,⟨hk,hbd⟩,ho,hfr⟩ hnB heB hrB
 dsimp only at ho hfr
 subst ho
 simp only [V3] at hfr
 by_cases h:k<p.ns.l.length
 ·obtain ⟨x,hx⟩:=gx (l:=p.ns.l) (i:=k) h
  have hrd:rdN (p.ns.l.flatMap Nd.c) (k*3) 3=some [.int .i64 x.id,.int .i64 x.at'.x,.int .i64 x.at'.y]:=(zc Nd.c_len 0 3 hx (by omega)).trans rfl
  have hw:wrapI .i64 ((k:Int)+1)=((k+1:Nat):Int):=we
  have hm:x∈p.ns.l:=zdq hx
  have hst:ndBad s.sp x=false->∀ i y,i<k+1->p.ns.l[i]?=some y->ndBad s.sp y=false:=fun hb i y hi hy=>by
   by_cases hik:i=k
   ·subst hik
    rw [hx] at hy
    cases hy
    exact hb
   ·exact hbd i y (by omega) hy
  have hn1:s.path.l.length - 1 - 1=s.path.l.length - 2:=by omega
  cases o:onI s.p0 s.p1 x.at'
  ·skip
   simp only [V0,sevalprocAttr,zcv,zm,zh,zn,zi,hfr,h,za p.ns h,hrd,g0,gs,gh,yu,yo,ce,cf,cl,co,o]
   refine ⟨by simp [comm],?_⟩
   simp only [V0,sevalprocAttr,zcv,zm,zh,zn,zi,hfr,hw]
   exact hnB _ (p.ns.l.length - (k+1)) (by omega) ⟨k+1,_,by omega,⟨by omega,hst (by simp [ndBad,Sg.sp,hn1,o])⟩,rfl,by simp only [V0,sevalprocAttr,zcv,zm,zh,zn,zi,hfr,hw,o]⟩
  ·cases f:(s.k:Int)==0
   ·skip
    cases l:(s.k:Int)==((s.path.l.length - 2:Nat):Int)
    ·skip
     simp only [V0,sevalprocAttr,zcv,zm,zh,zn,zi,hfr,h,za p.ns h,hrd,g0,gs,gh,yu,yo,ce,cf,cl,co,o,f,l]
     refine ⟨by simp [comm],?_⟩
     simp only [V0,sevalprocAttr,zcv,zm,zh,zn,zi,hfr]
     refine hrB _ ?_
     exact hR _ _ ⟨x,hm,by simp [ndBad,Sg.sp,hn1,o,f,l]⟩ (by simp only [V0,sevalprocAttr,zcv,zm,zh,zn,zi,hfr])
    ·cases e2:s.a.to==x.id
     ·skip
      simp only [V0,sevalprocAttr,zcv,zm,zh,zn,zi,hfr,h,za p.ns h,hrd,g0,gs,gh,yu,yo,ce,cf,cl,co,o,f,l,e2]
      refine ⟨by simp [comm],?_⟩
      simp only [V0,sevalprocAttr,zcv,zm,zh,zn,zi,hfr]
      refine hrB _ ?_
      exact hR _ _ ⟨x,hm,by simp [ndBad,Sg.sp,hn1,o,f,l,e2]⟩ (by simp only [V0,sevalprocAttr,zcv,zm,zh,zn,zi,hfr])
     ·skip
      simp only [V0,sevalprocAttr,zcv,zm,zh,zn,zi,hfr,h,za p.ns h,hrd,g0,gs,gh,yu,yo,ce,cf,cl,co,o,f,l,e2]
      refine ⟨by simp [comm],?_⟩
      simp only [V0,sevalprocAttr,zcv,zm,zh,zn,zi,hfr,hw]
      exact hnB _ (p.ns.l.length - (k+1)) (by omega) ⟨k+1,_,by omega,⟨by omega,hst (by simp [ndBad,Sg.sp,hn1,o,f,l,e2])⟩,rfl,by simp only [V0,sevalprocAttr,zcv,zm,zh,zn,zi,hfr,hw,o,f,l,e2]⟩
   ·cases e1:s.a.fr==x.id
    ·skip
     cases l:(s.k:Int)==((s.path.l.length - 2:Nat):Int)
     ·skip
      simp only [V0,sevalprocAttr,zcv,zm,zh,zn,zi,hfr,h,za p.ns h,hrd,g0,gs,gh,yu,yo,ce,cf,cl,co,o,f,e1,l]
      refine ⟨by simp [comm],?_⟩
      simp only [V0,sevalprocAttr,zcv,zm,zh,zn,zi,hfr]
      refine hrB _ ?_
      exact hR _ _ ⟨x,hm,by simp [ndBad,Sg.sp,hn1,o,f,e1,l]⟩ (by simp only [V0,sevalprocAttr,zcv,zm,zh,zn,zi,hfr])
     ·cases e2:s.a.to==x.id
      ·skip
       simp only [V0,sevalprocAttr,zcv,zm,zh,zn,zi,hfr,h,za p.ns h,hrd,g0,gs,gh,yu,yo,ce,cf,cl,co,o,f,e1,l,e2]
       refine ⟨by simp [comm],?_⟩
       simp only [V0,sevalprocAttr,zcv,zm,zh,zn,zi,hfr]
       refine hrB _ ?_
       exact hR _ _ ⟨x,hm,by simp [ndBad,Sg.sp,hn1,o,f,e1,l,e2]⟩ (by simp only [V0,sevalprocAttr,zcv,zm,zh,zn,zi,hfr])
      ·skip
       simp only [V0,sevalprocAttr,zcv,zm,zh,zn,zi,hfr,h,za p.ns h,hrd,g0,gs,gh,yu,yo,ce,cf,cl,co,o,f,e1,l,e2]
       refine ⟨by simp [comm],?_⟩
       simp only [V0,sevalprocAttr,zcv,zm,zh,zn,zi,hfr,hw]
       exact hnB _ (p.ns.l.length - (k+1)) (by omega) ⟨k+1,_,by omega,⟨by omega,hst (by simp [ndBad,Sg.sp,hn1,o,f,e1,l,e2])⟩,rfl,by simp only [V0,sevalprocAttr,zcv,zm,zh,zn,zi,hfr,hw,o,f,e1,l,e2]⟩
    ·skip
     simp only [V0,sevalprocAttr,zcv,zm,zh,zn,zi,hfr,h,za p.ns h,hrd,g0,gs,gh,yu,yo,ce,cf,cl,co,o,f,e1]
     refine ⟨by simp [comm],?_⟩
     simp only [V0,sevalprocAttr,zcv,zm,zh,zn,zi,hfr,hw]
     exact hnB _ (p.ns.l.length - (k+1)) (by omega) ⟨k+1,_,by omega,⟨by omega,hst (by simp [ndBad,Sg.sp,hn1,o,f,e1])⟩,rfl,by simp only [V0,sevalprocAttr,zcv,zm,zh,zn,zi,hfr,hw,o,f,e1]⟩
 ·simp only [V0,sevalprocAttr,zcv,zm,zh,zn,zi,hfr,h]
  refine heB _ _ ?_
  simp only [V0,sevalprocAttr,zcv,zm,zh,zn,zi,hfr]
  exact hK _ _ (fun x hx=>by
   obtain ⟨i,hi⟩:=List.getElem?_of_mem hx
   exact hbd i x (by have:=(zcf.1 hi).1; omega) hi) (by simp only [V0,sevalprocAttr,zcv,zm,zh,zn,zi,hfr])
end
end
section
section
variable {S:ySM}
theorem slice_from {D n i:Nat} (h:i+1<=n) (t:List IV) (x:Opd) (hx:ρ t x=.int .i64 ((i+1:Nat):Int)):sliceI 2 t (.slM D 1 0 n n 2 false) (some x) none none=some (.slM D 1 ((i+1)*2) (n - (i+1)) (n - (i+1)) 2 false):=by
 simp only [sliceI,optI,hx,yg]
 rw [if_pos ⟨⟨zcs _,zcs _,h⟩,trivial⟩]
 simp
def PairsOK (L:List (Int × Pt)) (l:List Sg) (i:Nat) (s:Sg):Prop:=∀ j u,i<j->l[j]?=some u->compB L s u=true∨∃ j' u',i<j'/\j'<=j/\l[j']?=some u'/\s.ea<u'.w
def PairBad (L:List (Int × Pt)) (l:List Sg) (i:Nat) (s:Sg):Prop:=∃ j u,i<j/\l[j]?=some u/\compB L s u=false
theorem pl_pairs (hS:NoS S) (p:Pn) (l:List Sg) (s:Sg) (L:List (Int × Pt)) (bs:List Nat) (ck:Nat) {m D si i:Nat} {out:yLM} (hm:l.length+30<=m) (hl:l.length<65536) (hi:i<l.length) {K:yKM} (t:List IV) (B R:yLO) (lv2 nn ii:IV) (h1:B[1]?=some (.cells (l.flatMap Sg.g))) (h2:B[2]?=some (.map (ptKs L) (ptVs L) bs ck)) (hsi:B[si]?=some (.cells s.g))
  (hfr:Slots 117 t [(1,.ptrM D 0 0),(8,iv i),(9,.ptrM D si 0),(3,.slM D 1 0 l.length l.length 2 false),(5,.mapM D 2),(39,lv2),(40,nn),(41,ii)])
  (hR:∀ t' O',PairBad L l i s->Slots 117 t' [(2,.bool false)]->K .ret ⟨t',O'⟩)
  (hK:∀ t' R',PairsOK L l i s->Slots 117 t' [(1,.ptrM D 0 0),(9,.ptrM D si 0),(3,.slM D 1 0 l.length l.length 2 false),(5,.mapM D 2),(39,lv2),(40,nn),(41,ii)]->K .normal ⟨t',B++R'⟩) :
  Ex (callN Ftab S m) D out m (i54.body.sub [1,1,1,1,1,1,0,1,0,0,1,1,0,0,1,0]) K ⟨t,B++R⟩:=by
 simp only [V3] at hfr
 have c3:∀ (u:Sg) R own id,callN Ftab S m D out (B++R) own id 90 [.agg s.g,.agg u.g,.mapM D 2]=some (.r,.bool (compB L s u),own):=fun u R own id=>at_comp hS s u L (bs:=bs) (ck:=ck) (by omega) (zag h2)
 simp only [Sg.g,lineC] at hsi c3
 have g1:∀ R,(B++R)[1]?=some (.cells (l.flatMap Sg.g)):=fun R=>zag h1
 have gs:∀ R,(B++R)[si]?=some (.cells [.ptrC [.int .i64 s.a.id,.int .i64 s.a.fr,.int .i64 s.a.to,s.a.via.v,.int .i64 s.a.l,.int .i64 s.a.r,s.path.v] 0,.int .i64 (s.k:Int)]):=fun R=>zag hsi
 have gh:∀ vis c R,(hide vis (B.length+c) (B++R))[si]?=some (.cells [.ptrC [.int .i64 s.a.id,.int .i64 s.a.fr,.int .i64 s.a.to,s.a.via.v,.int .i64 s.a.l,.int .i64 s.a.r,s.path.v] 0,.int .i64 (s.k:Int)]):=fun vis c R=>b_hide hsi
 have cw:=fun (u:Sg) d out ownV own i=>at_west hS u m (by omega) d out ownV own i
 have cea:=at_east hS s m (by omega)
 simp only [Sg.g,lineC] at cw cea
 have hwi:wrapI .i64 ((i:Int)+1)=((i+1:Nat):Int):=we
 have hsl:=slice_from (D:=D) (n:=l.length) (i:=i) (by omega)
 simp only [i54,IC.sub,V0,sevalprocAttr,zcv,zm,zh,zn,zi,hfr,hwi,zbh,hsl]
 refine zb (fun jj st=>∃ (k:Nat) (R:yLO),l.length - (i+1) - k<=jj/\(k<=l.length - (i+1)/\∀ j u,i<j->j<i+1+k->l[j]?=some u->compB L s u=true)/\st.own=B++R/\Slots 117 st.t [(1,.ptrM D 0 0),(9,.ptrM D si 0),(3,.slM D 1 0 l.length l.length 2 false),(5,.mapM D 2),(39,lv2),(40,nn),(41,ii),(49,.slM D 1 ((i+1)*2) (l.length - (i+1)) (l.length - (i+1)) 2 false),(50,iv (l.length - (i+1):Nat)),(51,iv k)]) (l.length - (i+1)) (by omega) ⟨0,_,by omega,⟨by omega,fun j u h1 h2=>absurd h2 (by omega)⟩,rfl,by simp only [V0,sevalprocAttr,zcv,zm,zh,zn,zi,hfr,zcp,hwi,hsl]⟩ ?_
 clear hfr
 rintro jj ⟨t,own1⟩ KB ⟨k,R,hjj,⟨hk,hok⟩,ho,hfr⟩ hnB heB hrB
 dsimp only at ho hfr
 subst ho
 simp only [V3] at hfr
 by_cases h:k<l.length - (i+1)
 ·have hx:l[i+1+k]?=some (l[i+1+k]'(by omega)):=zce (by omega)
  generalize l[i+1+k]'(by omega)=u at hx
  have ldu:(rdN (l.flatMap Sg.g) ((i+1)*2+k*2) 2).bind (mkv true)=some (.agg [.ptrC [.int .i64 u.a.id,.int .i64 u.a.fr,.int .i64 u.a.to,u.a.via.v,.int .i64 u.a.l,.int .i64 u.a.r,u.path.v] 0,.int .i64 (u.k:Int)]):=by
   have:=sg_elt.ld hx
   rw [Nat.add_mul] at this
   exact this
  have hw:wrapI .i64 ((k:Int)+1)=((k+1:Nat):Int):=we
  have cwu:=cw u
  have ccu:=c3 u
  by_cases hgt:s.ea<u.w
  ·simp only [V0,sevalprocAttr,zcv,zm,zh,zn,zi,hfr,h,ye,g1,ldu]
   simp only [V0,sevalprocAttr,zcv,zm,zh,zn,zi,hfr,gs,gh,yu,yo,cwu,cea,gt_iff_lt,hgt]
   refine ⟨by simp [comm],?_⟩
   simp only [V0,sevalprocAttr,zcv,zm,zh,zn,zi,hfr]
   refine heB _ _ ?_
   simp only [V0,sevalprocAttr,zcv,zm,zh,zn,zi,hfr]
   exact hK _ _ (fun j v h1 hv=>by
    by_cases hj:j<i+1+k
    ·exact .inl (hok j v h1 hj hv)
    ·exact .inr ⟨i+1+k,u,by omega,by omega,hx,hgt⟩) (by simp only [V0,sevalprocAttr,zcv,zm,zh,zn,zi,hfr,gt_iff_lt,hgt,cwu,cea])
  ·cases hcb:compB L s u
   ·simp only [V0,sevalprocAttr,zcv,zm,zh,zn,zi,hfr,h,ye,g1,ldu]
    simp only [V0,sevalprocAttr,zcv,zm,zh,zn,zi,hfr,gs,gh,yu,yo,cwu,cea,gt_iff_lt,hgt]
    refine ⟨by simp [comm],?_⟩
    simp only [V0,sevalprocAttr,zcv,zm,zh,zn,zi,hfr,gs,ccu,hcb]
    refine hrB _ ?_
    exact hR _ _ ⟨i+1+k,u,by omega,hx,hcb⟩ (by simp only [V0,sevalprocAttr,zcv,zm,zh,zn,zi,hfr])
   ·simp only [V0,sevalprocAttr,zcv,zm,zh,zn,zi,hfr,h,ye,g1,ldu]
    simp only [V0,sevalprocAttr,zcv,zm,zh,zn,zi,hfr,gs,gh,yu,yo,cwu,cea,gt_iff_lt,hgt]
    refine ⟨by simp [comm],?_⟩
    simp only [V0,sevalprocAttr,zcv,zm,zh,zn,zi,hfr,gs,ccu,hcb,hw]
    exact hnB _ (l.length - (i+1) - (k+1)) (by omega) ⟨k+1,_,by omega,⟨by omega,fun j v h1 h2 hv=>by
     by_cases hj:j=i+1+k
     ·subst hj
      rw [hx] at hv
      cases hv
      exact hcb
     ·exact hok j v h1 (by omega) hv⟩,rfl,by simp only [V0,sevalprocAttr,zcv,zm,zh,zn,zi,hfr,hw,hcb,cwu,cea,ccu]⟩
 ·simp only [V0,sevalprocAttr,zcv,zm,zh,zn,zi,hfr,h]
  refine heB _ _ ?_
  simp only [V0,sevalprocAttr,zcv,zm,zh,zn,zi,hfr]
  exact hK _ _ (fun j v h1 hv=>.inl (hok j v h1 (by have:=(zcf.1 hv).1; omega) hv)) (by simp only [V0,sevalprocAttr,zcv,zm,zh,zn,zi,hfr])
end
end
section
section
variable {S:ySM}
def PlRes (p:Pn) (L:List (Int × Pt)) (l:List Sg) (v:Bool):Prop:=(v=true->∀ i s,l[i]?=some s->PairsOK L l i s/\∀ x∈p.ns.l,ndBad s.sp x=false)/\(v=false->∃ i s,l[i]?=some s/\(PairBad L l i s∨∃ x∈p.ns.l,ndBad s.sp x=true))
theorem pl_main (hS:NoS S) (p:Pn) (l:List Sg) (L:List (Int × Pt)) (bs:List Nat) (ck:Nat) {m D:Nat} {out:yLM} (hm:l.length+p.ns.l.length+50<=m) (hl:l.length<65536) {K:yKM} (t:List IV) (B R:yLO) (h0:B[0]?=some (.cells [p.ns.v,p.as.v,p.fs.v])) (h1:B[1]?=some (.cells (l.flatMap Sg.g))) (h2:B[2]?=some (.map (ptKs L) (ptVs L) bs ck))
  (hfr:Slots 117 t [(1,.ptrM D 0 0),(3,.slM D 1 0 l.length l.length 2 false),(5,.mapM D 2)])
  (hF:∀ v t' O',PlRes p L l v->Slots 117 t' [(2,.bool v)]->K .ret ⟨t',O'⟩) :
  Ex (callN Ftab S m) D out m (i54.body.sub [1,1,1,1,1,1]) K ⟨t,B++R⟩:=by
 simp only [V3] at hfr
 have hP1:=fun (s:Sg) {si i:Nat}=>@pl_pairs S hS p l s L bs ck m D si i out (by omega) hl
 have hP2:=fun (s:Sg) {si:Nat}=>@pl_nodes S hS p s m D si out (by omega)
 rw [show i54.body.sub [1,1,1,1,1,1]=.seq (.seq (i54.body.sub [1,1,1,1,1,1,0,0]) (.block 2 (.loop (.seq (i54.body.sub [1,1,1,1,1,1,0,1,0,0,0]) (.seq (i54.body.sub [1,1,1,1,1,1,0,1,0,0,1,0]) (.seq (.block 3 (.seq (i54.body.sub [1,1,1,1,1,1,0,1,0,0,1,1,0,0,0]) (.seq (i54.body.sub [1,1,1,1,1,1,0,1,0,0,1,1,0,0,1,0]) (i54.body.sub [1,1,1,1,1,1,0,1,0,0,1,1,0,0,1,1])))) (i54.body.sub [1,1,1,1,1,1,0,1,0,0,1,1,1]))))))) (i54.body.sub [1,1,1,1,1,1,1]) from rfl]
 generalize i54.body.sub [1,1,1,1,1,1,0,1,0,0,1,1,0,0,1,0]=T1 at hP1 ⊢
 generalize i54.body.sub [1,1,1,1,1,1,0,1,0,0,1,1,0,0,1,1]=T2 at hP2 ⊢
 have g1:∀ R,(B++R)[1]?=some (.cells (l.flatMap Sg.g)):=fun R=>zag h1
 simp only [i54,IC.sub,V0,sevalprocAttr,zcv,zm,zh,zn,zi,hfr]
 refine zb (fun jj st=>∃ (i:Nat) (R:yLO),l.length - i<=jj/\(i<=l.length/\∀ j u,j<i->l[j]?=some u->PairsOK L l j u/\∀ x∈p.ns.l,ndBad u.sp x=false)/\st.own=B++R/\Slots 117 st.t [(1,.ptrM D 0 0),(3,.slM D 1 0 l.length l.length 2 false),(5,.mapM D 2),(39,.slM D 1 0 l.length l.length 2 false),(40,iv (l.length:Nat)),(41,iv i)]) l.length (by omega) ⟨0,_,by omega,⟨by omega,fun j u h=>absurd h (Nat.not_lt_zero _)⟩,rfl,by simp only [V0,sevalprocAttr,zcv,zm,zh,zn,zi,hfr,zcp]⟩ ?_
 clear hfr
 rintro jj ⟨t,own1⟩ KB ⟨i,R,hjj,⟨hi,hok⟩,ho,hfr⟩ hnB heB hrB
 dsimp only at ho hfr
 subst ho
 simp only [V3] at hfr
 by_cases h:i<l.length
 ·obtain ⟨s,hx⟩:=gx (l:=l) (i:=i) h
  have lds:(rdN (l.flatMap Sg.g) (i*2) 2).bind (mkv true)=some (.agg [.ptrC [.int .i64 s.a.id,.int .i64 s.a.fr,.int .i64 s.a.to,s.a.via.v,.int .i64 s.a.l,.int .i64 s.a.r,s.path.v] 0,.int .i64 (s.k:Int)]):=sg_elt.ld hx
  have hw:wrapI .i64 ((i:Int)+1)=((i+1:Nat):Int):=we
  have hB1:∀ j x,B[j]?=some x->(B++(R++[.cells s.g]))[j]?=some x:=fun j x h=>zag h
  have hBs:(B++(R++[.cells s.g]))[B.length+R.length]?=some (.cells s.g):=by rw [zh]; rfl
  simp only [V0,sevalprocAttr,zcv,zm,zh,zn,zi,hfr,h,ye,g1,lds]
  have ho1:(B++(R++[IObj.cells [.ptrC [.int .i64 s.a.id,.int .i64 s.a.fr,.int .i64 s.a.to,s.a.via.v,.int .i64 s.a.l,.int .i64 s.a.r,s.path.v] 0,.int .i64 (s.k:Int)]]))=(B++(R++[.cells s.g]))++[]:=by rw [zd0]; rfl
  rw [ho1]
  refine hP1 s h _ _ [] (.slM D 1 0 l.length l.length 2 false) (.int .i64 (l.length:Nat)) (.int .i64 (i:Nat)) (hB1 1 _ h1) (hB1 2 _ h2) hBs (by simp only [V0,sevalprocAttr,zcv,zm,zh,zn,zi,hfr]) (fun t' O' hbd ht=>?_) fun t' R1 hpk ht=>?_
  ·simp only [ze,zg] at ht
   simp only [V0,sevalprocAttr,ht]
   refine hrB _ ?_
   simp only [V0,sevalprocAttr,ht]
   exact hF false _ _ ⟨fun h=>by (cases h),fun _=>⟨i,s,hx,.inl hbd⟩⟩ (by simp only [V0,sevalprocAttr,ht])
  ·rw [zA]
   refine hP2 s _ _ R1 (.slM D 1 0 l.length l.length 2 false) (.mapM D 2) (.slM D 1 0 l.length l.length 2 false) (.int .i64 (l.length:Nat)) (.int .i64 (i:Nat)) (hB1 0 _ h0) hBs (by simp only [ze,zg] at ht ⊢; simp only [ht,and_self]) (fun t' O' hnb ht=>?_) fun t' R2 hnk ht=>?_
   ·simp only [ze,zg] at ht
    simp only [V0,sevalprocAttr,ht]
    refine hrB _ ?_
    simp only [V0,sevalprocAttr,ht]
    exact hF false _ _ ⟨fun h=>by (cases h),fun _=>⟨i,s,hx,.inr hnb⟩⟩ (by simp only [V0,sevalprocAttr,ht])
   ·simp only [V3] at ht
    simp only [V0,sevalprocAttr,ht,hw]
    exact hnB _ (l.length - (i+1)) (by omega) ⟨i+1,R++(.cells s.g::R2),by omega,⟨by omega,fun j u hj hu=>by
     by_cases hji:j=i
     ·subst hji
      rw [hx] at hu
      cases hu
      exact ⟨hpk,hnk⟩
     ·exact hok j u (by omega) hu⟩,by simp only [zdg,zc5,zdh],by simp only [V0,sevalprocAttr,ht,hw]⟩
 ·simp only [V0,sevalprocAttr,zcv,zm,zh,zn,zi,hfr,h]
  refine heB _ _ ?_
  simp only [V0,sevalprocAttr,zcv,zm,zh,zn,zi,hfr]
  exact hF true _ _ ⟨fun _ j u hu=>hok j u (by have:=(zcf.1 hu).1; omega) hu,fun h=>by (cases h)⟩ (by simp only [V0,sevalprocAttr,zcv,zm,zh,zn,zi,hfr])
theorem pl_nil {m D:Nat} {out:yLM} (hm:2<=m) {K:yKM} (t:List IV) (own:yLO) (hfr:Slots 117 t [(3,.nilsl)]) (hF:∀ t' O',Slots 117 t' [(2,.bool true)]->K .ret ⟨t',O'⟩) :
  Ex (callN Ftab S m) D out m (i54.body.sub [1,1,1,1,1,1]) K ⟨t,own⟩:=by
 simp only [V3] at hfr
 simp only [i54,IC.sub,V0,sevalprocAttr,zcv,zm,zh,zn,zi,hfr]
 refine zb (fun jj st=>Slots 117 st.t [(40,.int .i64 0),(41,.int .i64 0)]) 0 (by omega) (by simp only [V0,sevalprocAttr,zcv,zm,zh,zn,zi,hfr]) ?_
 clear hfr
 rintro jj ⟨t,own1⟩ KB hfr hnB heB hrB
 dsimp only at hfr
 simp only [V3] at hfr
 have h0:((0:Int)<0)=False:=eq_false (by decide)
 simp only [V0,sevalprocAttr,zcv,zm,zh,zn,zi,hfr,h0]
 refine heB _ _ ?_
 simp only [V0,sevalprocAttr,zcv,zm,zh,zn,zi,hfr]
 exact hF _ _ (by simp only [V0,sevalprocAttr,zcv,zm,zh,zn,zi,hfr])
end
end
section
theorem lkP_app {L:List (Int × Pt)} {id:Int} {y:Pt} (h:L.findIdx? (fun kv=>id==kv.1)=none) (id':Int):lkP (L++[(id,y)]) id'=if id'=id then y else lkP L id':=by
 unfold lkP
 rw [List.find?_append]
 rw [List.findIdx?_eq_none_iff] at h
 by_cases he:id'=id
 ·subst he
  have:L.find? (fun kv=>id'==kv.1)=none:=List.find?_eq_none.2 fun x hx=>by rw [h x hx]; decide
  simp [this]
 ·rw [if_neg he]
  have:[(id,y)].find? (fun kv=>id'==kv.1)=none:=by simp [he]
  rw [this,Option.or_none]
theorem lkP_set {id:Int} {y:Pt} (id':Int):∀ {L:List (Int × Pt)} {i:Nat} (hi:i<L.length),L.findIdx? (fun kv=>id==kv.1)=some i->lkP (L.set i (L[i].1,y)) id'=if id'=id then y else lkP L id'
 | kv::L,i,hi,h=>by
  rw [List.findIdx?_cons] at h
  cases hk:id==kv.1
  ·rw [hk] at h
   simp only [zc2,if_false,Option.map_eq_some_iff] at h
   obtain ⟨j,hj,rfl⟩:=h
   have ih:=lkP_set (y:=y) id' (by simpa using hi) hj
   have e:∀ (z:Int × Pt) (M:List (Int × Pt)),lkP (z::M) id'=if id'==z.1 then z.2 else lkP M id':=fun z M=>by
    unfold lkP
    rw [List.find?_cons]
    cases id'==z.1 <;> rfl
   have hne:id≠kv.1:=by simpa using hk
   simp only [List.set_cons_succ,List.getElem_cons_succ,e]
   rw [ih]
   by_cases he:id'=id
   ·subst he
    rw [if_neg (by simpa using hk),if_pos rfl,if_pos rfl]
   ·rw [if_neg he,if_neg he]
  ·rw [hk] at h
   simp only [if_true,zcj] at h
   subst h
   have hke:id=kv.1:=by simpa using hk
   subst hke
   unfold lkP
   simp only [List.set_cons_zero,List.getElem_cons_zero,List.find?_cons]
   by_cases he:id'=kv.1
   ·subst he
    simp
   ·rw [if_neg he,show (id'==kv.1)=false by simpa using he]
def lastP (l:List Nd) (id:Int):Pt:=((l.reverse.find? fun x=>id==x.id).map Nd.at').getD ⟨0,0⟩
theorem lastP_snoc (l:List Nd) (x:Nd) (id:Int):lastP (l++[x]) id=if id=x.id then x.at' else lastP l id:=by
 unfold lastP
 rw [List.reverse_append]
 simp only [List.reverse_cons,List.reverse_nil,zdh,zc5,List.find?_cons]
 by_cases h:id=x.id
 ·rw [show (id==x.id)=true by simpa using h,if_pos h]
  rfl
 ·rw [show (id==x.id)=false by simpa using h,if_neg h]
theorem map_upd (L:List (Int × Pt)) (bs:List Nat) (ck:Nat) (id:Int) (y:Pt):∃ (L':List (Int × Pt)) (bs':List Nat) (ck':Nat),(∀ id',lkP L' id'=if id'=id then y else lkP L id')/\∀ (C:Call) (D:Nat) (out:yLM) (n0 j:Nat) (ownV own:yLO) (t:List IV) (a b c:Opd),ρ t a=.mapM D j->ρ t b=.int .i64 id->ρ t c=.agg [.int .i64 y.x,.int .i64 y.y]->own[j]?=some (.map (ptKs L) (ptVs L) bs ck) ->
  evOp C D out n0 ownV own t (.mapupd (false,[1]) a b c)=some (.x,.tuple [],own.set j (.map (ptKs L') (ptVs L') bs' ck')):=by
 have hk:(kindB false (IV.int .i64 id)&&(IV.int .i64 id).cells.length==[1].length)=true:=rfl
 cases h:L.findIdx? fun kv=>id==kv.1 with
 | none =>
  refine ⟨L++[(id,y)],bs++[ck],ck+1,lkP_app h,fun C D out n0 j ownV own t a b c h1 h2 h3 h4=>?_⟩
  rw [ev_mapupd]
  simp only [e_mapupd,h1,h2,h3,h4,hk,and_self,if_true,Z3,h,zc6,zf]
  simp [ptKs,ptVs,Pt.c,zo]
 | some i =>
  obtain ⟨hi,hq,_⟩:=List.findIdx?_eq_some_iff_getElem.1 h
  have he:id=L[i].1:=by simpa using hq
  refine ⟨L.set i (L[i].1,y),bs,ck,fun id'=>lkP_set id' hi h,fun C D out n0 j ownV own t a b c h1 h2 h3 h4=>?_⟩
  rw [ev_mapupd]
  simp only [e_mapupd,h1,h2,h3,h4,hk,and_self,if_true,Z3,h,zck,zde,zf]
  have hks:ptKs (L.set i (L[i].1,y))=ptKs L:=by
   unfold ptKs
   rw [List.map_set]
   refine List.ext_getElem? fun k=>?_
   by_cases hki:i=k
   ·subst hki
    rw [zdw (by rw [zd1]; exact hi)]
    simp [hi]
   ·rw [zdp hki]
  have hvs:ptVs (L.set i (L[i].1,y))=(ptVs L).set i (.agg [.int .i64 y.x,.int .i64 y.y]):=by
   unfold ptVs
   rw [List.map_set]
   rfl
  rw [hks,hvs]
section
variable {S:ySM}
theorem pl_map (p:Pn) {m D:Nat} {out:yLM} (hm:p.ns.l.length+4<=m) {K:yKM} (t:List IV) (X:IObj) (L:List (Int × Pt)) (bs:List Nat) (ck:Nat) (O:yLO) (lv:IV) (hL0:∀ id,lkP L id=⟨0,0⟩)
  (hfr:Slots 117 t [(1,.ptrM D 0 0),(3,lv),(5,.mapM D 2)])
  (hK:∀ t' L' bs' ck' O',(∀ id,lkP L' id=lastP p.ns.l id)->Slots 117 t' [(1,.ptrM D 0 0),(3,lv),(5,.mapM D 2)]->K .normal ⟨t',.cells [p.ns.v,p.as.v,p.fs.v]::X::.map (ptKs L') (ptVs L') bs' ck'::O'⟩) :
  Ex (callN Ftab S m) D out m (i54.body.sub [1,1,1,1,0]) K ⟨t,.cells [p.ns.v,p.as.v,p.fs.v]::X::.map (ptKs L) (ptVs L) bs ck::O⟩:=by
 simp only [V3] at hfr
 have hnf:=p.ns.few
 simp only [i54,IC.sub,V0,sevalprocAttr,hfr]
 refine zb (fun jj st=>∃ (i:Nat) (L:List (Int × Pt)) (bs:List Nat) (ck:Nat) (O:yLO),p.ns.l.length - i<=jj/\(i<=p.ns.l.length/\∀ id,lkP L id=lastP (p.ns.l.take i) id)/\st.own=.cells [p.ns.v,p.as.v,p.fs.v]::X::.map (ptKs L) (ptVs L) bs ck::O/\Slots 117 st.t [(1,.ptrM D 0 0),(3,lv),(5,.mapM D 2),(25,p.ns.v),(26,iv (p.ns.l.length:Nat)),(27,iv i)]) p.ns.l.length (by omega) ⟨0,L,bs,ck,O,by omega,⟨by omega,fun id=>by rw [hL0]; rfl⟩,rfl,by simp only [V0,sevalprocAttr,hfr,zcp]⟩ ?_
 clear hfr
 rintro jj ⟨t,own1⟩ KB ⟨i,L,bs,ck,O,hjj,⟨hi,hlk⟩,ho,hfr⟩ hnB heB hrB
 dsimp only at ho hfr
 subst ho
 simp only [V3] at hfr
 by_cases h:i<p.ns.l.length
 ·obtain ⟨x,hx⟩:=gx (l:=p.ns.l) (i:=i) h
  have hrd:rdN (p.ns.l.flatMap Nd.c) (i*3) 3=some [.int .i64 x.id,.int .i64 x.at'.x,.int .i64 x.at'.y]:=(zc Nd.c_len 0 3 hx (by omega)).trans rfl
  have hw:wrapI .i64 ((i:Int)+1)=((i+1:Nat):Int):=we
  obtain ⟨L',bs',ck',hlk',hup⟩:=map_upd L bs ck x.id x.at'
  have hup2:=fun C n0 ownV own t a b c=>hup C D out n0 2 ownV own t a b c
  simp only [V0,sevalprocAttr,hfr,h,za p.ns h,hrd,hup2,hw]
  exact hnB _ (p.ns.l.length - (i+1)) (by omega) ⟨i+1,L',bs',ck',_,by omega,⟨by omega,fun id=>by rw [hlk',hlk,zdv,hx,zd2,lastP_snoc]⟩,rfl,by simp only [V0,sevalprocAttr,hfr,hw]⟩
 ·simp only [V0,sevalprocAttr,hfr,h]
  refine heB _ _ ?_
  simp only [V0,sevalprocAttr,hfr]
  exact hK _ _ _ _ _ (fun id=>by rw [hlk,zcm (by omega)]) (by simp only [V0,sevalprocAttr,hfr])
end
end
section
theorem PowOK.le {S:ySM} {N M:Nat} (h:PowOK S N) (hn:N<=M):PowOK S M:=fun x h0 hx m hm=>h x h0 hx m (by omega)
theorem LenOK.le {S:ySM} {N M:Nat} (h:LenOK S N) (hn:N<=M):LenOK S M:=fun x hx m hm=>h x hx m (by omega)
section
variable {S:ySM}
def PlanarV (p:Pn) (v:Bool):Prop:=bif p.as.l.any (badA p) then v=false else (spsL p=[]/\v=true)∨∃ (L:List (Int × Pt)) (l:List Sg),(∀ id,lkP L id=lastP p.ns.l id)/\(l.map Sg.sp).Perm (spsL p)/\Srt (fun s u=>cmpI s.w u.w) l 0 l.length/\PlRes p L l v
theorem orders_w:Orders (fun (s u:Sg)=>cmpI s.w u.w):=by
 have h:∀ x y:Int,cmpI x y<0↔x<y:=fun x y=>by
  unfold cmpI
  split
  ·simp [*]
  ·split <;> simp [*]
 constructor
 ·intro x y
  simp only [up,h]
  omega
 ·intro x y z
  simp only [up,h]
  omega
theorem planar_run (hS:NoS S) (p:Pn) (hv:∀ a∈p.as.l,a.via.l.length<=64) (ha:p.as.l.length<=600):∃ N,∀ m,N<=m->∀ d out ownV own id,∃ v:Bool,PlanarV p v/\callN Ftab S m d out ownV own id 54 [.agg p.c]=some (.r,.bool v,own):=by
 obtain ⟨Ns,hNs⟩:=at_segs hS p hv (by omega)
 obtain ⟨Np,hPw⟩:=pow_ok hS
 obtain ⟨Nl,hLn⟩:=len_ok hS
 refine ⟨Ns+Np+Nl+200000+p.ns.l.length,fun m hm d out ownV own id=>?_⟩
 obtain ⟨m,rfl⟩:∃ q,m=q+2:=⟨m - 2,by omega⟩
 have main:∃ r,callN Ftab S (m+1+1) d out ownV own id 54 [.agg p.c]=some r/\∃ v:Bool,PlanarV p v/\r=(Eff.r,.bool v,own):=by
  refine zbw (i:=i54) (ns hS (by rfl)) rfl (by decide) (lb rfl) fun t hfr=>?_
  simp only [V2,Nat.reduceAdd,i54,Pn.c] at hfr
  generalize (fun l=>if l=d then ownV else out l:yLM)=out2
  have hlv:∀ (o:yLO) (v:Bool),leave (m+1) d o own id 0 (.bool v)=some (.r,.bool v,own):=fun o v=>by simp [leave,freeze]
  have fin:∀ v t' O',PlanarV p v->Slots 117 t' [(2,.bool v)]->(Out.ret=.normal∨Out.ret=.ret)/\∃ w r,resultI (d+1) out2 ⟨t',O'⟩ i54.res=some w/\leave (m+1) d O' own id i54.mode w=some r/\∃ v:Bool,PlanarV p v/\r=(Eff.r,.bool v,own):=fun v t' O' hpv ht=>by
   simp only [ze,zg] at ht
   refine ⟨.inr rfl,.bool v,_,?_,hlv _ _,v,hpv,rfl⟩
   simp only [i54,V0,sevalprocAttr,ht]
  suffices hsuf:∀ K:yKM,(∀ v t' O',PlanarV p v->Slots 117 t' [(2,.bool v)]->K .ret ⟨t',O'⟩)->Ex (callN Ftab S (m+1)) (d+1) out2 (m+1) i54.body K ⟨t,[]⟩ from hsuf _ fin
  clear fin
  intro K fin
  have hM:=fun {D:Nat} (l:List Sg) L bs ck=>@pl_main S hS p l L bs ck (m+1) D out2
  have hN:=fun {D:Nat}=>@pl_nil S (m+1) D out2 (by omega)
  have hU:=fun {D:Nat}=>@pl_map S p (m+1) D out2 (by omega)
  rw [show i54.body=.seq (i54.body.sub [0]) (.seq (i54.body.sub [1,0]) (.seq (i54.body.sub [1,1,0]) (.seq (i54.body.sub [1,1,1,0]) (.seq (i54.body.sub [1,1,1,1,0]) (.seq (i54.body.sub [1,1,1,1,1,0]) (i54.body.sub [1,1,1,1,1,1])))))) from rfl]
  generalize i54.body.sub [1,1,1,1,1,1]=T at hM hN ⊢
  generalize i54.body.sub [1,1,1,1,0]=U at hU ⊢
  have hmap0:∀ (x y:IObj),([x,y,IObj.map [] [] [] 0]:yLO)=x::y::.map (ptKs []) (ptVs []) [] 0::[]:=fun _ _=>rfl
  obtain ⟨r,hr1,hr2⟩:=hNs (m+1) (by omega) (d+1) out2 [.cells [p.ns.v,p.as.v,p.fs.v],.free] [.cells [p.ns.v,p.as.v,p.fs.v],.free] 1 rfl
  simp only [Pn.c] at hr1
  rcases hr2 with ⟨b,rfl,hbad,hsp⟩ | ⟨l,hne,hll,⟨hbad,hsp⟩,rfl⟩
  ·cases b with
   | false =>
    simp only [i54,IC.sub,V0,sevalprocAttr,hfr,hr1]
    exact fin false _ _ (by unfold PlanarV; rw [hbad]; rfl) (by simp only [V0,sevalprocAttr,hfr,hr1])
   | true =>
    simp only [i54,IC.sub,V0,sevalprocAttr,hfr,hr1]
    refine hU _ _ [] [] 0 [] .nilsl (fun id=>rfl) (by simp only [V0,sevalprocAttr,hfr,hr1]) fun t' L' bs' ck' O' hlk ht=>?_
    simp only [ze,zg] at ht
    obtain ⟨J',hs⟩:=usort_nil (d:=d+1) (out:=out2) (ownV:=.cells [p.ns.v,p.as.v,p.fs.v]::.free::.map (ptKs L') (ptVs L') bs' ck'::(O'++[.free])) (own:=.cells [p.ns.v,p.as.v,p.fs.v]::.free::.map (ptKs L') (ptVs L') bs' ck'::(O'++[.free])) (fv:=.fn 86 [] []) hS hLn (m:=m+1) (by omega)
    simp only [V0,sevalprocAttr,ht,hs]
    exact hN _ _ (by simp only [V0,sevalprocAttr,ht]) fun t' O' h=>fin true t' O' (by unfold PlanarV; rw [hbad]; exact .inl ⟨hsp rfl,rfl⟩) h
  ·simp only [List.set_cons_succ,List.set_cons_zero] at hr1
   simp only [i54,IC.sub,V0,sevalprocAttr,hfr,hr1]
   refine hU _ _ [] [] 0 [] (.slM (d+1) 1 0 l.length l.length 2 false) (fun id=>rfl) (by simp only [V0,sevalprocAttr,hfr,hr1]) fun t' L' bs' ck' O' hlk ht=>?_
   simp only [ze,zg] at ht
   have hb:1<(IObj.cells [p.ns.v,p.as.v,p.fs.v]::.cells (l.flatMap Sg.g)::.map (ptKs L') (ptVs L') bs' ck'::(O'++[.free])).length:=by simp
   have hcmp:CmpOK S (Np+Nl+8) (d+1) out2 (IObj.cells [p.ns.v,p.as.v,p.fs.v]::.cells (l.flatMap Sg.g)::.map (ptKs L') (ptVs L') bs' ck'::(O'++[.free])) 1 Sg.e 86 [] (fun s u=>cmpI s.w u.w):=fun m hm=>planar_cmp hS m (by omega)
   obtain ⟨l2,J',hs,hp,hsr⟩:=u_sortS (d:=d+1) (out:=out2) (cp:=l.length) (tg:=false) orders_w hS hb sg_elt hcmp (n:=l.length) (by omega) (m+1) (Nc:=Np+Nl+8) (by omega) (IObj.cells [p.ns.v,p.as.v,p.fs.v]::.cells (l.flatMap Sg.g)::.map (ptKs L') (ptVs L') bs' ck'::(O'++[.free])) l [] rfl (hPw.le (by omega)) (hLn.le (by omega))
   have hl2:l2.length=l.length:=hp.length_eq
   simp only [Bk,List.set_cons_succ,List.set_cons_zero,zc5,zdg,zd0,zdh] at hs
   simp only [V0,sevalprocAttr,ht,hs]
   refine hM (D:=d+1) l2 L' bs' ck' (by omega) (by omega) _ [.cells [p.ns.v,p.as.v,p.fs.v],.cells (l2.flatMap Sg.g),.map (ptKs L') (ptVs L') bs' ck'] (O'++IObj.free::J') rfl rfl rfl ?_ fun v t' O' hres h=>fin v t' O' (by
    unfold PlanarV
    rw [hbad]
    exact .inr ⟨L',l2,hlk,by rw [← hsp]; exact hp.map _,by rw [hl2]; exact hsr,hres⟩) h
   rw [hl2]
   simp only [V0,sevalprocAttr,ht]
 obtain ⟨r,h1,v,hpv,rfl⟩:=main
 exact ⟨v,hpv,h1⟩
end
end
section
theorem zaq {k sz:Nat} {α:Type} {g:α->List IV} (hg:∀ x,(g x).map (sh k)=g x) (q:SlOf sz g):sh k q.v=q.v:=by
 have hh:∀ (cs:List IV) (n:Nat) (v:IV),Sl sz cs n v->cs.map (sh k)=cs->sh k v=v:=fun cs n v h hc=>by
  cases h with
  | nil=>simp [sh]
  | row cs n tight hl=>simp only [sh,hc]
 refine hh _ _ _ q.ok ?_
 rw [List.map_flatMap]
 congr 1
 funext x
 exact hg x
theorem pt_sh {k:Nat} (x:Pt):x.c.map (sh k)=x.c:=by simp [Pt.c,zo,sh]
theorem nd_sh {k:Nat} (x:Nd):x.c.map (sh k)=x.c:=by simp [Nd.c,zo,sh]
theorem ac_sh {k:Nat} (x:Ac):x.c.map (sh k)=x.c:=by
 have:=zaq (k:=k) pt_sh x.via
 simp [Ac.c,zo,sh,this]
theorem in_sh {k:Nat} (x:Int):(intc x).map (sh k)=intc x:=by simp [intc,zo,sh]
theorem pn_sh {k:Nat} (p:Pn):sh k (.agg p.c)=.agg p.c:=by
 have h1:=zaq (k:=k) nd_sh p.ns
 have h2:=zaq (k:=k) ac_sh p.as
 have h3:=zaq (k:=k) in_sh p.fs
 simp [Pn.c,sh,h1,h2,h3]
section
variable {S:ySM}
theorem planar_gives (hT:TabCl Ftab) (hSc:SumCl S) (hS:NoS S) (p:Pn) (hv:∀ a∈p.as.l,a.via.l.length<=64) (ha:p.as.l.length<=600):∃ (v:Bool) (N:Nat),PlanarV p v/\GivesN S N 54 [.agg p.c] (.bool v):=by
 obtain ⟨N,hN⟩:=planar_run hS p hv ha
 obtain ⟨v,hpv,h1⟩:=hN N (zcs _) 0 (fun _=>[]) [] [] 0
 refine ⟨v,N,hpv,run_all hT hSc (ns hS (by rfl)) rfl rfl (fun k=>?_) rfl h1⟩
 rw [zdo,pn_sh]
 rfl
def limI (p:Pn):Bool:=decide ((256:Int)<(p.ns.l.length:Int))||(decide ((256:Int)<(p.as.l.length:Int))||decide ((64:Int)<(p.fs.l.length:Int)))
def limV (p:Pn):Bool:=p.as.l.any fun a=>decide ((64:Int)<(a.via.l.length:Int))
def ordB (p:Pn):Bool:=ascL (p.ns.l.map Nd.id)&&(ascL (p.as.l.map Ac.id)&&ascL p.fs.l)
def rngB (p:Pn):Bool:=!((p.ns.l.map Nd.id).any badId)&&(!((p.as.l.map Ac.id).any badId)&&(!(p.fs.l.any badId)&&placedB p))
def planE (p:Pn) (v:Bool):Int:=bif limI p||limV p then 3 else bif !ordB p then 10 else bif !rngB p then 2 else bif connE p (p.ns.l.map Nd.id)==0 then (bif v then 0 else 11) else connE p (p.ns.l.map Nd.id)
theorem at_pcheckV (hT:TabCl Ftab) (hSc:SumCl S) (hS:NoS S) (hSp:∀ args,S 18 args=none) (p:Pn) (h1:p.ns.l.length<=1000000) (h2:p.as.l.length<=1000000) (h3:∀ a∈p.as.l,a.via.l.length<=1000000):∃ (v:Bool) (N:Nat),(limI p=false->limV p=false->PlanarV p v)/\GivesN S N 18 [.agg p.c] (.int .i64 (planE p v)):=by
 have hpl:∃ (v:Bool) (N:Nat),(limI p=false->limV p=false->PlanarV p v)/\(limI p=false->limV p=false->GivesN S N 54 [.agg p.c] (.bool v)):=by
  by_cases hb:limI p=false/\limV p=false
  ·obtain ⟨h4,h5⟩:=hb
   simp only [limI,zd6,decide_eq_false_iff_not] at h4
   have h6:∀ a∈p.as.l,a.via.l.length<=64:=fun a ha=>by
    have:=zd9.1 h5 a ha
    simp only [decide_eq_true_eq] at this
    omega
   obtain ⟨v,N,hv,h⟩:=planar_gives hT hSc hS p h6 (by omega)
   exact ⟨v,N,fun _ _=>hv,fun _ _=>h⟩
  ·exact ⟨false,0,fun h4 h5=>absurd ⟨h4,h5⟩ hb,fun h4 h5=>absurd ⟨h4,h5⟩ hb⟩
 obtain ⟨v,Np,hpv,hp⟩:=hpl
 refine ⟨v,Np+p.ns.l.length+p.as.l.length+p.fs.l.length+1000100+1,hpv,?_⟩
 refine zd (i:=i18) (hSp _) rfl rfl (lb rfl) (Np+p.ns.l.length+p.as.l.length+p.fs.l.length+1000100) (by omega) zw fun m hm d out t hfr=>?_
 simp only [V2,Nat.reduceAdd,i18,Pn.c] at hfr
 have haf:=p.as.few
 cases hl:limI p
 ·simp only [limI,zd6] at hl
  obtain ⟨l1,l2,l3⟩:=hl
  have hl:limI p=false:=by simp only [limI,l1,l2,l3,Bool.or_self]
  simp only [i18,V0,sevalprocAttr,hfr,gt_iff_lt,l1,l2,l3]
  refine zb (fun jj st=>∃ (i:Nat) (O:yLO),p.as.l.length - i<=jj/\i<=p.as.l.length/\(p.as.l.take i).any (fun a=>decide ((64:Int)<(a.via.l.length:Int)))=false/\st.own=.cells [p.ns.v,p.as.v,p.fs.v]::O/\Slots 82 st.t [(1,.ptrM d 0 0),(24,p.as.v),(25,iv (p.as.l.length:Nat)),(26,iv i)]) p.as.l.length (by omega) ⟨0,[],by omega,by omega,by simp,rfl,by simp only [V0,sevalprocAttr,hfr,zcp]⟩ ?_
  clear hfr
  rintro jj ⟨t,own⟩ KA ⟨i,O,hjj,hi,ha,ho,hfr⟩ hnA heA hrA
  dsimp only at ho hfr
  subst ho
  simp only [V3] at hfr
  by_cases h:i<p.as.l.length
  ·obtain ⟨x,hx⟩:=gx (l:=p.as.l) (i:=i) h
   have hrd:rdN (p.as.l.flatMap Ac.c) (i*6) 6=some [.int .i64 x.id,.int .i64 x.fr,.int .i64 x.to,x.via.v,.int .i64 x.l,.int .i64 x.r]:=(zc Ac.c_len 0 6 hx (by omega)).trans rfl
   have hw:wrapI .i64 ((i:Int)+1)=((i+1:Nat):Int):=we
   cases hq:decide ((64:Int)<(x.via.l.length:Int))
   ·simp only [V0,sevalprocAttr,hfr,h,za p.as h,hrd,z8,yf,gt_iff_lt,hq,hw]
    exact hnA _ (p.as.l.length - (i+1)) (by omega) ⟨i+1,_,by omega,by omega,zG hx ha hq,rfl,by simp only [V0,sevalprocAttr,hfr,hw]⟩
   ·have hlv:limV p=true:=zW (q:=fun a:Ac=>decide ((64:Int)<(a.via.l.length:Int))) hx hq
    simp only [V0,sevalprocAttr,hfr,h,za p.as h,hrd,z8,yf,gt_iff_lt,hq]
    refine hrA _ ?_
    simp only [V0,sevalprocAttr,hfr,planE,hlv,Bool.or_true,cond_true]
  ·have hlv:limV p=false:=by
    unfold limV
    rw [← zcm (l:=p.as.l) (i:=i) (by omega)]
    exact ha
   have hpl:=hp hl hlv
   simp only [V0,sevalprocAttr,hfr,h]
   refine heA _ _ ?_
   have c0:=fun dd oo ownV own id=>at_ident hS p h1 h2 m (by omega) dd oo ownV own id
   have hr1:=rowQ_l zj (p.ns.l.map Nd.id) (ZU h1)
   have hr2:=rowQ_l zj (p.as.l.map Ac.id) (ZU h2)
   generalize rowQ zj (p.ns.l.map Nd.id) (ZU h1)=q1 at c0 hr1
   generalize rowQ zj (p.as.l.map Ac.id) (ZU h2)=q2 at c0 hr2
   have n1:q1.l.length=p.ns.l.length:=by rw [hr1,zd1]
   have n2:q2.l.length=p.as.l.length:=by rw [hr2,zd1]
   have a1:=fun dd oo ownV own id=>at_asc hS q1 m (by omega) dd oo ownV own id
   have a2:=fun dd oo ownV own id=>at_asc hS q2 m (by omega) dd oo ownV own id
   have a3:=fun dd oo ownV own id=>at_asc hS p.fs m (by omega) dd oo ownV own id
   have b1:=fun dd oo ownV own id=>at_num hS q1 m (by omega) dd oo ownV own id
   have b2:=fun dd oo ownV own id=>at_num hS q2 m (by omega) dd oo ownV own id
   have b3:=fun dd oo ownV own id=>at_num hS p.fs m (by omega) dd oo ownV own id
   have b4:=fun dd oo ownV own id=>at_placed hS p 1000000 h3 m (by omega) dd oo ownV own id
   have cc:=fun dd oo ownV own id=>at_conn hS p q1 m (by omega) dd oo ownV own id
   have cp:=fun dd oo ownV own id=>hpl m (by omega) dd oo ownV own id
   rw [hr1] at a1 b1 cc
   rw [hr2] at a2 b2
   simp only [Pn.c] at c0 b4 cc cp
   have hpe:planE p v=bif !ordB p then 10 else bif !rngB p then 2 else bif connE p (p.ns.l.map Nd.id)==0 then (bif v then 0 else 11) else connE p (p.ns.l.map Nd.id):=by simp only [planE,hl,hlv,Bool.or_self,cond_false]
   rw [hpe]
   unfold ordB rngB
   generalize ascL (p.ns.l.map Nd.id)=u1 at a1 ⊢
   generalize ascL (p.as.l.map Ac.id)=u2 at a2 ⊢
   generalize ascL p.fs.l=u3 at a3 ⊢
   generalize (p.ns.l.map Nd.id).any badId=w1 at b1 ⊢
   generalize (p.as.l.map Ac.id).any badId=w2 at b2 ⊢
   generalize p.fs.l.any badId=w3 at b3 ⊢
   generalize placedB p=w4 at b4 ⊢
   generalize connE p (p.ns.l.map Nd.id)=ce at cc ⊢
   have hbne:∀ z:Int,(z != 0)=!(z==0):=fun z=>rfl
   cases u1
   ·simp only [V0,sevalprocAttr,hfr,c0,a1,a2,a3,zcg,zch,cond_true]
   ·cases u2
    ·simp only [V0,sevalprocAttr,hfr,c0,a1,a2,a3,zcn,zcg,zch,cond_true]
    ·cases u3
     ·simp only [V0,sevalprocAttr,hfr,c0,a1,a2,a3,zcn,zcg,zch,cond_true]
     ·cases w1
      ·cases w2
       ·cases w3
        ·cases w4
         ·simp only [V0,sevalprocAttr,hfr,c0,a1,a2,a3,b1,b2,b3,b4,Bool.and_self,zcn,zcg,zch,zci,zc4,cond_true,cond_false]
         ·cases hce:ce==0
          ·simp only [V0,sevalprocAttr,hfr,c0,a1,a2,a3,b1,b2,b3,b4,cc,hbne,hce,Bool.and_self,zcn,zcg,zch,zci,cond_true,cond_false]
          ·cases v
           ·simp only [V0,sevalprocAttr,hfr,c0,a1,a2,a3,b1,b2,b3,b4,cc,cp,hbne,hce,Bool.and_self,zcn,zcg,zch,zci,cond_true,cond_false]
           ·simp only [V0,sevalprocAttr,hfr,c0,a1,a2,a3,b1,b2,b3,b4,cc,cp,hbne,hce,Bool.and_self,zcn,zcg,zch,zci,cond_true,cond_false]
        ·simp only [V0,sevalprocAttr,hfr,c0,a1,a2,a3,b1,b2,b3,b4,Bool.and_self,zcn,zcg,zch,zci,zc4,cond_true,cond_false]
       ·simp only [V0,sevalprocAttr,hfr,c0,a1,a2,a3,b1,b2,b3,b4,Bool.and_self,zcn,zcg,zch,zci,zc4,cond_true,cond_false]
      ·simp only [V0,sevalprocAttr,hfr,c0,a1,a2,a3,b1,b2,b3,b4,Bool.and_self,zcn,zcg,zch,zci,zc4,cond_true,cond_false]
 ·have hpe:planE p v=3:=by simp only [planE,hl,zdm,cond_true]
  rw [hpe]
  simp only [limI] at hl
  cases l1:decide ((256:Int)<(p.ns.l.length:Int))
  ·cases l2:decide ((256:Int)<(p.as.l.length:Int))
   ·have l3:decide ((64:Int)<(p.fs.l.length:Int))=true:=by simpa [l1,l2] using hl
    simp only [i18,V0,sevalprocAttr,hfr,gt_iff_lt,l1,l2,l3]
   ·simp only [i18,V0,sevalprocAttr,hfr,gt_iff_lt,l1,l2]
  ·simp only [i18,V0,sevalprocAttr,hfr,gt_iff_lt,l1]
end
theorem freezeA_slC {n d:Nat} {own:yLO} {cs:List IV} {len sz:Nat} {tight:Bool}:freezeA (n+1) d own (.slC cs len sz tight)=(cs.mapM (freezeA n d own)).map (.slC · len sz tight):=zcw rfl rfl
theorem slOf_fA {n d sz:Nat} {own:yLO} {α:Type} {g:α->List IV} (q:SlOf sz g) (hg:∀ a,∀ x∈g a,freezeA n d own x=some x):freezeA (n+1) d own q.v=some q.v:=by
 have hh:∀ (cs:List IV) (k:Nat) (v:IV),Sl sz cs k v->(∀ x∈cs,freezeA n d own x=some x)->freezeA (n+1) d own v=some v:=fun cs k v hs hc=>by
  cases hs with
  | nil=>rfl
  | row cs k tight hl=>rw [freezeA_slC,yL hc]; rfl
 refine hh _ _ _ q.ok fun x hx=>?_
 obtain ⟨a,_,hxa⟩:=List.mem_flatMap.1 hx
 exact hg a x hxa
theorem ints_fA (n d:Nat) (own:yLO) (q:SlOf 1 intc):freezeA (n+2) d own q.v=some q.v:=slOf_fA q fun a x hx=>by
 simp only [intc,zo,zdn,zdx,or_false] at hx
 rw [hx]
 rfl
end
section
def OwnB {α:Type} (g:α->List IV) (sz d k0 b0:Nat) (J:yLO) (lv:IV) (xs:List α):Prop:=(xs=[]/\lv=.nilsl)∨∃ b,b0<=b/\xs≠[]/\lv=.slM d (k0+b) 0 xs.length xs.length sz false/\J[b]?=some (.cells (xs.flatMap g))
theorem OwnB.more {α:Type} {g:α->List IV} {sz d k0 b0:Nat} {J:yLO} {lv:IV} {xs:List α} (h:OwnB g sz d k0 b0 J lv xs) (r:yLO):OwnB g sz d k0 b0 (J++r) lv xs:=by
 rcases h with h | ⟨b,hb,hne,h1,h2⟩
 ·exact .inl h
 ·exact .inr ⟨b,hb,hne,h1,by rw [zco (zcf.1 h2).1]; exact h2⟩
theorem OwnB.own {α:Type} {g:α->List IV} {sz d k0 b0:Nat} {J:yLO} {lv:IV} {xs:List α} (h:OwnB g sz d k0 b0 J lv xs):OwnJ g sz d k0 J lv xs:=by
 rcases h with h | ⟨b,hb,hne,h1,h2⟩
 ·exact .inl h
 ·exact .inr ⟨b,hne,h1,h2⟩
end
end Go.Proofs.YtelocmclpfincaaGreatDoor
end
