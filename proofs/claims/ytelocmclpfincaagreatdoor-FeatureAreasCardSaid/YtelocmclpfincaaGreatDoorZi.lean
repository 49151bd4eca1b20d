/-
  A part of the proof: the small machine, its simulation and its walks.
-/
import Derived.Test.YtelocmclpfincaaGreatDoorZd
import Derived.Test.YtelocmclpfincaaGreatDoorZg
import Derived.Test.YtelocmclpfincaaGreatDoorZh
import Derived.Test.YtelocmclpfincaaGreatDoorZj
set_option linter.unusedVariables false
set_option linter.unusedSimpArgs false
set_option maxRecDepth 1000000
set_option maxHeartbeats 3200000
section
namespace Go.Proofs.YtelocmclpfincaaGreatDoor
open Go Go.RowKit
section
noncomputable def crR (a b c d:Pt):Int:=wrapI .i64 (wrapI .i64 (wrapI .i64 (b.x - a.x)*wrapI .i64 (d.y - c.y)) - wrapI .i64 (wrapI .i64 (b.y - a.y)*wrapI .i64 (d.x - c.x)))
noncomputable def dotR (a b c d:Pt):Int:=wrapI .i64 (wrapI .i64 (wrapI .i64 (b.x - a.x)*wrapI .i64 (d.x - c.x))+wrapI .i64 (wrapI .i64 (b.y - a.y)*wrapI .i64 (d.y - c.y)))
section
variable {S:ySM}
theorem ar_near (hS:NoS S) (l:List Pt) (hl:l.length<=1000):GivesN S (l.length+4) 145 [.slC (l.flatMap Pt.c) l.length 2 true] (.bool (l.all nearP)):=by
 refine zd (i:=i145) (ns hS (by rfl)) rfl rfl (lb rfl) (l.length+3) (by omega) zk fun m hm d out t hfr=>?_
 simp only [V2,Nat.reduceAdd,i145] at hfr
 simp only [i145,V0,sevalprocAttr,hfr]
 refine zb (fun jj st=>∃ (i:Nat) (O:yLO),l.length - i<=jj/\i<=l.length/\(l.take i).all nearP=true/\st.own=O/\Slots 40 st.t [(0,.slC (l.flatMap Pt.c) l.length 2 true),(3,iv i)]) l.length (by omega) ⟨0,[],by omega,by omega,by simp,rfl,by simp only [V0,sevalprocAttr,hfr,zcp]⟩ ?_
 rintro jj ⟨t,own⟩ K ⟨i,O,hjj,hi,ha,ho,hfr⟩ hn he hr
 dsimp only at ho hfr
 subst ho
 simp only [V3] at hfr
 by_cases h:i<l.length
 ·have hx:l[i]?=some l[i]:=zce h
  have hmem:l[i]∈l:=zdr h
  generalize l[i]=x at hx hmem
  have hr0:rdN (l.flatMap Pt.c) (i*2) 1=some [.int .i64 x.x]:=(zc (sz:=2) (fun _=>rfl) 0 1 hx (by omega)).trans rfl
  have hr1:rdN (l.flatMap Pt.c) (i*2+1) 1=some [.int .i64 x.y]:=(zc (sz:=2) (fun _=>rfl) 1 1 hx (by omega)).trans rfl
  have hw:wrapI .i64 ((i:Int)+1)=((i+1:Nat):Int):=we
  have fin:nearP x=false->l.all nearP=false:=fun hf=>by
   rw [List.all_eq_false]
   exact ⟨x,hmem,by rw [hf]; decide⟩
  cases h1:decide (x.x < -2097152)
  ·cases h2:decide (2097152<x.x)
   ·cases h3:decide (x.y < -2097152)
    ·cases h4:decide (2097152<x.y)
     ·simp only [V0,sevalprocAttr,hfr,h,zM,hr0,hr1,gt_iff_lt,h1,h2,h3,h4,hw]
      refine hn _ (l.length - (i+1)) (by omega) ⟨i+1,_,by omega,by omega,?_,rfl,by simp only [V0,sevalprocAttr,hfr,h1,h2,h3,h4,hw]⟩
      rw [zdv,hx,zd2,List.all_append,ha]
      simp [nearP,h1,h2,h3,h4]
     ·simp only [V0,sevalprocAttr,hfr,h,zM,hr0,hr1,gt_iff_lt,h1,h2,h3,h4]
      refine hr _ ?_
      simp only [V0,sevalprocAttr,hfr,fin (by simp [nearP,h1,h2,h3,h4])]
    ·simp only [V0,sevalprocAttr,hfr,h,zM,hr0,hr1,gt_iff_lt,h1,h2,h3]
     refine hr _ ?_
     simp only [V0,sevalprocAttr,hfr,fin (by simp [nearP,h1,h2,h3])]
   ·simp only [V0,sevalprocAttr,hfr,h,zM,hr0,hr1,gt_iff_lt,h1,h2]
    refine hr _ ?_
    simp only [V0,sevalprocAttr,hfr,fin (by simp [nearP,h1,h2])]
  ·simp only [V0,sevalprocAttr,hfr,h,zM,hr0,hr1,gt_iff_lt,h1]
   refine hr _ ?_
   simp only [V0,sevalprocAttr,hfr,fin (by simp [nearP,h1])]
 ·simp only [V0,sevalprocAttr,hfr,h]
  refine he _ _ ?_
  have hall:l.all nearP=true:=by rw [← zcm (l:=l) (i:=i) (by omega)]; exact ha
  simp only [V0,sevalprocAttr,hfr,hall]
theorem ar_cross (hS:NoS S) (a b c d:Pt):GivesN S 2 146 [.agg a.c,.agg b.c,.agg c.c,.agg d.c] (.int .i64 (crR a b c d)):=by
 refine zd (i:=i146) (ns hS (by rfl)) rfl rfl (lb rfl) 1 (by omega) zw fun m hm d out t hfr=>?_
 simp only [V2,Nat.reduceAdd,i146,Pt.c] at hfr
 simp only [i146,V0,sevalprocAttr,hfr,crR]
theorem ar_dot (hS:NoS S) (a b c d:Pt):GivesN S 2 147 [.agg a.c,.agg b.c,.agg c.c,.agg d.c] (.int .i64 (dotR a b c d)):=by
 refine zd (i:=i147) (ns hS (by rfl)) rfl rfl (lb rfl) 1 (by omega) zw fun m hm d out t hfr=>?_
 simp only [V2,Nat.reduceAdd,i147,Pt.c] at hfr
 simp only [i147,V0,sevalprocAttr,hfr,dotR]
theorem ar_first (hS:NoS S) (a b:Pt):GivesN S 2 164 [.agg a.c,.agg b.c] (.bool (decide (a.x<b.x)||(a.x==b.x&&decide (a.y<b.y)))):=by
 refine zd (i:=i164) (ns hS (by rfl)) rfl rfl (lb rfl) 1 (by omega) zk fun m hm d out t hfr=>?_
 simp only [V2,Nat.reduceAdd,i164,Pt.c] at hfr
 cases h1:decide (a.x<b.x)
 ·cases h2:a.x==b.x
  ·simp only [i164,V0,sevalprocAttr,hfr,h1,h2,zdi,zcg]
  ·simp only [i164,V0,sevalprocAttr,hfr,h1,h2,zdi,zcn]
 ·simp only [i164,V0,sevalprocAttr,hfr,h1,zdm]
noncomputable def onR (a b p:Pt):Bool:=[a,b,p].all nearP&&(crR a b a p==0&&decide (dotR a p b p<=0))
theorem ar_on (hS:NoS S) (a b p:Pt):GivesN S 8 120 [.agg a.c,.agg b.c,.agg p.c] (.bool (onR a b p)):=by
 refine zd (i:=i120) (ns hS (by rfl)) rfl rfl (lb rfl) (7) (by omega) zk fun m hm d out t hfr=>?_
 simp only [V2,Nat.reduceAdd,i120,Pt.c] at hfr
 have c0:=fun d out ownV own i=>ar_near hS [a,b,p] (by simp) m (by simp; omega) d out ownV own i
 simp only [zdc,zec,Pt.c,zc5,zdh,zo,zcr,zc7,zde,Nat.reduceAdd] at c0
 have c1:=fun dd out ownV own i=>ar_cross hS a b a p m (by omega) dd out ownV own i
 have c2:=fun dd out ownV own i=>ar_dot hS a p b p m (by omega) dd out ownV own i
 simp only [Pt.c,zo] at c1 c2
 unfold onR
 cases hb:[a,b,p].all nearP
 ·simp only [hb] at c0
  simp only [i120,V0,sevalprocAttr,hfr,zak,c0,zcg]
 ·simp only [hb] at c0
  cases h0:crR a b a p==0
  ·simp only [i120,V0,sevalprocAttr,hfr,zak,c0,c1,h0,zc4,zcg]
  ·cases h1:decide (dotR a p b p<=0)
   ·simp only [i120,V0,sevalprocAttr,hfr,zak,c0,c1,c2,h0,h1,zc4,zcg]
   ·simp only [i120,V0,sevalprocAttr,hfr,zak,c0,c1,c2,h0,h1]
theorem ar_shared (hS:NoS S) (a b c d:Pt):GivesN S 4 148 [.agg a.c,.agg b.c,.agg c.c,.agg d.c] (.int .i64 (sharedI a b c d)):=by
 refine zd (i:=i148) (ns hS (by rfl)) rfl rfl (lb rfl) (3) (by omega) zw fun m hm dd out t hfr=>?_
 simp only [V2,Nat.reduceAdd,i148,Pt.c] at hfr
 have cb:∀ (u v:Pt) dd out ownV own i,callN Ftab S m dd out ownV own i 164 [.agg [.int .i64 u.x,.int .i64 u.y],.agg [.int .i64 v.x,.int .i64 v.y]]=some (.r,.bool (bfP u v),own):=fun u v dd out ownV own i=>ar_first hS u v m (by omega) dd out ownV own i
 unfold sharedI
 obtain ⟨p1,p2,hp,hs1⟩:∃ p1 p2:Pt,swP a b=(p1,p2)/\True:=⟨_,_,rfl,trivial⟩
 obtain ⟨q1,q2,hq,hs2⟩:∃ q1 q2:Pt,swP c d=(q1,q2)/\True:=⟨_,_,rfl,trivial⟩
 simp only [hp,hq]
 have fin:∀ (K:yKM) (t:List IV),Slots 33 t [(4,.ptrM dd 0 0),(5,.ptrM dd 1 0),(6,.ptrM dd 2 0),(7,.ptrM dd 3 0)] ->
   (∀ t' O',Slots 33 t' [(8,.int .i64 (let f:=bif bfP p1 q1 then q1 else p1; let l:=bif bfP q2 p2 then q2 else p2; bif ptE f l then 1 else bif bfP f l then 2 else 0))]->K .ret ⟨t',O'⟩) ->
   Ex (callN Ftab S m) dd out m (i148.body.sub [1,1,1]) K ⟨t,.cells [.int .i64 p1.x,.int .i64 p1.y]::.cells [.int .i64 p2.x,.int .i64 p2.y]::.cells [.int .i64 q1.x,.int .i64 q1.y]::.cells [.int .i64 q2.x,.int .i64 q2.y]::[.free,.free]⟩:=by
  intro K t hfr hK
  simp only [ze,zg] at hfr
  cases h1:bfP p1 q1 <;> cases h2:bfP q2 p2
  ·cases h3:ptE p1 p2
   ·cases h4:bfP p1 p2
    ·have h3':=h3
     unfold ptE at h3'
     simp only [i148,IC.sub,V0,sevalprocAttr,hfr,cb,h1,h2,h4,zI,h3',zcz]
     exact hK _ _ (by simp only [V0,sevalprocAttr,hfr,h1,h2,h3,h4,cond_true,cond_false])
    ·have h3':=h3
     unfold ptE at h3'
     simp only [i148,IC.sub,V0,sevalprocAttr,hfr,cb,h1,h2,h4,zI,h3',zcz]
     exact hK _ _ (by simp only [V0,sevalprocAttr,hfr,h1,h2,h3,h4,cond_true,cond_false])
   ·have h3':=h3
    unfold ptE at h3'
    simp only [i148,IC.sub,V0,sevalprocAttr,hfr,cb,h1,h2,zI,h3',zcz]
    exact hK _ _ (by simp only [V0,sevalprocAttr,hfr,h1,h2,h3,cond_true,cond_false])
  ·cases h3:ptE p1 q2
   ·cases h4:bfP p1 q2
    ·have h3':=h3
     unfold ptE at h3'
     simp only [i148,IC.sub,V0,sevalprocAttr,hfr,cb,h1,h2,h4,zI,h3',zcz]
     exact hK _ _ (by simp only [V0,sevalprocAttr,hfr,h1,h2,h3,h4,cond_true,cond_false])
    ·have h3':=h3
     unfold ptE at h3'
     simp only [i148,IC.sub,V0,sevalprocAttr,hfr,cb,h1,h2,h4,zI,h3',zcz]
     exact hK _ _ (by simp only [V0,sevalprocAttr,hfr,h1,h2,h3,h4,cond_true,cond_false])
   ·have h3':=h3
    unfold ptE at h3'
    simp only [i148,IC.sub,V0,sevalprocAttr,hfr,cb,h1,h2,zI,h3',zcz]
    exact hK _ _ (by simp only [V0,sevalprocAttr,hfr,h1,h2,h3,cond_true,cond_false])
  ·cases h3:ptE q1 p2
   ·cases h4:bfP q1 p2
    ·have h3':=h3
     unfold ptE at h3'
     simp only [i148,IC.sub,V0,sevalprocAttr,hfr,cb,h1,h2,h4,zI,h3',zcz]
     exact hK _ _ (by simp only [V0,sevalprocAttr,hfr,h1,h2,h3,h4,cond_true,cond_false])
    ·have h3':=h3
     unfold ptE at h3'
     simp only [i148,IC.sub,V0,sevalprocAttr,hfr,cb,h1,h2,h4,zI,h3',zcz]
     exact hK _ _ (by simp only [V0,sevalprocAttr,hfr,h1,h2,h3,h4,cond_true,cond_false])
   ·have h3':=h3
    unfold ptE at h3'
    simp only [i148,IC.sub,V0,sevalprocAttr,hfr,cb,h1,h2,zI,h3',zcz]
    exact hK _ _ (by simp only [V0,sevalprocAttr,hfr,h1,h2,h3,cond_true,cond_false])
  ·cases h3:ptE q1 q2
   ·cases h4:bfP q1 q2
    ·have h3':=h3
     unfold ptE at h3'
     simp only [i148,IC.sub,V0,sevalprocAttr,hfr,cb,h1,h2,h4,zI,h3',zcz]
     exact hK _ _ (by simp only [V0,sevalprocAttr,hfr,h1,h2,h3,h4,cond_true,cond_false])
    ·have h3':=h3
     unfold ptE at h3'
     simp only [i148,IC.sub,V0,sevalprocAttr,hfr,cb,h1,h2,h4,zI,h3',zcz]
     exact hK _ _ (by simp only [V0,sevalprocAttr,hfr,h1,h2,h3,h4,cond_true,cond_false])
   ·have h3':=h3
    unfold ptE at h3'
    simp only [i148,IC.sub,V0,sevalprocAttr,hfr,cb,h1,h2,zI,h3',zcz]
    exact hK _ _ (by simp only [V0,sevalprocAttr,hfr,h1,h2,h3,cond_true,cond_false])
 have hsw:∀ u v:Pt,swP u v=bif bfP v u then (v,u) else (u,v):=fun _ _=>rfl
 rw [show i148.body=.seq (i148.body.sub [0]) (.seq (i148.body.sub [1,0]) (.seq (i148.body.sub [1,1,0]) (i148.body.sub [1,1,1]))) from rfl]
 generalize hB:i148.body.sub [1,1,1]=B at fin ⊢
 rw [hsw] at hp hq
 cases h1:bfP b a <;> cases h2:bfP d c
 ·rw [h1] at hp
  rw [h2] at hq
  simp only [cond_true,cond_false,zdu] at hp hq
  obtain ⟨rfl,rfl⟩:=hp
  obtain ⟨rfl,rfl⟩:=hq
  simp only [i148,IC.sub,V0,sevalprocAttr,hfr,cb,h1,h2]
  refine fin _ _ (by simp only [V0,sevalprocAttr,hfr]) fun t' O' ht=>?_
  simp only [ze,zg] at ht
  simp only [V0,sevalprocAttr,ht]
 ·rw [h1] at hp
  rw [h2] at hq
  simp only [cond_true,cond_false,zdu] at hp hq
  obtain ⟨rfl,rfl⟩:=hp
  obtain ⟨rfl,rfl⟩:=hq
  simp only [i148,IC.sub,V0,sevalprocAttr,hfr,cb,h1,h2]
  refine fin _ _ (by simp only [V0,sevalprocAttr,hfr]) fun t' O' ht=>?_
  simp only [ze,zg] at ht
  simp only [V0,sevalprocAttr,ht]
 ·rw [h1] at hp
  rw [h2] at hq
  simp only [cond_true,cond_false,zdu] at hp hq
  obtain ⟨rfl,rfl⟩:=hp
  obtain ⟨rfl,rfl⟩:=hq
  simp only [i148,IC.sub,V0,sevalprocAttr,hfr,cb,h1,h2]
  refine fin _ _ (by simp only [V0,sevalprocAttr,hfr]) fun t' O' ht=>?_
  simp only [ze,zg] at ht
  simp only [V0,sevalprocAttr,ht]
 ·rw [h1] at hp
  rw [h2] at hq
  simp only [cond_true,cond_false,zdu] at hp hq
  obtain ⟨rfl,rfl⟩:=hp
  obtain ⟨rfl,rfl⟩:=hq
  simp only [i148,IC.sub,V0,sevalprocAttr,hfr,cb,h1,h2]
  refine fin _ _ (by simp only [V0,sevalprocAttr,hfr]) fun t' O' ht=>?_
  simp only [ze,zg] at ht
  simp only [V0,sevalprocAttr,ht]
end
end
section
def inR (n s t:Int):Int:=bif decide (0<=s)&&(decide (s<=n)&&(decide (0<=t)&&decide (t<=n))) then 1 else 0
noncomputable def meetQ (a b c d:Pt):Int:=bif crR a b c d==0 then (bif (crR a b a c != 0)||((crR a b a d != 0)||((crR c d c a != 0)||(crR c d c b != 0))) then 0 else sharedI a b c d) else
 bif decide (crR a b c d<0) then inR (wrapI .i64 (0 - crR a b c d)) (wrapI .i64 (0 - crR a c c d)) (wrapI .i64 (0 - crR a c a b)) else inR (crR a b c d) (crR a c c d) (crR a c a b)
noncomputable def meetR (a b c d:Pt):Int:=bif [a,b,c,d].all nearP then (bif ptE a b&&(ptE c d&&!ptE a c) then 0 else meetQ a b c d) else 0
section
variable {S:ySM}
theorem ar_meetQ (hS:NoS S) (a b c d:Pt) {m dd:Nat} {out:yLM} (hm:8<=m) {K:yKM} (t:List IV) (hfr:Slots 108 t [(4,.ptrM dd 0 0),(5,.ptrM dd 1 0),(6,.ptrM dd 2 0),(7,.ptrM dd 3 0)])
  (hK:∀ t' O',Slots 108 t' [(8,.int .i64 (meetQ a b c d))]->K .ret ⟨t',O'⟩) :
  Ex (callN Ftab S m) dd out m (i121.body.sub [1,1,1]) K ⟨t,.cells [.int .i64 a.x,.int .i64 a.y]::.cells [.int .i64 b.x,.int .i64 b.y]::.cells [.int .i64 c.x,.int .i64 c.y]::.cells [.int .i64 d.x,.int .i64 d.y]::[.free]⟩:=by
 simp only [ze,zg] at hfr
 have hbne:∀ z:Int,(z != 0)=!(z==0):=fun z=>rfl
 have cc:∀ (u v w z:Pt) dd out ownV own i,callN Ftab S m dd out ownV own i 146 [.agg [.int .i64 u.x,.int .i64 u.y],.agg [.int .i64 v.x,.int .i64 v.y],.agg [.int .i64 w.x,.int .i64 w.y],.agg [.int .i64 z.x,.int .i64 z.y]]=some (.r,.int .i64 (crR u v w z),own):=fun u v w z dd out ownV own i=>ar_cross hS u v w z m (by omega) dd out ownV own i
 have ch:=fun dd out ownV own i=>ar_shared hS a b c d m (by omega) dd out ownV own i
 simp only [Pt.c,zo] at ch
 unfold meetQ at hK
 cases h0:crR a b c d==0
 ·rw [h0] at hK
  simp only [cond_false] at hK
  cases h1:decide (crR a b c d<0)
  ·rw [h1] at hK
   simp only [cond_false] at hK
   generalize hn:crR a b c d=n at *
   generalize hs:crR a c c d=s at *
   generalize ht:crR a c a b=w at *
   cases g1:decide (0<=s)
   ·simp only [i121,IC.sub,V0,sevalprocAttr,hfr,cc,hn,hs,ht,h0,h1]
    refine ⟨by simp [comm],?_⟩
    simp only [V0,sevalprocAttr,hfr,cc,hn,hs,ht,h0,h1,ge_iff_le,g1]
    exact hK _ _ (by simp only [V0,sevalprocAttr,hfr,inR,g1,zcg,cond_false])
   ·cases g2:decide (s<=n)
    ·simp only [i121,IC.sub,V0,sevalprocAttr,hfr,cc,hn,hs,ht,h0,h1]
     refine ⟨by simp [comm],?_⟩
     simp only [V0,sevalprocAttr,hfr,cc,hn,hs,ht,h0,h1,ge_iff_le,g1,g2]
     exact hK _ _ (by simp only [V0,sevalprocAttr,hfr,inR,g1,g2,zcg,zcn,cond_false])
    ·cases g3:decide (0<=w)
     ·simp only [i121,IC.sub,V0,sevalprocAttr,hfr,cc,hn,hs,ht,h0,h1]
      refine ⟨by simp [comm],?_⟩
      simp only [V0,sevalprocAttr,hfr,cc,hn,hs,ht,h0,h1,ge_iff_le,g1,g2,g3]
      exact hK _ _ (by simp only [V0,sevalprocAttr,hfr,inR,g1,g2,g3,zcg,zcn,cond_false])
     ·cases g4:decide (w<=n)
      ·simp only [i121,IC.sub,V0,sevalprocAttr,hfr,cc,hn,hs,ht,h0,h1]
       refine ⟨by simp [comm],?_⟩
       simp only [V0,sevalprocAttr,hfr,cc,hn,hs,ht,h0,h1,ge_iff_le,g1,g2,g3,g4]
       exact hK _ _ (by simp only [V0,sevalprocAttr,hfr,inR,g1,g2,g3,g4,zcn,cond_false])
      ·simp only [i121,IC.sub,V0,sevalprocAttr,hfr,cc,hn,hs,ht,h0,h1]
       refine ⟨by simp [comm],?_⟩
       simp only [V0,sevalprocAttr,hfr,cc,hn,hs,ht,h0,h1,ge_iff_le,g1,g2,g3,g4]
       exact hK _ _ (by simp only [V0,sevalprocAttr,hfr,inR,g1,g2,g3,g4,zcn,cond_true])
  ·rw [h1] at hK
   simp only [cond_true] at hK
   generalize hn:crR a b c d=n at *
   generalize hs:crR a c c d=s at *
   generalize ht:crR a c a b=w at *
   generalize hn2:wrapI .i64 (0 - n)=n2 at *
   generalize hs2:wrapI .i64 (0 - s)=s2 at *
   generalize ht2:wrapI .i64 (0 - w)=w2 at *
   cases g1:decide (0<=s2)
   ·simp only [i121,IC.sub,V0,sevalprocAttr,hfr,cc,hn,hs,ht,h0,h1]
    refine ⟨by simp [comm],?_⟩
    simp only [V0,sevalprocAttr,hfr,cc,hn,hs,ht,h0,h1,hn2,hs2,ht2,ge_iff_le,g1]
    exact hK _ _ (by simp only [V0,sevalprocAttr,hfr,inR,g1,zcg,cond_false])
   ·cases g2:decide (s2<=n2)
    ·simp only [i121,IC.sub,V0,sevalprocAttr,hfr,cc,hn,hs,ht,h0,h1]
     refine ⟨by simp [comm],?_⟩
     simp only [V0,sevalprocAttr,hfr,cc,hn,hs,ht,h0,h1,hn2,hs2,ht2,ge_iff_le,g1,g2]
     exact hK _ _ (by simp only [V0,sevalprocAttr,hfr,inR,g1,g2,zcg,zcn,cond_false])
    ·cases g3:decide (0<=w2)
     ·simp only [i121,IC.sub,V0,sevalprocAttr,hfr,cc,hn,hs,ht,h0,h1]
      refine ⟨by simp [comm],?_⟩
      simp only [V0,sevalprocAttr,hfr,cc,hn,hs,ht,h0,h1,hn2,hs2,ht2,ge_iff_le,g1,g2,g3]
      exact hK _ _ (by simp only [V0,sevalprocAttr,hfr,inR,g1,g2,g3,zcg,zcn,cond_false])
     ·cases g4:decide (w2<=n2)
      ·simp only [i121,IC.sub,V0,sevalprocAttr,hfr,cc,hn,hs,ht,h0,h1]
       refine ⟨by simp [comm],?_⟩
       simp only [V0,sevalprocAttr,hfr,cc,hn,hs,ht,h0,h1,hn2,hs2,ht2,ge_iff_le,g1,g2,g3,g4]
       exact hK _ _ (by simp only [V0,sevalprocAttr,hfr,inR,g1,g2,g3,g4,zcn,cond_false])
      ·simp only [i121,IC.sub,V0,sevalprocAttr,hfr,cc,hn,hs,ht,h0,h1]
       refine ⟨by simp [comm],?_⟩
       simp only [V0,sevalprocAttr,hfr,cc,hn,hs,ht,h0,h1,hn2,hs2,ht2,ge_iff_le,g1,g2,g3,g4]
       exact hK _ _ (by simp only [V0,sevalprocAttr,hfr,inR,g1,g2,g3,g4,zcn,cond_true])
 ·rw [h0] at hK
  simp only [cond_true,hbne] at hK
  cases g1:crR a b a c==0
  ·simp only [i121,IC.sub,V0,sevalprocAttr,hfr,cc,hbne,h0,g1]
   exact hK _ _ (by simp only [V0,sevalprocAttr,hfr,g1,zch,zdm,cond_true])
  ·cases g2:crR a b a d==0
   ·simp only [i121,IC.sub,V0,sevalprocAttr,hfr,cc,hbne,h0,g1,g2]
    exact hK _ _ (by simp only [V0,sevalprocAttr,hfr,g1,g2,zch,zci,zdi,zdm,cond_true])
   ·cases g3:crR c d c a==0
    ·simp only [i121,IC.sub,V0,sevalprocAttr,hfr,cc,hbne,h0,g1,g2,g3]
     exact hK _ _ (by simp only [V0,sevalprocAttr,hfr,g1,g2,g3,zch,zci,zdi,zdm,cond_true])
    ·cases g4:crR c d c b==0
     ·simp only [i121,IC.sub,V0,sevalprocAttr,hfr,cc,hbne,h0,g1,g2,g3,g4]
      exact hK _ _ (by simp only [V0,sevalprocAttr,hfr,g1,g2,g3,g4,zch,zci,zdi,cond_true])
     ·simp only [i121,IC.sub,V0,sevalprocAttr,hfr,cc,ch,hbne,h0,g1,g2,g3,g4]
      exact hK _ _ (by simp only [V0,sevalprocAttr,hfr,g1,g2,g3,g4,zci,zdi,cond_false])
theorem ar_meet (hS:NoS S) (a b c d:Pt):GivesN S 14 121 [.agg a.c,.agg b.c,.agg c.c,.agg d.c] (.int .i64 (meetR a b c d)):=by
 refine zd (i:=i121) (ns hS (by rfl)) rfl rfl (lb rfl) (13) (by omega) zw fun m hm dd out t hfr=>?_
 simp only [V2,Nat.reduceAdd,i121,Pt.c] at hfr
 have c0:=fun dd out ownV own i=>ar_near hS [a,b,c,d] (by simp) m (by simp; omega) dd out ownV own i
 simp only [zdc,zec,Pt.c,zc5,zdh,zo,zcr,zc7,zde,Nat.reduceAdd] at c0
 have fin:=fun (K:yKM) t=>ar_meetQ hS a b c d (m:=m) (dd:=dd) (out:=out) (by omega) (K:=K) t
 have q1:(true != false)=true:=rfl
 have q2:(true != true)=false:=rfl
 rw [show i121.body=.seq (i121.body.sub [0]) (.seq (i121.body.sub [1,0]) (.seq (i121.body.sub [1,1,0]) (i121.body.sub [1,1,1]))) from rfl]
 generalize hB:i121.body.sub [1,1,1]=B at fin ⊢
 unfold meetR
 cases hb:[a,b,c,d].all nearP
 ·simp only [hb] at c0
  simp only [i121,IC.sub,V0,sevalprocAttr,hfr,ZS,c0,cond_false]
 ·simp only [hb] at c0
  cases h1:ptE a b
  ·have h1':(a.x==b.x&&a.y==b.y)=false:=h1
   simp only [i121,IC.sub,V0,sevalprocAttr,hfr,ZS,c0,zI,h1',zcz]
   refine fin _ _ (by simp only [V0,sevalprocAttr,hfr]) fun t' O' ht=>?_
   simp only [ze,zg] at ht
   simp only [V0,sevalprocAttr,ht,zcg,cond_false,cond_true]
  ·have h1':(a.x==b.x&&a.y==b.y)=true:=h1
   cases h2:ptE c d
   ·have h2':(c.x==d.x&&c.y==d.y)=false:=h2
    simp only [i121,IC.sub,V0,sevalprocAttr,hfr,ZS,c0,zI,h1',h2',zcz]
    refine fin _ _ (by simp only [V0,sevalprocAttr,hfr]) fun t' O' ht=>?_
    simp only [ze,zg] at ht
    simp only [V0,sevalprocAttr,ht,zcg,zc4,cond_false,cond_true]
   ·have h2':(c.x==d.x&&c.y==d.y)=true:=h2
    cases h3:ptE a c
    ·have h3':(a.x==c.x&&a.y==c.y)=false:=h3
     simp only [i121,IC.sub,V0,sevalprocAttr,hfr,ZS,c0,zI,h1',h2',h3',zcz,q1,zch,Bool.and_true,cond_true]
    ·have h3':(a.x==c.x&&a.y==c.y)=true:=h3
     simp only [i121,IC.sub,V0,sevalprocAttr,hfr,ZS,c0,zI,h1',h2',h3',zcz,q2]
     refine fin _ _ (by simp only [V0,sevalprocAttr,hfr]) fun t' O' ht=>?_
     simp only [ze,zg] at ht
     simp only [V0,sevalprocAttr,ht,zci,zc4,cond_false,cond_true]
end
end
section
section
variable {S:ySM}
theorem ar_valid (hS:NoS S) (p:Pt):GivesN S 2 98 [.agg p.c] (.bool (!badPt p)):=by
 refine zd (i:=i98) (ns hS (by rfl)) rfl rfl (lb rfl) (1) (by omega) zk fun m hm d out t hfr=>?_
 simp only [V2,Nat.reduceAdd,i98,Pt.c] at hfr
 have hle:∀ a b:Int,decide (a<b)=!decide (b<=a):=fun a b=>by
  rw [← decide_not]
  exact decide_eq_decide.2 Int.not_le.symm
 have e:badPt p=!(decide (-1048576<=p.x)&&(decide (p.x<=1048576)&&(decide (-1048576<=p.y)&&decide (p.y<=1048576)))):=by
  unfold badPt
  simp only [hle,Bool.not_and]
 rw [e,Bool.not_not]
 cases h1:decide (-1048576<=p.x)
 ·simp only [i98,V0,sevalprocAttr,hfr,ge_iff_le,h1,zcg]
 ·cases h2:decide (p.x<=1048576)
  ·simp only [i98,V0,sevalprocAttr,hfr,ge_iff_le,h1,h2,zcg,zcn]
  ·cases h3:decide (-1048576<=p.y)
   ·simp only [i98,V0,sevalprocAttr,hfr,ge_iff_le,h1,h2,h3,zcg,zcn]
   ·simp only [i98,V0,sevalprocAttr,hfr,ge_iff_le,h1,h2,h3,zcn]
theorem ar_asc (hS:NoS S) (l:SlOf 1 intc):GivesN S (l.l.length+4) 59 [l.v] (.bool (ascL l.l)):=by
 refine gives_m03 (i:=i59) (ns hS (by rfl)) rfl (by first | exact .inl rfl | exact .inr rfl) (lb rfl) (l.l.length+3) (by omega) zk (fun _=>rfl) (fun d own=>by simp only [zd8,List.mapM_nil,ints_fA 10 d own l,Option.pure_def,Option.bind_eq_bind,zcy]) fun m hm d out t hfr=>?_
 simp only [V2,Nat.reduceAdd,i59] at hfr
 have hlf:=l.few
 simp only [i59,V0,sevalprocAttr,hfr]
 refine zb (fun jj st=>∃ (i:Nat) (O:yLO),l.l.length - i<=jj/\(1<=i/\i<=l.l.length+1)/\ascTo l.l i/\st.own=O/\Slots 20 st.t [(0,l.v),(3,iv i)]) l.l.length (by omega) ⟨1,[],by omega,by omega,fun i x y h _ _=>by omega,rfl,by simp only [V0,sevalprocAttr,hfr,Int.natCast_one]⟩ ?_
 rintro jj ⟨t,own⟩ K ⟨i,O,hjj,hi,ha,ho,hfr⟩ hn he hr
 dsimp only at ho hfr
 subst ho
 simp only [V3] at hfr
 by_cases h:i<l.l.length
 ·obtain ⟨x,hx⟩:=gx (l:=l.l) (i:=i) h
  have h0:i - 1<l.l.length:=by omega
  obtain ⟨y,hy⟩:=gx (l:=l.l) (i:=i - 1) h0
  have hrx:rdN (l.l.flatMap intc) (i*1) 1=some [.int .i64 x]:=zc zj 0 1 hx (by omega)
  have hry:rdN (l.l.flatMap intc) ((i - 1)*1) 1=some [.int .i64 y]:=zc zj 0 1 hy (by omega)
  have hw:wrapI .i64 ((i:Int)+1)=((i+1:Nat):Int):=we
  have hv:wrapI .i64 ((i:Int) - 1)=((i - 1:Nat):Int):=we
  by_cases hb:x<=y
  ·simp only [V0,sevalprocAttr,hfr,h,za l h,za l h0,hrx,hry,hv,ge_iff_le,hb]
   refine ⟨by simp [comm],?_⟩
   simp only [V0,sevalprocAttr,hfr]
   refine hr _ ?_
   have hf:ascL l.l=false:=by
    rw [← zdy]
    intro hc
    have:=ZT.1 hc (i - 1) y x (by omega) hy (by rw [show i - 1+1=i by omega]; exact hx)
    omega
   simp only [V0,sevalprocAttr,hfr,hf]
  ·simp only [V0,sevalprocAttr,hfr,h,za l h,za l h0,hrx,hry,hv,ge_iff_le,hb]
   refine ⟨by simp [comm],?_⟩
   simp only [V0,sevalprocAttr,hfr,hw]
   refine hn _ (l.l.length - (i+1)) (by omega) ⟨i+1,_,by omega,by omega,?_,rfl,by simp only [V0,sevalprocAttr,hfr,hw]⟩
   intro j u v hj hu hv
   by_cases hj2:j+1<i
   ·exact ha j u v hj2 hu hv
   ·have e:j=i - 1:=by omega
    subst e
    rw [show i - 1+1=i by omega] at hv
    rw [hy] at hu
    rw [hx] at hv
    cases hu
    cases hv
    omega
 ·simp only [V0,sevalprocAttr,hfr,h]
  refine he _ _ ?_
  have hf:ascL l.l=true:=ZT.2 fun j u v hj hu hv=>ha j u v (by omega) hu hv
  simp only [V0,sevalprocAttr,hfr,hf]
theorem ar_limits (hS:NoS S) (p:Pn):GivesN S (p.as.l.length+4) 58 [.agg p.c] (.bool (limI p||limV p)):=by
 refine zd (i:=i58) (ns hS (by rfl)) rfl rfl (lb rfl) (p.as.l.length+3) (by omega) zk fun m hm d out t hfr=>?_
 simp only [V2,Nat.reduceAdd,i58,Pn.c] at hfr
 have haf:=p.as.few
 simp only [i58,V0,sevalprocAttr,hfr]
 refine zb (fun jj st=>∃ (i:Nat) (O:yLO),p.as.l.length - i<=jj/\i<=p.as.l.length/\(p.as.l.take i).any (fun a=>decide ((64:Int)<(a.via.l.length:Int)))=false/\st.own=.cells [p.ns.v,p.as.v,p.fs.v]::O/\Slots 35 st.t [(1,.ptrM d 0 0),(3,iv i)]) p.as.l.length (by omega) ⟨0,[],by omega,by omega,by simp,rfl,by simp only [V0,sevalprocAttr,hfr,zcp]⟩ ?_
 clear hfr
 rintro jj ⟨t,own⟩ KA ⟨i,O,hjj,hi,ha,ho,hfr⟩ hnA heA hrA
 dsimp only at ho hfr
 subst ho
 simp only [V3] at hfr
 by_cases h:i<p.as.l.length
 ·obtain ⟨x,hx⟩:=gx (l:=p.as.l) (i:=i) h
  have hrd:rdN (p.as.l.flatMap Ac.c) (i*6+3) 1=some [x.via.v]:=(zc Ac.c_len 3 1 hx (by omega)).trans rfl
  have hw:wrapI .i64 ((i:Int)+1)=((i+1:Nat):Int):=we
  cases hq:decide ((64:Int)<(x.via.l.length:Int))
  ·simp only [V0,sevalprocAttr,hfr,h,za p.as h,hrd,gt_iff_lt,hq,hw]
   exact hnA _ (p.as.l.length - (i+1)) (by omega) ⟨i+1,_,by omega,by omega,zG hx ha hq,rfl,by simp only [V0,sevalprocAttr,hfr,hw]⟩
  ·have hlv:limV p=true:=zW (q:=fun a:Ac=>decide ((64:Int)<(a.via.l.length:Int))) hx hq
   simp only [V0,sevalprocAttr,hfr,h,za p.as h,hrd,gt_iff_lt,hq]
   refine hrA _ ?_
   simp only [V0,sevalprocAttr,hfr,hlv,Bool.or_true]
 ·have hlv:limV p=false:=by
   unfold limV
   rw [← zcm (l:=p.as.l) (i:=i) (by omega)]
   exact ha
  simp only [V0,sevalprocAttr,hfr,h]
  refine heA _ _ ?_
  unfold limI
  rw [hlv,Bool.or_false]
  cases l1:decide ((256:Int)<(p.ns.l.length:Int))
  ·cases l2:decide ((256:Int)<(p.as.l.length:Int))
   ·simp only [V0,sevalprocAttr,hfr,gt_iff_lt,l1,l2,zdi]
   ·simp only [V0,sevalprocAttr,hfr,gt_iff_lt,l1,l2,zdi,zdm]
  ·simp only [V0,sevalprocAttr,hfr,gt_iff_lt,l1,zdm]
theorem ar_face (hS:NoS S) (p:Pn) (n:Int):GivesN S (p.fs.l.length+4) 64 [.agg p.c,iv n] (.bool (hasI p.fs.l n||n==0)):=by
 refine zd (i:=i64) (ns hS (by rfl)) rfl rfl (lb rfl) (p.fs.l.length+3) (by omega) zk fun m hm d out t hfr=>?_
 simp only [V2,Nat.reduceAdd,i64,Pn.c,zo] at hfr
 have haf:=p.fs.few
 simp only [i64,V0,sevalprocAttr,hfr]
 refine zb (fun jj st=>∃ (i:Nat) (O:yLO),p.fs.l.length - i<=jj/\i<=p.fs.l.length/\(p.fs.l.take i).any (fun x=>n==x)=false/\st.own=.cells [p.ns.v,p.as.v,p.fs.v]::O/\Slots 22 st.t [(1,iv n),(2,.ptrM d 0 0),(5,iv i)]) p.fs.l.length (by omega) ⟨0,[],by omega,by omega,by simp,rfl,by simp only [V0,sevalprocAttr,hfr,zcp]⟩ ?_
 clear hfr
 rintro jj ⟨t,own⟩ KA ⟨i,O,hjj,hi,ha,ho,hfr⟩ hnA heA hrA
 dsimp only at ho hfr
 subst ho
 simp only [V3] at hfr
 by_cases h:i<p.fs.l.length
 ·obtain ⟨x,hx⟩:=gx (l:=p.fs.l) (i:=i) h
  have hrd:rdN (p.fs.l.flatMap intc) (i*1) 1=some [.int .i64 x]:=zc zj 0 1 hx (by omega)
  have hw:wrapI .i64 ((i:Int)+1)=((i+1:Nat):Int):=we
  have hsw:(n==x)=(x==n):=by
   rw [zdz]
   simp only [beq_iff_eq]
   exact eq_comm
  cases hq:x==n
  ·simp only [V0,sevalprocAttr,hfr,h,za p.fs h,hrd,hq,hw]
   exact hnA _ (p.fs.l.length - (i+1)) (by omega) ⟨i+1,_,by omega,by omega,zG hx ha (hsw.trans hq),rfl,by simp only [V0,sevalprocAttr,hfr,hw]⟩
  ·have hh:hasI p.fs.l n=true:=zW (q:=fun x=>n==x) hx (hsw.trans hq)
   simp only [V0,sevalprocAttr,hfr,h,za p.fs h,hrd,hq]
   refine hrA _ ?_
   simp only [V0,sevalprocAttr,hfr,hh,zdm]
 ·have hh:hasI p.fs.l n=false:=by
   unfold hasI
   rw [← zcm (l:=p.fs.l) (i:=i) (by omega)]
   exact ha
  simp only [V0,sevalprocAttr,hfr,h]
  refine heA _ _ ?_
  simp only [V0,sevalprocAttr,hfr,hh,zdi]
def endB (a:Ac) (id:Int):Bool:=a.fr==id||a.to==id
theorem ar_ends (hS:NoS S) (a:Ac) (id:Int):GivesN S 2 122 [.agg a.c,iv id] (.bool (endB a id)):=by
 refine zd (i:=i122) (ns hS (by rfl)) rfl rfl (lb rfl) (1) (by omega) zk fun m hm d out t hfr=>?_
 simp only [V2,Nat.reduceAdd,i122,Ac.c,zo] at hfr
 unfold endB
 cases h1:a.fr==id
 ·simp only [i122,V0,sevalprocAttr,hfr,h1,zdi]
 ·simp only [i122,V0,sevalprocAttr,hfr,h1,zdm]
theorem ar_twice (hS:NoS S) (p:Pn):GivesN S (2*p.ns.l.length+8) 62 [.agg p.c] (.bool (dupPt p.ns.l)):=by
 refine zd (i:=i62) (ns hS (by rfl)) rfl rfl (lb rfl) (2*p.ns.l.length+7) (by omega) zk fun m hm d out t hfr=>?_
 simp only [V2,Nat.reduceAdd,i62,Pn.c] at hfr
 have hnf:=p.ns.few
 simp only [i62,V0,sevalprocAttr,hfr]
 refine zb (fun jj st=>∃ (i:Nat) (O:yLO),p.ns.l.length - i<=jj/\i<=p.ns.l.length/\(p.ns.l.zipIdx.take i).any (fun ni=>(p.ns.l.take ni.2).any fun m=>ptE ni.1.at' m.at')=false/\st.own=.cells [p.ns.v,p.as.v,p.fs.v]::O/\Slots 30 st.t [(1,.ptrM d 0 0),(3,iv i)]) p.ns.l.length (by omega) ⟨0,[],by omega,by omega,by simp,rfl,by simp only [V0,sevalprocAttr,hfr,zcp]⟩ ?_
 rintro jj ⟨t,own⟩ KA ⟨i,O,hjj,hi,ha,ho,hfr⟩ hnA heA hrA
 dsimp only at ho hfr
 subst ho
 simp only [V3] at hfr
 by_cases h:i<p.ns.l.length
 ·obtain ⟨x,hx⟩:=gx (l:=p.ns.l) (i:=i) h
  have hxz:p.ns.l.zipIdx[i]?=some (x,i):=by rw [List.getElem?_zipIdx,hx]; simp
  have hrd:rdN (p.ns.l.flatMap Nd.c) (i*3+1) 2=some [.int .i64 x.at'.x,.int .i64 x.at'.y]:=(zc Nd.c_len 1 2 hx (by omega)).trans rfl
  have hw:wrapI .i64 ((i:Int)+1)=((i+1:Nat):Int):=we
  simp only [V0,sevalprocAttr,hfr,h]
  refine zb (fun jj st=>∃ (k:Nat) (R:yLO),i - k<=jj/\k<=i/\(p.ns.l.take k).any (fun m=>ptE x.at' m.at')=false/\st.own=.cells [p.ns.v,p.as.v,p.fs.v]::R/\Slots 30 st.t [(1,.ptrM d 0 0),(3,iv i),(4,iv k)]) i (by omega) ⟨0,_,by omega,by omega,by simp,rfl,by simp only [V0,sevalprocAttr,hfr,zcp]⟩ ?_
  clear hfr
  rintro jj2 ⟨t,own⟩ KB ⟨k,R,hjk,hk,hb,ho,hfr⟩ hnB heB hrB
  dsimp only at ho hfr
  subst ho
  simp only [V3] at hfr
  by_cases h2:k<i
  ·have hkl:k<p.ns.l.length:=by omega
   obtain ⟨y,hy⟩:=gx (l:=p.ns.l) (i:=k) hkl
   have hry:rdN (p.ns.l.flatMap Nd.c) (k*3+1) 2=some [.int .i64 y.at'.x,.int .i64 y.at'.y]:=(zc Nd.c_len 1 2 hy (by omega)).trans rfl
   have hwk:wrapI .i64 ((k:Int)+1)=((k+1:Nat):Int):=we
   cases hq:ptE x.at' y.at'
   ·have hq':=hq
    unfold ptE at hq'
    simp only [V0,sevalprocAttr,hfr,h2,za p.ns h,za p.ns hkl,hrd,hry,zI,hq',zcz]
    refine ⟨by simp [comm],?_⟩
    simp only [V0,sevalprocAttr,hfr,zI,hq',zcz,hwk]
    exact hnB _ (i - (k+1)) (by omega) ⟨k+1,_,by omega,by omega,zG hy hb hq,rfl,by simp only [V0,sevalprocAttr,hfr,hwk]⟩
   ·have hq':=hq
    unfold ptE at hq'
    simp only [V0,sevalprocAttr,hfr,h2,za p.ns h,za p.ns hkl,hrd,hry,zI,hq',zcz]
    refine ⟨by simp [comm],?_⟩
    simp only [V0,sevalprocAttr,hfr,zI,hq',zcz]
    refine hrB _ ?_
    simp only [V0,sevalprocAttr,hfr]
    refine hrA _ ?_
    have hf:dupPt p.ns.l=true:=by
     refine zW hxz ?_
     show (p.ns.l.take i).any (fun m=>ptE x.at' m.at')=true
     exact zW (q:=fun m=>ptE x.at' m.at') (show (p.ns.l.take i)[k]?=some y by rw [zdt,if_pos h2]; exact hy) hq
    simp only [V0,sevalprocAttr,hfr,hf]
  ·simp only [V0,sevalprocAttr,hfr,h2]
   refine heB _ _ ?_
   simp only [V0,sevalprocAttr,hfr,hw]
   have hki:k=i:=by omega
   subst hki
   exact hnA _ (p.ns.l.length - (k+1)) (by omega) ⟨k+1,_,by omega,by omega,zG hxz ha hb,rfl,by simp only [V0,sevalprocAttr,hfr,hw]⟩
 ·have hdup:dupPt p.ns.l=false:=by
   unfold dupPt
   rw [← zcm (l:=p.ns.l.zipIdx) (i:=i) (by rw [List.length_zipIdx]; omega)]
   exact ha
  simp only [V0,sevalprocAttr,hfr,h]
  refine heA _ _ ?_
  simp only [V0,sevalprocAttr,hfr,hdup]
end
end
section
structure Rg where
 a:Ac
 (k n:Nat)
 (A B:Pt)
def Rg.c (s:Rg):List IV:=[.int .i64 s.a.id,.int .i64 s.a.fr,.int .i64 s.a.to,s.a.via.v,.int .i64 s.a.l,.int .i64 s.a.r,.int .i64 (s.k:Int),.int .i64 (s.n:Int),.int .i64 s.A.x,.int .i64 s.A.y,.int .i64 s.B.x,.int .i64 s.B.y]
theorem Rg.c_len (s:Rg):s.c.length=12:=rfl
def Rg.sp (s:Rg):Sp:=⟨s.a.id,s.a.fr,s.a.to,s.k,s.n,s.A,s.B⟩
noncomputable def Sp.meetR (s t:Sp):Int:=Go.Proofs.YtelocmclpfincaaGreatDoor.meetR s.A s.B t.A t.B
noncomputable def apartB (s t:Sp):Bool:=bif (t.k:Int)==((s.k+1:Nat):Int) then s.meetR t==1 else bif (s.k:Int)==0&&((t.k:Int)==((t.n - 1:Nat):Int)&&s.fr==s.to) then s.meetR t==1 else s.meetR t==0
def endS (s:Sp) (id:Int):Bool:=s.fr==id||s.to==id
noncomputable def joinNd (s t:Sp) (x:Nd):Bool:=endS s x.id&&(endS t x.id&&(onR s.A s.B x.at'&&onR t.A t.B x.at'))
noncomputable def joinedB (ns:List Nd) (s t:Sp):Bool:=bif s.meetR t==1 then ns.any (joinNd s t) else s.meetR t==0
def isEnd (s:Sp) (x:Nd):Bool:=((s.k:Int)==0&&s.fr==x.id)||((s.k:Int)==((s.n - 1:Nat):Int)&&s.to==x.id)
noncomputable def aloneNd (s:Sp) (x:Nd):Bool:=!isEnd s x&&onR s.A s.B x.at'
noncomputable def aloneB (ns:List Nd) (s:Sp):Bool:=!ns.any (aloneNd s)&&(!ptE s.A s.B&&(s.fr != s.to||decide ((3:Int)<=(s.n:Int))))
section
variable {S:ySM}
theorem ar_apart (hS:NoS S) (s u:Rg) (ho:s.k<s.n/\s.n<=1000000) (hu:u.k<u.n/\u.n<=1000000):GivesN S 18 102 [.agg s.c,.agg u.c] (.bool (apartB s.sp u.sp)):=by
 refine zd (i:=i102) (ns hS (by rfl)) rfl rfl (lb rfl) (17) (by omega) zk fun m hm d out t hfr=>?_
 simp only [V2,Nat.reduceAdd,i102,Rg.c] at hfr
 have cm:=fun dd out ownV own i=>ar_meet hS s.A s.B u.A u.B m (by omega) dd out ownV own i
 simp only [Pt.c,zo] at cm
 have w1:wrapI .i64 ((s.k:Int)+1)=((s.k+1:Nat):Int):=we
 have w2:wrapI .i64 ((u.n:Int) - 1)=((u.n - 1:Nat):Int):=we
 unfold apartB Sp.meetR Rg.sp
 dsimp only
 generalize meetR s.A s.B u.A u.B=c at cm
 cases h1:(u.k:Int)==((s.k+1:Nat):Int)
 ·cases h2:(s.k:Int)==0
  ·simp only [i102,V0,sevalprocAttr,hfr,cm,w1,w2,h1,h2,cond_false,zcg]
  ·cases h3:(u.k:Int)==((u.n - 1:Nat):Int)
   ·simp only [i102,V0,sevalprocAttr,hfr,cm,w1,w2,h1,h2,h3,cond_false,zcg,zcn]
   ·cases h4:s.a.fr==s.a.to
    ·simp only [i102,V0,sevalprocAttr,hfr,cm,w1,w2,h1,h2,h3,h4,cond_false,zcn]
    ·simp only [i102,V0,sevalprocAttr,hfr,cm,w1,w2,h1,h2,h3,h4,cond_false,cond_true,zcn]
 ·simp only [i102,V0,sevalprocAttr,hfr,cm,w1,w2,h1,cond_true]
theorem ar_joined (hS:NoS S) (p:Pn) (s u:Rg):GivesN S (p.ns.l.length+24) 103 [.agg p.c,.agg s.c,.agg u.c] (.bool (joinedB p.ns.l s.sp u.sp)):=by
 refine zd (i:=i103) (ns hS (by rfl)) rfl rfl (lb rfl) (p.ns.l.length+23) (by omega) zk fun m hm d out t hfr=>?_
 simp only [V2,Nat.reduceAdd,i103,Rg.c,Pn.c] at hfr
 have cm:=fun dd out ownV own i=>ar_meet hS s.A s.B u.A u.B m (by omega) dd out ownV own i
 simp only [Pt.c,zo] at cm
 have hnf:=p.ns.few
 have hbne:∀ z:Int,(z != 1)=!(z==1):=fun z=>rfl
 unfold joinedB Sp.meetR
 rw [show (Rg.sp s).A=s.A from rfl,show (Rg.sp s).B=s.B from rfl,show (Rg.sp u).A=u.A from rfl,show (Rg.sp u).B=u.B from rfl]
 generalize meetR s.A s.B u.A u.B=c at cm
 cases h1:c==1
 ·simp only [i103,V0,sevalprocAttr,hfr,cm,hbne,h1,zch,cond_false]
 ·have ce1:∀ (z:Int) dd out ownV own i,callN Ftab S m dd out ownV own i 122 [.agg [.int .i64 s.a.id,.int .i64 s.a.fr,.int .i64 s.a.to,s.a.via.v,.int .i64 s.a.l,.int .i64 s.a.r],.int .i64 z]=some (.r,.bool (endS s.sp z),own):=fun z dd out ownV own i=>ar_ends hS s.a z m (by omega) dd out ownV own i
  have ce2:∀ (z:Int) dd out ownV own i,callN Ftab S m dd out ownV own i 122 [.agg [.int .i64 u.a.id,.int .i64 u.a.fr,.int .i64 u.a.to,u.a.via.v,.int .i64 u.a.l,.int .i64 u.a.r],.int .i64 z]=some (.r,.bool (endS u.sp z),own):=fun z dd out ownV own i=>ar_ends hS u.a z m (by omega) dd out ownV own i
  have co1:∀ (w:Pt) dd out ownV own i,callN Ftab S m dd out ownV own i 120 [.agg [.int .i64 s.A.x,.int .i64 s.A.y],.agg [.int .i64 s.B.x,.int .i64 s.B.y],.agg [.int .i64 w.x,.int .i64 w.y]]=some (.r,.bool (onR s.A s.B w),own):=fun w dd out ownV own i=>ar_on hS s.A s.B w m (by omega) dd out ownV own i
  have co2:∀ (w:Pt) dd out ownV own i,callN Ftab S m dd out ownV own i 120 [.agg [.int .i64 u.A.x,.int .i64 u.A.y],.agg [.int .i64 u.B.x,.int .i64 u.B.y],.agg [.int .i64 w.x,.int .i64 w.y]]=some (.r,.bool (onR u.A u.B w),own):=fun w dd out ownV own i=>ar_on hS u.A u.B w m (by omega) dd out ownV own i
  simp only [i103,V0,sevalprocAttr,hfr,cm,hbne,h1,zci,cond_true]
  refine zb (fun jj st=>∃ (i:Nat) (O:yLO),p.ns.l.length - i<=jj/\i<=p.ns.l.length/\(p.ns.l.take i).any (joinNd s.sp u.sp)=false/\st.own=.cells [p.ns.v,p.as.v,p.fs.v]::.cells s.c::.cells u.c::O/\Slots 65 st.t [(3,.ptrM d 0 0),(4,.ptrM d 1 0),(5,.ptrM d 2 0),(8,iv i)]) p.ns.l.length (by omega) ⟨0,_,by omega,by omega,by simp,rfl,by simp only [V0,sevalprocAttr,hfr,zcp,cm]⟩ ?_
  clear hfr
  rintro jj ⟨t,own⟩ KA ⟨i,O,hjj,hi,ha,ho,hfr⟩ hnA heA hrA
  dsimp only [Rg.c] at ho hfr
  subst ho
  simp only [V3] at hfr
  by_cases h:i<p.ns.l.length
  ·obtain ⟨x,hx⟩:=gx (l:=p.ns.l) (i:=i) h
   have hrd:rdN (p.ns.l.flatMap Nd.c) (i*3) 3=some [.int .i64 x.id,.int .i64 x.at'.x,.int .i64 x.at'.y]:=(zc Nd.c_len 0 3 hx (by omega)).trans rfl
   have hw:wrapI .i64 ((i:Int)+1)=((i+1:Nat):Int):=we
   have gx:∀ (R:yLO),(IObj.cells [p.ns.v,p.as.v,p.fs.v]::.cells s.c::.cells u.c::(O++.cells [.int .i64 x.id,.int .i64 x.at'.x,.int .i64 x.at'.y]::R))[O.length+1+1+1]?=some (.cells [.int .i64 x.id,.int .i64 x.at'.x,.int .i64 x.at'.y]):=fun R=>by simp
   cases q1:endS s.sp x.id
   ·simp only [V0,sevalprocAttr,hfr,h,za p.ns h,hrd,ce1,ce2,co1,co2,q1]
    exact hnA _ (p.ns.l.length - (i+1)) (by omega) ⟨i+1,_,by omega,by omega,zG hx ha (by simp only [joinNd,q1,zcg]),rfl,by simp only [V0,sevalprocAttr,hfr,hw,q1]⟩
   ·cases q2:endS u.sp x.id
    ·simp only [V0,sevalprocAttr,hfr,h,za p.ns h,hrd,ce1,ce2,co1,co2,q1,q2]
     exact hnA _ (p.ns.l.length - (i+1)) (by omega) ⟨i+1,_,by omega,by omega,zG hx ha (by simp only [joinNd,q1,q2,zcg,zcn]),rfl,by simp only [V0,sevalprocAttr,hfr,hw,q1,q2]⟩
    ·cases q3:onR s.A s.B x.at'
     ·simp only [V0,sevalprocAttr,hfr,h,za p.ns h,hrd,ce1,ce2,co1,co2,q1,q2,q3]
      exact hnA _ (p.ns.l.length - (i+1)) (by omega) ⟨i+1,_,by omega,by omega,zG hx ha (by simp only [joinNd,Rg.sp,q3,zcg,zc4]),rfl,by simp only [V0,sevalprocAttr,hfr,hw,q1,q2,q3]⟩
     ·cases q4:onR u.A u.B x.at'
      ·simp only [V0,sevalprocAttr,hfr,h,za p.ns h,hrd,ce1,ce2,co1,co2,q1,q2,q3,q4]
       exact hnA _ (p.ns.l.length - (i+1)) (by omega) ⟨i+1,_,by omega,by omega,zG hx ha (by simp only [joinNd,Rg.sp,q4,zc4]),rfl,by simp only [V0,sevalprocAttr,hfr,hw,q1,q2,q3,q4]⟩
      ·have hhit:p.ns.l.any (joinNd s.sp u.sp)=true:=zW hx (by rw [joinNd,q1,q2]; simp only [Rg.sp,q3,q4,Bool.and_self])
       simp only [V0,sevalprocAttr,hfr,h,za p.ns h,hrd,ce1,ce2,co1,co2,q1,q2,q3,q4]
       refine hrA _ ?_
       simp only [V0,sevalprocAttr,hfr,hhit]
  ·have hnone:p.ns.l.any (joinNd s.sp u.sp)=false:=by
    rw [← zcm (l:=p.ns.l) (i:=i) (by omega)]
    exact ha
   simp only [V0,sevalprocAttr,hfr,h]
   refine heA _ _ ?_
   simp only [V0,sevalprocAttr,hfr,hnone]
end
end
section
section
variable {S:ySM}
theorem ar_alone (hS:NoS S) (p:Pn) (s:Rg) (ho:s.k<s.n/\s.n<=1000000):GivesN S (p.ns.l.length+24) 101 [.agg p.c,.agg s.c] (.bool (aloneB p.ns.l s.sp)):=by
 refine zd (i:=i101) (ns hS (by rfl)) rfl rfl (lb rfl) (p.ns.l.length+23) (by omega) zk fun m hm d out t hfr=>?_
 simp only [V2,Nat.reduceAdd,i101,Rg.c,Pn.c] at hfr
 have hnf:=p.ns.few
 have w2:wrapI .i64 ((s.n:Int) - 1)=((s.n - 1:Nat):Int):=we
 have co1:∀ (w:Pt) dd out ownV own i,callN Ftab S m dd out ownV own i 120 [.agg [.int .i64 s.A.x,.int .i64 s.A.y],.agg [.int .i64 s.B.x,.int .i64 s.B.y],.agg [.int .i64 w.x,.int .i64 w.y]]=some (.r,.bool (onR s.A s.B w),own):=fun w dd out ownV own i=>ar_on hS s.A s.B w m (by omega) dd out ownV own i
 have hN:∀ x:Nd,aloneNd s.sp x=(!isEnd s.sp x&&onR s.A s.B x.at'):=fun x=>rfl
 have hI:∀ x:Nd,isEnd s.sp x=(((s.k:Int)==0&&s.a.fr==x.id)||((s.k:Int)==((s.n - 1:Nat):Int)&&s.a.to==x.id)):=fun x=>rfl
 simp only [i101,V0,sevalprocAttr,hfr]
 refine zb (fun jj st=>∃ (i:Nat) (O:yLO),p.ns.l.length - i<=jj/\i<=p.ns.l.length/\(p.ns.l.take i).any (aloneNd s.sp)=false/\st.own=.cells [p.ns.v,p.as.v,p.fs.v]::.cells s.c::O/\Slots 77 st.t [(2,.ptrM d 0 0),(3,.ptrM d 1 0),(5,iv i)]) p.ns.l.length (by omega) ⟨0,_,by omega,by omega,by simp,rfl,by simp only [V0,sevalprocAttr,hfr,zcp]⟩ ?_
 clear hfr
 rintro jj ⟨t,own⟩ KA ⟨i,O,hjj,hi,ha,ho1,hfr⟩ hnA heA hrA
 dsimp only [Rg.c] at ho1 hfr
 subst ho1
 simp only [V3] at hfr
 by_cases h:i<p.ns.l.length
 ·obtain ⟨x,hx⟩:=gx (l:=p.ns.l) (i:=i) h
  have hrd:rdN (p.ns.l.flatMap Nd.c) (i*3) 3=some [.int .i64 x.id,.int .i64 x.at'.x,.int .i64 x.at'.y]:=(zc Nd.c_len 0 3 hx (by omega)).trans rfl
  have hw:wrapI .i64 ((i:Int)+1)=((i+1:Nat):Int):=we
  have fin:∀ (t:List IV) (O:yLO) (e:Bool),isEnd s.sp x=e->Slots 77 t [(2,.ptrM d 0 0),(3,.ptrM d 1 0),(5,iv i),(7,.bool e),(6,.ptrM d (O.length+1+1) 0)]->True:=fun _ _ _ _ _=>trivial
  have next:onR s.A s.B x.at'=false∨isEnd s.sp x=true->(p.ns.l.take (i+1)).any (aloneNd s.sp)=false:=fun hh=>zG hx ha (by
   rw [hN]
   rcases hh with hh | hh <;> rw [hh] <;> simp)
  have stop:onR s.A s.B x.at'=true->isEnd s.sp x=false->p.ns.l.any (aloneNd s.sp)=true:=fun h1 h2=>zW hx (by rw [hN,h1,h2]; rfl)
  cases f:(s.k:Int)==0
  ·cases l:(s.k:Int)==((s.n - 1:Nat):Int)
   ·have he:isEnd s.sp x=false:=by rw [hI,f,l]; rfl
    cases o:onR s.A s.B x.at'
    ·simp only [V0,sevalprocAttr,hfr,h,za p.ns h,hrd,w2,co1,f,l,o,hw]
     exact hnA _ (p.ns.l.length - (i+1)) (by omega) ⟨i+1,_,by omega,by omega,next (.inl o),rfl,by simp only [V0,sevalprocAttr,hfr,hw,f,l,o]⟩
    ·simp only [V0,sevalprocAttr,hfr,h,za p.ns h,hrd,w2,co1,f,l,o]
     refine hrA _ ?_
     simp only [V0,sevalprocAttr,hfr,aloneB,stop o he,zci,zcg]
   ·cases e2:s.a.to==x.id
    ·have he:isEnd s.sp x=false:=by rw [hI,f,l,e2]; rfl
     cases o:onR s.A s.B x.at'
     ·simp only [V0,sevalprocAttr,hfr,h,za p.ns h,hrd,w2,co1,f,l,e2,o,hw]
      exact hnA _ (p.ns.l.length - (i+1)) (by omega) ⟨i+1,_,by omega,by omega,next (.inl o),rfl,by simp only [V0,sevalprocAttr,hfr,hw,f,l,e2,o]⟩
     ·simp only [V0,sevalprocAttr,hfr,h,za p.ns h,hrd,w2,co1,f,l,e2,o]
      refine hrA _ ?_
      simp only [V0,sevalprocAttr,hfr,aloneB,stop o he,zci,zcg]
    ·have he:isEnd s.sp x=true:=by rw [hI,f,l,e2]; rfl
     simp only [V0,sevalprocAttr,hfr,h,za p.ns h,hrd,w2,co1,f,l,e2,hw]
     exact hnA _ (p.ns.l.length - (i+1)) (by omega) ⟨i+1,_,by omega,by omega,next (.inr he),rfl,by simp only [V0,sevalprocAttr,hfr,hw,f,l,e2]⟩
  ·cases e1:s.a.fr==x.id
   ·cases l:(s.k:Int)==((s.n - 1:Nat):Int)
    ·have he:isEnd s.sp x=false:=by rw [hI,f,e1,l]; rfl
     cases o:onR s.A s.B x.at'
     ·simp only [V0,sevalprocAttr,hfr,h,za p.ns h,hrd,w2,co1,f,e1,l,o,hw]
      exact hnA _ (p.ns.l.length - (i+1)) (by omega) ⟨i+1,_,by omega,by omega,next (.inl o),rfl,by simp only [V0,sevalprocAttr,hfr,hw,f,e1,l,o]⟩
     ·simp only [V0,sevalprocAttr,hfr,h,za p.ns h,hrd,w2,co1,f,e1,l,o]
      refine hrA _ ?_
      simp only [V0,sevalprocAttr,hfr,aloneB,stop o he,zci,zcg]
    ·cases e2:s.a.to==x.id
     ·have he:isEnd s.sp x=false:=by rw [hI,f,e1,l,e2]; rfl
      cases o:onR s.A s.B x.at'
      ·simp only [V0,sevalprocAttr,hfr,h,za p.ns h,hrd,w2,co1,f,e1,l,e2,o,hw]
       exact hnA _ (p.ns.l.length - (i+1)) (by omega) ⟨i+1,_,by omega,by omega,next (.inl o),rfl,by simp only [V0,sevalprocAttr,hfr,hw,f,e1,l,e2,o]⟩
      ·simp only [V0,sevalprocAttr,hfr,h,za p.ns h,hrd,w2,co1,f,e1,l,e2,o]
       refine hrA _ ?_
       simp only [V0,sevalprocAttr,hfr,aloneB,stop o he,zci,zcg]
     ·have he:isEnd s.sp x=true:=by rw [hI,f,e1,l,e2]; rfl
      simp only [V0,sevalprocAttr,hfr,h,za p.ns h,hrd,w2,co1,f,e1,l,e2,hw]
      exact hnA _ (p.ns.l.length - (i+1)) (by omega) ⟨i+1,_,by omega,by omega,next (.inr he),rfl,by simp only [V0,sevalprocAttr,hfr,hw,f,e1,l,e2]⟩
   ·have he:isEnd s.sp x=true:=by rw [hI,f,e1]; rfl
    simp only [V0,sevalprocAttr,hfr,h,za p.ns h,hrd,w2,co1,f,e1,hw]
    exact hnA _ (p.ns.l.length - (i+1)) (by omega) ⟨i+1,_,by omega,by omega,next (.inr he),rfl,by simp only [V0,sevalprocAttr,hfr,hw,f,e1]⟩
 ·have hnone:p.ns.l.any (aloneNd s.sp)=false:=by
   rw [← zcm (l:=p.ns.l) (i:=i) (by omega)]
   exact ha
  have q1:(true != false)=true:=rfl
  have q2:(true != true)=false:=rfl
  have hbne:∀ y z:Int,(y != z)=!(y==z):=fun y z=>rfl
  have hval:aloneB p.ns.l s.sp=(!ptE s.A s.B&&(s.a.fr != s.a.to||decide ((3:Int)<=(s.n:Int)))):=by
   unfold aloneB
   rw [hnone]
   rfl
  simp only [V0,sevalprocAttr,hfr,h]
  refine heA _ _ ?_
  cases h1:ptE s.A s.B
  ·have h1':(s.A.x==s.B.x&&s.A.y==s.B.y)=false:=h1
   cases h2:s.a.fr==s.a.to
   ·simp only [V0,sevalprocAttr,hfr,hval,h1,zI,h1',q1,hbne,h2,zch,zcn,zdm]
   ·simp only [V0,sevalprocAttr,hfr,hval,h1,zI,h1',q1,hbne,h2,zch,zci,zcn,zdi,ge_iff_le]
  ·have h1':(s.A.x==s.B.x&&s.A.y==s.B.y)=true:=h1
   simp only [V0,sevalprocAttr,hfr,hval,h1,zI,h1',q2,zci,zcg]
end
end
section
theorem ownJ_fzK {α:Type} {g:α->List IV} {sz k:Nat} (hs:∀ a,(g a).length=sz) (hf:∀ a,∀ x∈g a,Fz k x) {d m:Nat} {Pre J:yLO} {lv:IV} {xs:List α} (hm:k+1<=m) (hx:xs.length<9223372036854775808) (h:OwnJ g sz d Pre.length J lv xs):freeze m d (Pre++J) lv=some (rowQ hs xs hx).v:=by
 rcases h with ⟨rfl,rfl⟩ | ⟨b,hne,rfl,h2⟩
 ·exact ZL m (by omega) d _
 ·cases xs with
  | nil=>exact absurd rfl hne
  | cons x t=>exact yl (k:=k) hf (by omega) rfl hs (by rw [yr]; exact h2)
theorem ownJ_appV {α:Type} {g:α->List IV} {sz:Nat} (hs:∀ a,(g a).length=sz) {d n0 slot k:Nat} {out:yLM} {Pre J R V:yLO} {lv:IV} {xs ys:List α} (h:OwnJ g sz d Pre.length J lv xs) (hy:ys.length≠0) (hx:xs.length+ys.length<=1073741824) (hk:n0+slot=Pre.length+(J.length+k)) (hf:R[k]?=some .free)
  (hsc:(ys.flatMap g).all IV.scalar=true) (hV:∀ b x,J[b]?=some x->V[Pre.length+b]?=some x) :
  ∃ e lv' J2,appendI d n0 (look d out V) (Pre++(J++R)) sz lv (ys.flatMap g) ys.length slot=some (e,lv',Pre++J2)/\OwnJ g sz d Pre.length J2 lv' (xs++ys):=by
 have hkl:k<R.length:=(zcf.1 hf).1
 have hget:(J++R)[J.length+k]?=some .free:=by
  rw [zct (by omega),zds]
  exact hf
 have hlt:J.length+k<(J++R).length:=by rw [zc8]; omega
 have hne:xs++ys≠[]:=by
  intro he
  exact hy (by rw [(List.append_eq_nil_iff.1 he).2]; rfl)
 rcases h with ⟨rfl,rfl⟩ | ⟨b,_,rfl,h2⟩
 ·rw [ZC hy (by unfold bound; simp at hx; omega)]
  unfold mkAt
  rw [hk,yr,hget]
  simp only [zf]
  rw [yX]
  refine ⟨_,_,_,rfl,.inr ⟨J.length+k,hne,by simp,?_⟩⟩
  rw [zdw hlt]
  rfl
 ·have hb:b<J.length:=(zcf.1 h2).1
  rw [yE hy hx (zx hs) hsc (by simp only [look,if_true]; exact hV b _ h2)]
  unfold killAt
  rw [hk,yr,hget]
  simp only [zf]
  rw [yX,yX]
  refine ⟨_,_,_,rfl,.inr ⟨J.length+k,hne,by simp,?_⟩⟩
  rw [zdw (by rw [List.length_set]; exact hlt)]
  simp
theorem hide_pre {vis:List Nat} {Pre J R:yLO} {b:Nat} {x:IObj} (h:J[b]?=some x):(hide vis (Pre.length+J.length) (Pre++(J++R)))[Pre.length+b]?=some x:=by
 have hb:=(zcf.1 h).1
 rw [zy,yr,zco hb,h,zck,decide_eq_true (show Pre.length+b<Pre.length+J.length by omega)]
 rfl
theorem rg_fz (s:Rg):∀ x∈s.c,Fz 3 x:=fun x hx=>by
 simp only [Rg.c,zdn,zdx,or_false] at hx
 have hi:∀ (k:IntKind) (z:Int),Fz 3 (.int k z):=fun k z n hn=>zw n (by omega)
 rcases hx with rfl | rfl | rfl | rfl | rfl | rfl | rfl | rfl | rfl | rfl | rfl | rfl
 ·exact hi _ _
 ·exact hi _ _
 ·exact hi _ _
 ·exact Z0 ptC_fz s.a.via
 all_goals exact hi _ _
def lineR (p:Pn) (a:Ac):List Pt:=(nodeD p a.fr).at'::(a.via.l++[(nodeD p a.to).at'])
def rgsOf (a:Ac) (l:List Pt):List Rg:=(List.range (l.length - 1)).map fun k=>⟨a,k,l.length - 1,l.getD k zPt,l.getD (k+1) zPt⟩
def rgsL (p:Pn):List Rg:=p.as.l.flatMap fun a=>rgsOf a (lineR p a)
theorem Y1 {a:Ac} {l:List Pt}:(rgsOf a l).length=l.length - 1:=by simp [rgsOf]
theorem rgsOf_at {a:Ac} {l:List Pt} {k:Nat} {x y:Pt} (hx:l[k]?=some x) (hy:l[k+1]?=some y):(rgsOf a l).take (k+1)=(rgsOf a l).take k++[⟨a,k,l.length - 1,x,y⟩]:=by
 have hl:=(zcf.1 hy).1
 have e:(rgsOf a l)[k]?=some ⟨a,k,l.length - 1,x,y⟩:=by
  unfold rgsOf
  rw [zc9,List.getElem?_range (by omega)]
  simp [zc0,hx,hy]
 rw [zdv,e]
 rfl
theorem Y3 {p:Pn} {a:Ac} (h:a.via.l.length<=1000):(lineR p a).length<=1002:=by
 simp [lineR]
 omega
theorem zb3 {p:Pn} (hv:∀ a∈p.as.l,a.via.l.length<=1000) (i:Nat):((p.as.l.take i).flatMap fun a=>rgsOf a (lineR p a)).length<=(p.as.l.take i).length*1001:=flat_le fun a ha=>by
 have:=Y3 (p:=p) (hv a (List.mem_of_mem_take ha))
 rw [Y1]
 omega
theorem zar {p:Pn} (hv:∀ a∈p.as.l,a.via.l.length<=1000) (ha:p.as.l.length<=1000):(rgsL p).length<9223372036854775808:=by
 have:=zb3 hv p.as.l.length
 rw [List.take_length] at this
 unfold rgsL
 omega
section
variable {S:ySM}
theorem ar_segs (hS:NoS S) (p:Pn) (hv:∀ a∈p.as.l,a.via.l.length<=1000) (ha:p.as.l.length<=1000):∃ N,GivesN S N 100 [.agg p.c] (rowQ Rg.c_len (rgsL p) (zar hv ha)).v:=by
 have hline:∀ a∈p.as.l,∃ N,∀ m,N<=m->∃ (q':SlOf 2 Pt.c),q'.l=lineR p a/\∀ d out ownV own id,callN Ftab S m d out ownV own id 63 [.agg p.c,.agg a.c]=some (.r,.tuple [q'.v,.bool ((nodeF p a.fr).isSome&&(nodeF p a.to).isSome)],own):=fun a h=>by
  obtain ⟨q',h1,N,h2⟩:=Yi hS p a (by have:=hv a h; omega)
  exact ⟨N,fun m hm=>⟨q',h1,h2 m hm⟩⟩
 obtain ⟨Np,hNp⟩:=unif p.as.l hline
 refine ⟨Np+p.as.l.length+1040,YI (i:=i100) (ns hS (by rfl)) rfl rfl (lb rfl) (Np+p.as.l.length+1039) fun m hm d out t hfr=>?_⟩
 simp only [V2,Nat.reduceAdd,i100,Pn.c] at hfr
 have haf:=p.as.few
 simp only [i100,V0,sevalprocAttr,hfr]
 refine zb (fun jj st=>∃ (i:Nat) (J:yLO) (lv:IV),p.as.l.length - i<=jj/\i<=p.as.l.length/\OwnJ Rg.c 12 d 1 J lv ((p.as.l.take i).flatMap fun a=>rgsOf a (lineR p a))/\st.own=.cells [p.ns.v,p.as.v,p.fs.v]::J/\Slots 55 st.t [(1,.ptrM d 0 0),(3,lv),(4,iv i)]) p.as.l.length (by omega) ⟨0,[],.nilsl,by omega,by omega,.inl ⟨by simp,rfl⟩,rfl,by simp only [V0,sevalprocAttr,hfr,zcp]⟩ ?_
 clear hfr
 rintro jj ⟨t,own1⟩ KA ⟨i,J,lv,hjj,hi,hO,ho,hfr⟩ hnA heA hrA
 dsimp only at ho hfr
 subst ho
 simp only [V3] at hfr
 by_cases h:i<p.as.l.length
 ·have hx:p.as.l[i]?=some p.as.l[i]:=zce h
  obtain ⟨q',hq1,hq2⟩:=hNp _ (zdr h) m (by omega)
  have hvx:=hv _ (zdr h)
  have hlt:=zb3 hv i
  rw [zd5,Nat.min_eq_left (by omega)] at hlt
  have hstep:(p.as.l.take (i+1)).flatMap (fun a=>rgsOf a (lineR p a))=(p.as.l.take i).flatMap (fun a=>rgsOf a (lineR p a))++rgsOf p.as.l[i] (lineR p p.as.l[i]):=by
   rw [zdv,hx,zd2,zed]
   simp
  generalize p.as.l[i]=x at hx hq1 hq2 hvx hstep
  generalize (p.as.l.take i).flatMap (fun a=>rgsOf a (lineR p a))=X at *
  have hll:=Y3 (p:=p) hvx
  rw [← hq1] at hll hstep
  have hqf:=q'.few
  have hrd:rdN (p.as.l.flatMap Ac.c) (i*6) 6=some [.int .i64 x.id,.int .i64 x.fr,.int .i64 x.to,x.via.v,.int .i64 x.l,.int .i64 x.r]:=(zc Ac.c_len 0 6 hx (by omega)).trans rfl
  have hw:wrapI .i64 ((i:Int)+1)=((i+1:Nat):Int):=we
  simp only [zo,Pn.c,Ac.c] at hq2
  simp only [V0,sevalprocAttr,hfr,h,za p.as h,hrd,hq2]
  refine ⟨by simp [comm],?_⟩
  simp only [V0,sevalprocAttr,hfr]
  refine zb (fun jj st=>∃ (k:Nat) (J:yLO) (lv:IV),q'.l.length - k<=jj/\k<=q'.l.length - 1/\OwnJ Rg.c 12 d 1 J lv (X++(rgsOf x q'.l).take k)/\st.own=.cells [p.ns.v,p.as.v,p.fs.v]::J/\Slots 55 st.t [(1,.ptrM d 0 0),(3,lv),(4,iv i),(5,q'.v),(7,iv k)]) q'.l.length (by omega) ⟨0,_,lv,by omega,by omega,by simpa using hO.more _,rfl,by simp only [V0,sevalprocAttr,hfr,zcp,hq2]⟩ ?_
  clear hfr hO J lv
  rintro jj2 ⟨t,own1⟩ KB ⟨k,J,lv,hjk,hk,hO,ho,hfr⟩ hnB heB hrB
  dsimp only at ho hfr
  subst ho
  simp only [V3] at hfr
  have hwk:wrapI .i64 ((k:Int)+1)=((k+1:Nat):Int):=we
  by_cases h2:k+1<q'.l.length
  ·have h0:k<q'.l.length:=by omega
   obtain ⟨y0,hx0⟩:=gx (l:=q'.l) (i:=k) h0
   obtain ⟨y1,hx1⟩:=gx (l:=q'.l) (i:=k+1) h2
   have r0:rdN (q'.l.flatMap Pt.c) (k*2) 2=some [.int .i64 y0.x,.int .i64 y0.y]:=(zc (sz:=2) (fun _=>rfl) 0 2 hx0 (by omega)).trans rfl
   have r1:rdN (q'.l.flatMap Pt.c) ((k+1)*2) 2=some [.int .i64 y1.x,.int .i64 y1.y]:=(zc (sz:=2) (fun _=>rfl) 0 2 hx1 (by omega)).trans rfl
   have hwl:wrapI .i64 ((q'.l.length:Int) - 1)=((q'.l.length - 1:Nat):Int):=we
   have hXl:(X++(rgsOf x q'.l).take k).length<=1001*1001:=by
    rw [zc8,zd5,Y1]
    omega
   obtain ⟨e,lv',J2,happ,hO2⟩:=ownJ_appV (Pre:=[.cells [p.ns.v,p.as.v,p.fs.v]]) (n0:=J.length+1) (slot:=0) (k:=0) (out:=out) (R:=[.free]) Rg.c_len hO (ys:=[⟨x,k,q'.l.length - 1,y0,y1⟩]) (by simp) (by simp only [zcr,zc7]; omega) (by simp only [zcr,zc7]; omega) rfl (by
    have hvs:∀ (cs:List IV) (n:Nat) (v:IV),Sl 2 cs n v->IV.scalar v=true:=fun cs n v h=>by
     cases h <;> rfl
    have hv1:=hvs _ _ _ x.via.ok
    rw [zea]
    intro y hy
    simp only [zdc,zec,Rg.c,zd0,zdn,zdx,or_false] at hy
    rcases hy with rfl | rfl | rfl | rfl | rfl | rfl | rfl | rfl | rfl | rfl | rfl | rfl
    ·rfl
    ·rfl
    ·rfl
    ·exact hv1
    all_goals rfl) (V:=hide [] (J.length+1) (IObj.cells [p.ns.v,p.as.v,p.fs.v]::(J++[IObj.free]))) (fun b y hb=>by
     have:=hide_pre (vis:=[]) (Pre:=[IObj.cells [p.ns.v,p.as.v,p.fs.v]]) (R:=[.free]) hb
     rw [List.length_singleton,Nat.add_comm 1 J.length] at this
     exact this)
   simp only [zc5,zdh,zdc,zec,Rg.c,zcr,zc7,zd0,zde] at happ
   rw [zdg,← rgsOf_at hx0 hx1] at hO2
   have cel:∀ (lk:Nat->Nat->Option IObj) (tight:Bool) (a b c e f g h i j k l m:IV),cellsI lk 12 (.slC [a,b,c,e,f,g,h,i,j,k,l,m] 1 12 tight)=some ([a,b,c,e,f,g,h,i,j,k,l,m],1):=fun lk tight _ _ _ _ _ _ _ _ _ _ _ _=>rfl
   have rep1:∀ a b c e f g h i j k l m:IV,rep [a,b,c,e,f,g,h,i,j,k,l,m] 1=[a,b,c,e,f,g,h,i,j,k,l,m]:=fun _ _ _ _ _ _ _ _ _ _ _ _=>rfl
   simp only [V0,sevalprocAttr,hfr,hwk,h2,hwl,za p.as h,za q' h0,za q' h2,hrd,r0,r1,rep1,zp,zB,zJ,cel,happ]
   refine ⟨by simp [comm],?_⟩
   simp only [V0,sevalprocAttr,hfr,hwk]
   exact hnB _ (q'.l.length - (k+1)) (by omega) ⟨k+1,J2,lv',by omega,by omega,hO2,rfl,by simp only [V0,sevalprocAttr,hfr,hwk]⟩
  ·simp only [V0,sevalprocAttr,hfr,hwk,h2]
   refine heB _ _ ?_
   simp only [V0,sevalprocAttr,hfr,hw]
   refine hnA _ (p.as.l.length - (i+1)) (by omega) ⟨i+1,J,lv,by omega,by omega,?_,rfl,by simp only [V0,sevalprocAttr,hfr,hw]⟩
   rw [hstep]
   rw [zcm (by rw [Y1]; omega)] at hO
   exact hO
 ·simp only [V0,sevalprocAttr,hfr,h]
  refine heA _ _ ?_
  have hO2:OwnJ Rg.c 12 d 1 J lv (rgsL p):=by
   rw [zcm (by omega)] at hO
   exact hO
  have f1:=ownJ_fzK (Pre:=[.cells [p.ns.v,p.as.v,p.fs.v]]) (m:=m) Rg.c_len rg_fz (by omega) (zar hv ha) hO2
  simp only [zc5,zdh] at f1
  simp only [V0,sevalprocAttr,hfr,Zp]
  exact ⟨_,rfl,f1⟩
end
end
section
def IntsR (xs:List Int) (d id:Nat) (own:yLO) (r:Eff × IV × yLO):Prop:=(xs=[]/\r=(.r,.nilsl,own))∨(xs≠[]/\r=(.a,.slM d id 0 xs.length xs.length 1 false,own.set id (.cells (xs.flatMap intc))))
theorem intc_fzs {n d:Nat} {o:yLO}:∀ xs:List Int,(xs.flatMap intc).mapM (freeze (n+1) d o)=some (xs.flatMap intc)
 | []=>rfl
 | x::xs=>by
  have ih:=intc_fzs (n:=n) (d:=d) (o:=o) xs
  have f:freeze (n+1) d o (iv x)=some (iv x):=rfl
  rw [zdc]
  simp only [intc,zc5,zdh,zd8,f,ih,Option.pure_def,Option.bind_eq_bind,zcy]
theorem leave_ints {n d id:Nat} {Pre J own:yLO} {lv:IV} {xs:List Int} (h:OwnJ intc 1 (d+1) Pre.length J lv xs) (hid:own[id]?=some .free):∃ r,leave (n+1) d (Pre++J) own id 1 lv=some r/\IntsR xs d id own r:=by
 rcases h with ⟨rfl,rfl⟩ | ⟨b,hne,rfl,h2⟩
 ·exact ⟨_,rfl,.inl ⟨rfl,rfl⟩⟩
 ·have hseg:seg (xs.flatMap intc) 0 (xs.length*1)=some (xs.flatMap intc):=by
   unfold seg
   rw [zf,zx zj,if_pos (by omega),List.drop_zero,zcm (by rw [zx zj]; exact zcs _)]
  refine ⟨_,?_,.inr ⟨hne,rfl⟩⟩
  unfold leave
  simp only [if_true,handed,yr,h2,hseg,intc_fzs,mkAt,hid,zf]
section
variable {S:ySM}
def idsL (p:Pn) (arcs:Bool):List Int:=bif arcs then p.as.l.map Ac.id else p.ns.l.map Nd.id
theorem ar_ids (hS:NoS S) (p:Pn) (h1:p.ns.l.length<=1000000) (h2:p.as.l.length<=1000000) (arcs:Bool) {m d id:Nat} {out:yLM} {ownV own:yLO} (hm:p.ns.l.length+p.as.l.length+10<=m) (hid:own[id]?=some .free):∃ r,callN Ftab S m d out ownV own id 60 [.agg p.c,.bool arcs]=some r/\IntsR (idsL p arcs) d id own r:=by
 obtain ⟨m,rfl⟩:∃ q,m=q+2:=⟨m - 2,by omega⟩
 refine zbw (i:=i60) (ns hS (by rfl)) rfl (by decide) (lb rfl) fun t hfr=>?_
 simp only [V2,Nat.reduceAdd,i60,Pn.c] at hfr
 generalize (fun l=>if l=d then ownV else out l:yLM)=out2
 have fin:∀ (t':List IV) (J:yLO) (lv:IV),OwnJ intc 1 (d+1) 1 J lv (idsL p arcs)->Slots 48 t' [(4,lv)]->(Out.ret=.normal∨Out.ret=.ret)/\∃ v r,resultI (d+1) out2 ⟨t',.cells [p.ns.v,p.as.v,p.fs.v]::J⟩ i60.res=some v/\leave (m+1) d (.cells [p.ns.v,p.as.v,p.fs.v]::J) own id i60.mode v=some r/\IntsR (idsL p arcs) d id own r:=fun t' J lv hO ht=>by
  simp only [ze,zg] at ht
  obtain ⟨r,hr1,hr2⟩:=leave_ints (n:=m) (Pre:=[.cells [p.ns.v,p.as.v,p.fs.v]]) hO hid
  refine ⟨.inr rfl,lv,r,?_,hr1,hr2⟩
  simp only [i60,V0,sevalprocAttr,ht]
 suffices hsuf:∀ K:yKM,(∀ (t':List IV) (J:yLO) (lv:IV),OwnJ intc 1 (d+1) 1 J lv (idsL p arcs)->Slots 48 t' [(4,lv)]->K .ret ⟨t',.cells [p.ns.v,p.as.v,p.fs.v]::J⟩)->Ex (callN Ftab S (m+1)) (d+1) out2 (m+1) i60.body K ⟨t,[]⟩ from hsuf _ fin
 clear fin
 intro K fin
 simp only [i60,V0,sevalprocAttr,hfr]
 refine zb (fun jj st=>∃ (i:Nat) (J:yLO) (lv:IV),p.ns.l.length - i<=jj/\i<=p.ns.l.length/\(arcs=true->i=0)/\OwnJ intc 1 (d+1) 1 J lv ((p.ns.l.take i).map Nd.id)/\st.own=.cells [p.ns.v,p.as.v,p.fs.v]::J/\Slots 48 st.t [(1,.bool arcs),(2,.ptrM (d+1) 0 0),(5,lv),(6,iv i)]) p.ns.l.length (by omega) ⟨0,[],.nilsl,by omega,by omega,fun _=>rfl,.inl ⟨by simp,rfl⟩,rfl,by simp only [V0,sevalprocAttr,hfr,zcp]⟩ ?_
 clear hfr
 rintro jj ⟨t,own1⟩ KA ⟨i,J,lv,hjj,hi,hia,hO,ho,hfr⟩ hnA heA hrA
 dsimp only at ho hfr
 subst ho
 simp only [V3] at hfr
 have next:∀ (t:List IV) (J:yLO) (lv:IV),OwnJ intc 1 (d+1) 1 J lv (if arcs=true then [] else p.ns.l.map Nd.id)->Slots 48 t [(1,.bool arcs),(2,.ptrM (d+1) 0 0),(5,lv),(6,iv i)]->KA (.exit 0) ⟨t,.cells [p.ns.v,p.as.v,p.fs.v]::J⟩:=by
  clear hfr hO lv J t hnA hrA
  intro t J lv hO hfr
  simp only [V3] at hfr
  refine heA _ _ ?_
  simp only [V0,sevalprocAttr,hfr]
  refine zb (fun jj st=>∃ (i:Nat) (J:yLO) (lv:IV),p.as.l.length - i<=jj/\i<=p.as.l.length/\(arcs=false->i=0)/\OwnJ intc 1 (d+1) 1 J lv (if arcs=true then (p.as.l.take i).map Ac.id else p.ns.l.map Nd.id)/\st.own=.cells [p.ns.v,p.as.v,p.fs.v]::J/\Slots 48 st.t [(1,.bool arcs),(2,.ptrM (d+1) 0 0),(5,lv),(7,iv i)]) p.as.l.length (by omega) ⟨0,J,lv,by omega,by omega,fun _=>rfl,by cases arcs <;> simpa using hO,rfl,by simp only [V0,sevalprocAttr,hfr,zcp]⟩ ?_
  clear hfr hO lv J t heA
  rintro jj ⟨t,own1⟩ KB ⟨i,J,lv,hjj,hi,hia,hO,ho,hfr⟩ hnB heB hrB
  dsimp only at ho hfr
  subst ho
  simp only [V3] at hfr
  cases arcs with
  | false =>
   by_cases h:i<p.as.l.length
   ·simp only [V0,sevalprocAttr,hfr,h]
    refine heB _ _ ?_
    simp only [V0,sevalprocAttr,hfr]
    exact fin _ _ lv hO (by simp only [V0,sevalprocAttr,hfr])
   ·simp only [V0,sevalprocAttr,hfr,h]
    refine heB _ _ ?_
    simp only [V0,sevalprocAttr,hfr]
    exact fin _ _ lv hO (by simp only [V0,sevalprocAttr,hfr])
  | true =>
   by_cases h:i<p.as.l.length
   ·obtain ⟨x,hx⟩:=gx (l:=p.as.l) (i:=i) h
    have hrd:rdN (p.as.l.flatMap Ac.c) (i*6) 1=some [.int .i64 x.id]:=(zc Ac.c_len 0 1 hx (by omega)).trans rfl
    have hw:wrapI .i64 ((i:Int)+1)=((i+1:Nat):Int):=we
    rw [if_pos rfl] at hO
    have hlt:((p.as.l.take i).map Ac.id).length=i:=by rw [zd1,zd5,Nat.min_eq_left (by omega)]
    obtain ⟨e,lv',J2,happ,hO2⟩:=Zq (Pre:=[.cells [p.ns.v,p.as.v,p.fs.v]]) (n0:=J.length+1) (slot:=0) (k:=0) (out:=out2) (R:=[.free]) zj hO (ys:=[x.id]) (by simp) (by simp only [hlt,zcr,zc7]; omega) (by simp only [zcr,zc7]; omega) rfl rfl
    simp only [zc5,zdh,zdc,zec,intc,zo,zcr,zc7,zd0,zde] at happ
    rw [← map_take (f:=Ac.id) hx] at hO2
    simp only [V0,sevalprocAttr,hfr,h,za p.as h,hrd,rep,zp,zB,zJ,Z2,happ,hw]
    exact hnB _ (p.as.l.length - (i+1)) (by omega) ⟨i+1,J2,lv',by omega,by omega,fun h=>by (cases h),by rw [if_pos rfl]; exact hO2,rfl,by simp only [V0,sevalprocAttr,hfr,hw]⟩
   ·simp only [V0,sevalprocAttr,hfr,h]
    refine heB _ _ ?_
    simp only [V0,sevalprocAttr,hfr]
    rw [if_pos rfl,zcm (by omega)] at hO
    exact fin _ _ lv hO (by simp only [V0,sevalprocAttr,hfr])
 cases arcs with
 | true =>
  have hO':OwnJ intc 1 (d+1) 1 J lv (if true=true then [] else p.ns.l.map Nd.id):=by
   rw [hia rfl] at hO
   simpa using hO
  by_cases h:i<p.ns.l.length
  ·simp only [V0,sevalprocAttr,hfr,h]
   exact next _ _ lv hO' (by simp only [V0,sevalprocAttr,hfr])
  ·simp only [V0,sevalprocAttr,hfr,h]
   exact next _ _ lv hO' (by simp only [V0,sevalprocAttr,hfr])
 | false =>
  by_cases h:i<p.ns.l.length
  ·obtain ⟨x,hx⟩:=gx (l:=p.ns.l) (i:=i) h
   have hrd:rdN (p.ns.l.flatMap Nd.c) (i*3) 1=some [.int .i64 x.id]:=(zc Nd.c_len 0 1 hx (by omega)).trans rfl
   have hw:wrapI .i64 ((i:Int)+1)=((i+1:Nat):Int):=we
   have hlt:((p.ns.l.take i).map Nd.id).length=i:=by rw [zd1,zd5,Nat.min_eq_left (by omega)]
   obtain ⟨e,lv',J2,happ,hO2⟩:=Zq (Pre:=[.cells [p.ns.v,p.as.v,p.fs.v]]) (n0:=J.length+1) (slot:=0) (k:=0) (out:=out2) (R:=[.free]) zj hO (ys:=[x.id]) (by simp) (by simp only [hlt,zcr,zc7]; omega) (by simp only [zcr,zc7]; omega) rfl rfl
   simp only [zc5,zdh,zdc,zec,intc,zo,zcr,zc7,zd0,zde] at happ
   rw [← map_take (f:=Nd.id) hx] at hO2
   simp only [V0,sevalprocAttr,hfr,h,za p.ns h,hrd,rep,zp,zB,zJ,Z2,happ,hw]
   exact hnA _ (p.ns.l.length - (i+1)) (by omega) ⟨i+1,J2,lv',by omega,by omega,fun h=>by (cases h),hO2,rfl,by simp only [V0,sevalprocAttr,hfr,hw]⟩
  ·simp only [V0,sevalprocAttr,hfr,h]
   rw [zcm (by omega)] at hO
   exact next _ _ lv (by simpa using hO) (by simp only [V0,sevalprocAttr,hfr])
theorem freezeA_own {n d i off len cap sz:Nat} {t:Bool} {own:yLO} {c:List IV} (h:own[i]?=some (.cells c)):freezeA (n+1) d own (.slM d i off len cap sz t)=((seg c off (len*sz)).bind fun s=>s.mapM (freezeA n d own)).map (IV.slC · len sz false):=by
 show (if d=d then match own[i]? with
    | some (.cells c)=>((seg c off (len*sz)).bind fun s=>s.mapM (freezeA n d own)).map (IV.slC · len sz false)
    | _=>none
   else none)=_
 rw [if_pos rfl,h]
theorem asc_own (hS:NoS S) {xs:List Int} (hx:xs.length<9223372036854775808) {m d b:Nat} {out:yLM} {ownV own:yLO} {id:Nat} (hm:xs.length+4<=m) (hb:ownV[b]?=some (.cells (xs.flatMap intc))):callN Ftab S m d out ownV own id 59 [.slM d b 0 xs.length xs.length 1 false]=some (.r,.bool (ascL xs),own):=by
 have hseg:seg (xs.flatMap intc) 0 (xs.length*1)=some (xs.flatMap intc):=by
  unfold seg
  rw [zf,zx zj,if_pos (by omega),List.drop_zero,zcm (by rw [zx zj]; exact zcs _)]
 have hfz:∀ ys:List Int,(ys.flatMap intc).mapM (freezeA 11 d ownV)=some (ys.flatMap intc):=fun ys=>by
  induction ys with
  | nil=>rfl
  | cons y ys ih =>
   have f:freezeA 11 d ownV (iv y)=some (iv y):=rfl
   rw [zdc]
   simp only [intc,zc5,zdh,zd8,f,ih,Option.pure_def,Option.bind_eq_bind,zcy]
 have hfa:[IV.slM d b 0 xs.length xs.length 1 false].mapM (freezeA 12 d ownV)=[(mkRow zj xs xs.length false rfl hx).v].mapM (freezeA 12 d ownV):=by
  have h1:freezeA 12 d ownV (.slM d b 0 xs.length xs.length 1 false)=some (mkRow zj xs xs.length false rfl hx).v:=by
   rw [freezeA_own hb,hseg,zcy,hfz]
   rfl
  have h2:freezeA 12 d ownV (mkRow zj xs xs.length false rfl hx).v=some (mkRow zj xs xs.length false rfl hx).v:=ints_fA 10 d ownV _
  simp only [zd8,List.mapM_nil,h1,h2]
 rw [m3_args (ns hS (by rfl)) (ns hS (by rfl)) (i:=i59) rfl rfl hfa]
 exact ar_asc hS (mkRow zj xs xs.length false rfl hx) m hm d out ownV own id
theorem asc_nil (hS:NoS S) {m d:Nat} {out:yLM} {ownV own:yLO} {id:Nat} (hm:4<=m):callN Ftab S m d out ownV own id 59 [.nilsl]=some (.r,.bool true,own):=ar_asc hS (nilS 1 intc) m hm d out ownV own id
end
end
section
section
variable {S:ySM}
theorem rng2 (hS:NoS S) (p:Pn) (hv:FewVia p) (h1:p.ns.l.length<=1000) (h2:p.as.l.length<=1000) {m d:Nat} {out:yLM} (hm:p.ns.l.length+p.as.l.length+(allPts p).length+20<=m) {K:yKM} (t:List IV) (O:yLO) (hfr:Slots 47 t [(1,.ptrM d 0 0)])
  (hK:∀ t' O',Slots 47 t' [(2,.bool (!(allPts p).any badPt))]->K .ret ⟨t',O'⟩) :
  Ex (callN Ftab S m) d out m (i61.body.sub [1,1,1]) K ⟨t,.cells [p.ns.v,p.as.v,p.fs.v]::O⟩:=by
 simp only [ze,zg] at hfr
 have c0:=fun ownV own i=>at_pts14 hS p hv h1 h2 m (by omega) d out ownV own i
 generalize hpq:rowQ Pt.c_len (allPts p) (all_lt hv h1 h2)=q at c0
 have hql:q.l=allPts p:=by rw [← hpq,rowQ_l]
 rw [← hql] at hK hm
 have hqf:=q.few
 have cv:∀ (u:Pt) dd out ownV own i,callN Ftab S m dd out ownV own i 98 [.agg [.int .i64 u.x,.int .i64 u.y]]=some (.r,.bool (!badPt u),own):=fun u dd out ownV own i=>ar_valid hS u m (by omega) dd out ownV own i
 simp only [Pn.c] at c0
 simp only [i61,IC.sub,V0,sevalprocAttr,hfr,c0]
 refine zb (fun jj st=>∃ (i:Nat) (O:yLO),q.l.length - i<=jj/\i<=q.l.length/\(q.l.take i).any badPt=false/\st.own=O/\Slots 47 st.t [(5,q.v),(6,iv i)]) q.l.length (by omega) ⟨0,_,by omega,by omega,by simp,rfl,by simp only [V0,sevalprocAttr,hfr,zcp,c0]⟩ ?_
 clear hfr
 rintro jj ⟨t,own⟩ KA ⟨i,O,hjj,hi,ha,ho,hfr⟩ hnA heA hrA
 dsimp only at ho hfr
 subst ho
 simp only [V3] at hfr
 by_cases h:i<q.l.length
 ·obtain ⟨x,hx⟩:=gx (l:=q.l) (i:=i) h
  have hrd:rdN (q.l.flatMap Pt.c) (i*2) 2=some [.int .i64 x.x,.int .i64 x.y]:=(zc (sz:=2) (fun _=>rfl) 0 2 hx (by omega)).trans rfl
  have hw:wrapI .i64 ((i:Int)+1)=((i+1:Nat):Int):=we
  cases hq:badPt x
  ·simp only [V0,sevalprocAttr,hfr,h,za q h,hrd,cv,hq,zch,hw]
   exact hnA _ (q.l.length - (i+1)) (by omega) ⟨i+1,_,by omega,by omega,zG hx ha hq,rfl,by simp only [V0,sevalprocAttr,hfr,hw,cv,hq]⟩
  ·simp only [V0,sevalprocAttr,hfr,h,za q h,hrd,cv,hq,zci]
   refine hrA _ ?_
   exact hK _ _ (by simp only [V0,sevalprocAttr,hfr,zW hx hq,zci])
 ·simp only [V0,sevalprocAttr,hfr,h]
  refine heA _ _ ?_
  simp only [V0,sevalprocAttr,hfr]
  have hh:q.l.any badPt=false:=by
   rw [← zcm (l:=q.l) (i:=i) (by omega)]
   exact ha
  exact hK _ _ (by simp only [V0,sevalprocAttr,hfr,hh,zch])
theorem rng1 (hS:NoS S) (p:Pn) (hv:FewVia p) (h1:p.ns.l.length<=1000) (h2:p.as.l.length<=1000) {m d:Nat} {out:yLM} (xs:List Int) (hxs:xs.length<=1073741824) (hm:p.ns.l.length+p.as.l.length+(allPts p).length+xs.length+20<=m) {K:yKM} (t:List IV) (O:yLO) (lv:IV) (hO:OwnJ intc 1 d 1 O lv xs) (hfr:Slots 47 t [(1,.ptrM d 0 0),(3,lv)])
  (hK:∀ t' O',Slots 47 t' [(2,.bool (!xs.any badId&&!(allPts p).any badPt))]->K .ret ⟨t',O'⟩) :
  Ex (callN Ftab S m) d out m (i61.body.sub [1,1]) K ⟨t,.cells [p.ns.v,p.as.v,p.fs.v]::O⟩:=by
 simp only [ze,zg] at hfr
 have hR:=fun (K:yKM) t O=>rng2 hS p hv h1 h2 (m:=m) (d:=d) (out:=out) (by omega) (K:=K) t O
 rw [show i61.body.sub [1,1]=.seq (i61.body.sub [1,1,0]) (i61.body.sub [1,1,1]) from rfl]
 generalize i61.body.sub [1,1,1]=B at hR ⊢
 rcases hO with ⟨rfl,rfl⟩ | ⟨b,hne,rfl,hb⟩
 ·simp only [i61,IC.sub,V0,sevalprocAttr,hfr]
  refine zb (fun jj st=>st.own=.cells [p.ns.v,p.as.v,p.fs.v]::O/\Slots 47 st.t [(1,.ptrM d 0 0),(3,.nilsl),(4,.int .i64 0)]) 0 (by omega) ⟨rfl,by simp only [V0,sevalprocAttr,hfr]⟩ ?_
  clear hfr
  rintro jj ⟨t,own⟩ KA ⟨ho,hfr⟩ hnA heA hrA
  dsimp only at ho hfr
  subst ho
  simp only [ze,zg] at hfr
  have h0:((0:Int)<0)=False:=eq_false (by decide)
  simp only [V0,sevalprocAttr,hfr,h0]
  refine heA _ _ ?_
  simp only [V0,sevalprocAttr,hfr]
  refine hR _ _ _ (by simp only [V0,sevalprocAttr,hfr]) fun t' O' ht=>hK t' O' ?_
  simpa using ht
 ·have hb1:(IObj.cells [p.ns.v,p.as.v,p.fs.v]::O)[1+b]?=some (.cells (xs.flatMap intc)):=by rw [Nat.add_comm,zc1]; exact hb
  simp only [i61,IC.sub,V0,sevalprocAttr,hfr]
  refine zb (fun jj st=>∃ (i:Nat),xs.length - i<=jj/\i<=xs.length/\(xs.take i).any badId=false/\st.own=.cells [p.ns.v,p.as.v,p.fs.v]::O/\Slots 47 st.t [(1,.ptrM d 0 0),(3,.slM d (1+b) 0 xs.length xs.length 1 false),(4,iv i)]) xs.length (by omega) ⟨0,by omega,by omega,by simp,rfl,by simp only [V0,sevalprocAttr,hfr,zcp]⟩ ?_
  clear hfr
  rintro jj ⟨t,own⟩ KA ⟨i,hjj,hi,ha,ho,hfr⟩ hnA heA hrA
  dsimp only at ho hfr
  subst ho
  simp only [V3] at hfr
  by_cases h:i<xs.length
  ·obtain ⟨x,hx⟩:=gx (l:=xs) (i:=i) h
   have hrd:rdN (xs.flatMap intc) (i*1) 1=some [.int .i64 x]:=zc zj 0 1 hx (by omega)
   have hrd2:rdN (xs.flatMap intc) (0+i*1) 1=some [.int .i64 x]:=by rw [zde]; exact hrd
   have hw:wrapI .i64 ((i:Int)+1)=((i+1:Nat):Int):=we
   cases q1:decide (x<1)
   ·cases q2:decide (1073741824<x)
    ·simp only [V0,sevalprocAttr,hfr,h,ye,hb1,hrd,hrd2,gt_iff_lt,q1,q2,hw]
     exact hnA _ (xs.length - (i+1)) (by omega) ⟨i+1,by omega,by omega,zG hx ha (by simp only [badId,q1,q2,Bool.or_self]),rfl,by simp only [V0,sevalprocAttr,hfr,hw,q1,q2]⟩
    ·have hbad:xs.any badId=true:=zW hx (by simp only [badId,q1,q2,zdi])
     simp only [V0,sevalprocAttr,hfr,h,ye,hb1,hrd,hrd2,gt_iff_lt,q1,q2]
     refine hrA _ ?_
     exact hK _ _ (by simp only [V0,sevalprocAttr,hfr,hbad,zci,zcg])
   ·have hbad:xs.any badId=true:=zW hx (by simp only [badId,q1,zdm])
    simp only [V0,sevalprocAttr,hfr,h,ye,hb1,hrd,hrd2,gt_iff_lt,q1]
    refine hrA _ ?_
    exact hK _ _ (by simp only [V0,sevalprocAttr,hfr,hbad,zci,zcg])
  ·simp only [V0,sevalprocAttr,hfr,h]
   refine heA _ _ ?_
   simp only [V0,sevalprocAttr,hfr]
   have hh:xs.any badId=false:=by
    rw [← zcm (l:=xs) (i:=i) (by omega)]
    exact ha
   rw [hh] at hK
   refine hR _ _ _ (by simp only [V0,sevalprocAttr,hfr]) fun t' O' ht=>hK t' O' ?_
   simpa using ht
end
end
section
theorem Zt (xs:List Int):(xs.flatMap intc).all IV.scalar=true:=by
 rw [zea]
 intro x hx
 obtain ⟨a,_,h⟩:=List.mem_flatMap.1 hx
 simp only [intc,zo,zdn,zdx,or_false] at h
 rw [h]
 rfl
theorem ints_seg (xs:List Int):seg (xs.flatMap intc) 0 (xs.length*1)=some (xs.flatMap intc):=by
 unfold seg
 rw [zf,zx zj,if_pos (by omega),List.drop_zero,zcm (by rw [zx zj]; exact zcs _)]
section
variable {S:ySM}
theorem zas (hS:NoS S) (p:Pn) (h1:p.ns.l.length<=1000000) (h2:p.as.l.length<=1000000) (arcs:Bool) (h:idsL p arcs=[]) {m d id:Nat} {out:yLM} {ownV own:yLO} (hm:p.ns.l.length+p.as.l.length+10<=m) (hid:own[id]?=some .free):callN Ftab S m d out ownV own id 60 [.agg p.c,.bool arcs]=some (.r,.nilsl,own):=by
 obtain ⟨r,hr,h3 | h3⟩:=ar_ids hS p h1 h2 arcs (out:=out) (ownV:=ownV) (d:=d) hm hid
 ·rw [hr,h3.2]
 ·exact absurd h h3.1
theorem zat (hS:NoS S) (p:Pn) (h1:p.ns.l.length<=1000000) (h2:p.as.l.length<=1000000) (arcs:Bool) (h:idsL p arcs≠[]) {m d id:Nat} {out:yLM} {ownV own:yLO} (hm:p.ns.l.length+p.as.l.length+10<=m) (hid:own[id]?=some .free):callN Ftab S m d out ownV own id 60 [.agg p.c,.bool arcs]=some (.a,.slM d id 0 (idsL p arcs).length (idsL p arcs).length 1 false,own.set id (.cells ((idsL p arcs).flatMap intc))):=by
 obtain ⟨r,hr,h3 | h3⟩:=ar_ids hS p h1 h2 arcs (out:=out) (ownV:=ownV) (d:=d) hm hid
 ·exact absurd h3.1 h
 ·rw [hr,h3.2]
def rngR (p:Pn):Bool:=!(idsL p false++idsL p true++p.fs.l).any badId&&!(allPts p).any badPt
theorem ar_ranges (hS:NoS S) (p:Pn) (hv:FewVia p) (h1:p.ns.l.length<=1000) (h2:p.as.l.length<=1000) (h3:p.fs.l.length<=1000):GivesN S (2*(p.ns.l.length+p.as.l.length)+p.fs.l.length+(allPts p).length+30) 61 [.agg p.c] (.bool (rngR p)):=by
 refine zd (i:=i61) (ns hS (by rfl)) rfl rfl (lb rfl) (2*(p.ns.l.length+p.as.l.length)+p.fs.l.length+(allPts p).length+29) (by omega) zk fun m hm d out t hfr=>?_
 simp only [V2,Nat.reduceAdd,i61,Pn.c] at hfr
 have hla:(idsL p false).length=p.ns.l.length:=by simp [idsL]
 have hlb:(idsL p true).length=p.as.l.length:=by simp [idsL]
 have hR:=fun (K:yKM) t O lv=>rng1 hS p hv h1 h2 (m:=m) (d:=d) (out:=out) (idsL p false++idsL p true++p.fs.l) (by rw [zc8,zc8,hla,hlb]; omega) (by rw [zc8,zc8,hla,hlb]; omega) (K:=K) t O lv
 rw [show i61.body=.seq (i61.body.sub [0]) (.seq (i61.body.sub [1,0]) (i61.body.sub [1,1])) from rfl]
 generalize i61.body.sub [1,1]=B at hR ⊢
 unfold rngR
 have n0:=fun (h:idsL p false=[]) ownV own (hid:own[1]?=some .free)=>zas hS p (by omega) (by omega) false h (m:=m) (d:=d) (id:=1) (out:=out) (ownV:=ownV) (own:=own) (by omega) hid
 have n1:=fun (h:idsL p true=[]) ownV own (hid:own[2]?=some .free)=>zas hS p (by omega) (by omega) true h (m:=m) (d:=d) (id:=2) (out:=out) (ownV:=ownV) (own:=own) (by omega) hid
 have o0:=fun (h:idsL p false≠[]) ownV own (hid:own[1]?=some .free)=>zat hS p (by omega) (by omega) false h (m:=m) (d:=d) (id:=1) (out:=out) (ownV:=ownV) (own:=own) (by omega) hid
 have o1:=fun (h:idsL p true≠[]) ownV own (hid:own[2]?=some .free)=>zat hS p (by omega) (by omega) true h (m:=m) (d:=d) (id:=2) (out:=out) (ownV:=ownV) (own:=own) (by omega) hid
 generalize idsL p false=A at *
 generalize idsL p true=Q at *
 have sA:=ints_seg A
 have sQ:=ints_seg Q
 have fA:=zx zj (l:=A)
 have fQ:=zx zj (l:=Q)
 have fAQ:(A.flatMap intc++Q.flatMap intc).length=(A.length+Q.length)*1:=by rw [zc8,fA,fQ,Nat.add_mul]
 have e5:[IObj.cells [p.ns.v,p.as.v,p.fs.v],.free,.free,.free,.free][1]?=some .free:=rfl
 simp only [Pn.c] at n0 n1 o0 o1
 by_cases hA:A=[]
 ·skip
  by_cases hQ:Q=[]
  ·skip
   by_cases hC:p.fs.l=[]
   ·skip
    have hC0:p.fs.l.length=0:=by rw [hC]; rfl
    have c1:∀ ownV,callN Ftab S m d out ownV [.cells [p.ns.v,p.as.v,p.fs.v],.free,.free,.free,.free] 1 60 [.agg [p.ns.v,p.as.v,p.fs.v],.bool false]=some (.r,.nilsl,[.cells [p.ns.v,p.as.v,p.fs.v],.free,.free,.free,.free]):=fun ownV=>n0 hA ownV _ rfl
    have c2:∀ ownV,callN Ftab S m d out ownV [.cells [p.ns.v,p.as.v,p.fs.v],.free,.free,.free,.free] 2 60 [.agg [p.ns.v,p.as.v,p.fs.v],.bool true]=some (.r,.nilsl,[.cells [p.ns.v,p.as.v,p.fs.v],.free,.free,.free,.free]):=fun ownV=>n1 hQ ownV _ rfl
    have k1:∀ lk:Nat->Nat->Option IObj,cellsI lk 1 .nilsl=some ([],0):=fun lk=>rfl
    have ha1:∀ (lk:Nat->Nat->Option IObj) own,appendI d 1 lk own 1 (.nilsl) [] 0 2=some (.r,.nilsl,own):=fun lk own=>rfl
    have ha2:∀ (lk:Nat->Nat->Option IObj) own,appendI d 1 lk own 1 (.nilsl) (p.fs.l.flatMap intc) p.fs.l.length 3=some (.r,.nilsl,own):=fun lk own=>by
     rw [hC0]
     rfl
    simp only [i61,IC.sub,V0,sevalprocAttr,hfr,c1,c2,k1,zp,zB,zJ,zC,ha1,ha2]
    refine ⟨by simp [comm],?_⟩
    simp only [V0,sevalprocAttr,hfr]
    refine hR _ _ _ (.nilsl) (.inl ⟨by simp [hA,hQ,hC],rfl⟩) (by simp only [V0,sevalprocAttr,hfr]) fun t' O' ht=>?_
    simp only [ze,zg] at ht
    simp only [V0,sevalprocAttr,ht]
   ·skip
    have hC0:p.fs.l.length≠0:=fun h=>hC (List.eq_nil_of_length_eq_zero h)
    have c1:∀ ownV,callN Ftab S m d out ownV [.cells [p.ns.v,p.as.v,p.fs.v],.free,.free,.free,.free] 1 60 [.agg [p.ns.v,p.as.v,p.fs.v],.bool false]=some (.r,.nilsl,[.cells [p.ns.v,p.as.v,p.fs.v],.free,.free,.free,.free]):=fun ownV=>n0 hA ownV _ rfl
    have c2:∀ ownV,callN Ftab S m d out ownV [.cells [p.ns.v,p.as.v,p.fs.v],.free,.free,.free,.free] 2 60 [.agg [p.ns.v,p.as.v,p.fs.v],.bool true]=some (.r,.nilsl,[.cells [p.ns.v,p.as.v,p.fs.v],.free,.free,.free,.free]):=fun ownV=>n1 hQ ownV _ rfl
    have k1:∀ lk:Nat->Nat->Option IObj,cellsI lk 1 .nilsl=some ([],0):=fun lk=>rfl
    have ha1:∀ (lk:Nat->Nat->Option IObj) own,appendI d 1 lk own 1 (.nilsl) [] 0 2=some (.r,.nilsl,own):=fun lk own=>rfl
    have ha2:∀ lk:Nat->Nat->Option IObj,appendI d 1 lk [.cells [p.ns.v,p.as.v,p.fs.v],.free,.free,.free,.free] 1 .nilsl (p.fs.l.flatMap intc) p.fs.l.length 3=some (.a,.slM d 4 0 p.fs.l.length p.fs.l.length 1 false,[.cells [p.ns.v,p.as.v,p.fs.v],.free,.free,.free,.cells (p.fs.l.flatMap intc)]):=fun lk=>by
     rw [ZC hC0 (by unfold bound; omega)]
     rfl
    simp only [i61,IC.sub,V0,sevalprocAttr,hfr,c1,c2,k1,zp,zB,zJ,zC,ha1,ha2]
    refine ⟨by simp [comm],?_⟩
    simp only [V0,sevalprocAttr,hfr]
    refine hR _ _ _ (.slM d 4 0 p.fs.l.length p.fs.l.length 1 false) (.inr ⟨3,by simp [hA,hQ,hC],by simp [hA,hQ,hC],by simp [hA,hQ,hC,zed]⟩) (by simp only [V0,sevalprocAttr,hfr]) fun t' O' ht=>?_
    simp only [ze,zg] at ht
    simp only [V0,sevalprocAttr,ht]
  ·skip
   have hq:Q.length≠0:=fun h=>hQ (List.eq_nil_of_length_eq_zero h)
   by_cases hC:p.fs.l=[]
   ·skip
    have hC0:p.fs.l.length=0:=by rw [hC]; rfl
    have c1:∀ ownV,callN Ftab S m d out ownV [.cells [p.ns.v,p.as.v,p.fs.v],.free,.free,.free,.free] 1 60 [.agg [p.ns.v,p.as.v,p.fs.v],.bool false]=some (.r,.nilsl,[.cells [p.ns.v,p.as.v,p.fs.v],.free,.free,.free,.free]):=fun ownV=>n0 hA ownV _ rfl
    have c2:∀ ownV,callN Ftab S m d out ownV [.cells [p.ns.v,p.as.v,p.fs.v],.free,.free,.free,.free] 2 60 [.agg [p.ns.v,p.as.v,p.fs.v],.bool true]=some (.a,.slM d 2 0 Q.length Q.length 1 false,[.cells [p.ns.v,p.as.v,p.fs.v],.free,.cells (Q.flatMap intc),.free,.free]):=fun ownV=>o1 hQ ownV _ rfl
    have k1:cellsI (look d out (hide [0,1] 1 [.cells [p.ns.v,p.as.v,p.fs.v],.free,.cells (Q.flatMap intc),.free,.free])) 1 (.slM d 2 0 Q.length Q.length 1 false)=some (Q.flatMap intc,Q.length):=by
     have hl:look d out (hide [0,1] 1 [.cells [p.ns.v,p.as.v,p.fs.v],.free,.cells (Q.flatMap intc),.free,.free]) d 2=some (.cells (Q.flatMap intc)):=by
      unfold look
      rw [if_pos rfl,zy]
      rfl
     simp only [cellsI,hl,sQ,zck]
    have ha1:∀ lk:Nat->Nat->Option IObj,appendI d 1 lk [.cells [p.ns.v,p.as.v,p.fs.v],.free,.cells (Q.flatMap intc),.free,.free] 1 .nilsl (Q.flatMap intc) Q.length 2=some (.a,.slM d 3 0 Q.length Q.length 1 false,[.cells [p.ns.v,p.as.v,p.fs.v],.free,.cells (Q.flatMap intc),.cells (Q.flatMap intc),.free]):=fun lk=>by
     rw [ZC hq (by unfold bound; omega)]
     rfl
    have ha2:∀ (lk:Nat->Nat->Option IObj) own,appendI d 1 lk own 1 (.slM d 3 0 Q.length Q.length 1 false) (p.fs.l.flatMap intc) p.fs.l.length 3=some (.r,.slM d 3 0 Q.length Q.length 1 false,own):=fun lk own=>by
     rw [hC0]
     rfl
    simp only [i61,IC.sub,V0,sevalprocAttr,hfr,c1,c2,k1,zp,zB,zJ,zC,ha1,ha2]
    refine ⟨by simp [comm],?_⟩
    simp only [V0,sevalprocAttr,hfr]
    refine hR _ _ _ (.slM d 3 0 Q.length Q.length 1 false) (.inr ⟨2,by simp [hA,hQ,hC],by simp [hA,hQ,hC],by simp [hA,hQ,hC,zed]⟩) (by simp only [V0,sevalprocAttr,hfr]) fun t' O' ht=>?_
    simp only [ze,zg] at ht
    simp only [V0,sevalprocAttr,ht]
   ·skip
    have hC0:p.fs.l.length≠0:=fun h=>hC (List.eq_nil_of_length_eq_zero h)
    have c1:∀ ownV,callN Ftab S m d out ownV [.cells [p.ns.v,p.as.v,p.fs.v],.free,.free,.free,.free] 1 60 [.agg [p.ns.v,p.as.v,p.fs.v],.bool false]=some (.r,.nilsl,[.cells [p.ns.v,p.as.v,p.fs.v],.free,.free,.free,.free]):=fun ownV=>n0 hA ownV _ rfl
    have c2:∀ ownV,callN Ftab S m d out ownV [.cells [p.ns.v,p.as.v,p.fs.v],.free,.free,.free,.free] 2 60 [.agg [p.ns.v,p.as.v,p.fs.v],.bool true]=some (.a,.slM d 2 0 Q.length Q.length 1 false,[.cells [p.ns.v,p.as.v,p.fs.v],.free,.cells (Q.flatMap intc),.free,.free]):=fun ownV=>o1 hQ ownV _ rfl
    have k1:cellsI (look d out (hide [0,1] 1 [.cells [p.ns.v,p.as.v,p.fs.v],.free,.cells (Q.flatMap intc),.free,.free])) 1 (.slM d 2 0 Q.length Q.length 1 false)=some (Q.flatMap intc,Q.length):=by
     have hl:look d out (hide [0,1] 1 [.cells [p.ns.v,p.as.v,p.fs.v],.free,.cells (Q.flatMap intc),.free,.free]) d 2=some (.cells (Q.flatMap intc)):=by
      unfold look
      rw [if_pos rfl,zy]
      rfl
     simp only [cellsI,hl,sQ,zck]
    have ha1:∀ lk:Nat->Nat->Option IObj,appendI d 1 lk [.cells [p.ns.v,p.as.v,p.fs.v],.free,.cells (Q.flatMap intc),.free,.free] 1 .nilsl (Q.flatMap intc) Q.length 2=some (.a,.slM d 3 0 Q.length Q.length 1 false,[.cells [p.ns.v,p.as.v,p.fs.v],.free,.cells (Q.flatMap intc),.cells (Q.flatMap intc),.free]):=fun lk=>by
     rw [ZC hq (by unfold bound; omega)]
     rfl
    have ha2:appendI d 1 (look d out (hide [0,1,2] 1 [.cells [p.ns.v,p.as.v,p.fs.v],.free,.cells (Q.flatMap intc),.cells (Q.flatMap intc),.free])) [.cells [p.ns.v,p.as.v,p.fs.v],.free,.cells (Q.flatMap intc),.cells (Q.flatMap intc),.free] 1 (.slM d 3 0 Q.length Q.length 1 false) (p.fs.l.flatMap intc) p.fs.l.length 3=some (.k 3 4,.slM d 4 0 (Q.length+p.fs.l.length) (Q.length+p.fs.l.length) 1 false,[.cells [p.ns.v,p.as.v,p.fs.v],.free,.cells (Q.flatMap intc),.gone,.cells (Q.flatMap intc++p.fs.l.flatMap intc)]):=by
     rw [yE hC0 (by omega) fQ (Zt _) (by unfold look; rw [if_pos rfl,zy]; rfl)]
     rfl
    simp only [i61,IC.sub,V0,sevalprocAttr,hfr,c1,c2,k1,zp,zB,zJ,zC,ha1,ha2]
    refine ⟨by simp [comm],?_⟩
    simp only [V0,sevalprocAttr,hfr]
    refine hR _ _ _ (.slM d 4 0 (Q.length+p.fs.l.length) (Q.length+p.fs.l.length) 1 false) (.inr ⟨3,by simp [hA,hQ,hC],by simp [hA,hQ,hC],by simp [hA,hQ,hC,zed]⟩) (by simp only [V0,sevalprocAttr,hfr]) fun t' O' ht=>?_
    simp only [ze,zg] at ht
    simp only [V0,sevalprocAttr,ht]
 ·skip
  by_cases hQ:Q=[]
  ·skip
   by_cases hC:p.fs.l=[]
   ·skip
    have hC0:p.fs.l.length=0:=by rw [hC]; rfl
    have c1:∀ ownV,callN Ftab S m d out ownV [.cells [p.ns.v,p.as.v,p.fs.v],.free,.free,.free,.free] 1 60 [.agg [p.ns.v,p.as.v,p.fs.v],.bool false]=some (.a,.slM d 1 0 A.length A.length 1 false,[.cells [p.ns.v,p.as.v,p.fs.v],.cells (A.flatMap intc),.free,.free,.free]):=fun ownV=>o0 hA ownV _ rfl
    have c2:∀ ownV,callN Ftab S m d out ownV [.cells [p.ns.v,p.as.v,p.fs.v],.cells (A.flatMap intc),.free,.free,.free] 2 60 [.agg [p.ns.v,p.as.v,p.fs.v],.bool true]=some (.r,.nilsl,[.cells [p.ns.v,p.as.v,p.fs.v],.cells (A.flatMap intc),.free,.free,.free]):=fun ownV=>n1 hQ ownV _ rfl
    have k1:∀ lk:Nat->Nat->Option IObj,cellsI lk 1 .nilsl=some ([],0):=fun lk=>rfl
    have ha1:∀ (lk:Nat->Nat->Option IObj) own,appendI d 1 lk own 1 (.slM d 1 0 A.length A.length 1 false) [] 0 2=some (.r,.slM d 1 0 A.length A.length 1 false,own):=fun lk own=>rfl
    have ha2:∀ (lk:Nat->Nat->Option IObj) own,appendI d 1 lk own 1 (.slM d 1 0 A.length A.length 1 false) (p.fs.l.flatMap intc) p.fs.l.length 3=some (.r,.slM d 1 0 A.length A.length 1 false,own):=fun lk own=>by
     rw [hC0]
     rfl
    simp only [i61,IC.sub,V0,sevalprocAttr,hfr,c1,c2,k1,zp,zB,zJ,zC,ha1,ha2]
    refine ⟨by simp [comm],?_⟩
    simp only [V0,sevalprocAttr,hfr]
    refine hR _ _ _ (.slM d 1 0 A.length A.length 1 false) (.inr ⟨0,by simp [hA,hQ,hC],by simp [hA,hQ,hC],by simp [hA,hQ,hC,zed]⟩) (by simp only [V0,sevalprocAttr,hfr]) fun t' O' ht=>?_
    simp only [ze,zg] at ht
    simp only [V0,sevalprocAttr,ht]
   ·skip
    have hC0:p.fs.l.length≠0:=fun h=>hC (List.eq_nil_of_length_eq_zero h)
    have c1:∀ ownV,callN Ftab S m d out ownV [.cells [p.ns.v,p.as.v,p.fs.v],.free,.free,.free,.free] 1 60 [.agg [p.ns.v,p.as.v,p.fs.v],.bool false]=some (.a,.slM d 1 0 A.length A.length 1 false,[.cells [p.ns.v,p.as.v,p.fs.v],.cells (A.flatMap intc),.free,.free,.free]):=fun ownV=>o0 hA ownV _ rfl
    have c2:∀ ownV,callN Ftab S m d out ownV [.cells [p.ns.v,p.as.v,p.fs.v],.cells (A.flatMap intc),.free,.free,.free] 2 60 [.agg [p.ns.v,p.as.v,p.fs.v],.bool true]=some (.r,.nilsl,[.cells [p.ns.v,p.as.v,p.fs.v],.cells (A.flatMap intc),.free,.free,.free]):=fun ownV=>n1 hQ ownV _ rfl
    have k1:∀ lk:Nat->Nat->Option IObj,cellsI lk 1 .nilsl=some ([],0):=fun lk=>rfl
    have ha1:∀ (lk:Nat->Nat->Option IObj) own,appendI d 1 lk own 1 (.slM d 1 0 A.length A.length 1 false) [] 0 2=some (.r,.slM d 1 0 A.length A.length 1 false,own):=fun lk own=>rfl
    have ha2:appendI d 1 (look d out (hide [0,1,2] 1 [.cells [p.ns.v,p.as.v,p.fs.v],.cells (A.flatMap intc),.free,.free,.free])) [.cells [p.ns.v,p.as.v,p.fs.v],.cells (A.flatMap intc),.free,.free,.free] 1 (.slM d 1 0 A.length A.length 1 false) (p.fs.l.flatMap intc) p.fs.l.length 3=some (.k 1 4,.slM d 4 0 (A.length+p.fs.l.length) (A.length+p.fs.l.length) 1 false,[.cells [p.ns.v,p.as.v,p.fs.v],.gone,.free,.free,.cells (A.flatMap intc++p.fs.l.flatMap intc)]):=by
     rw [yE hC0 (by omega) fA (Zt _) (by unfold look; rw [if_pos rfl,zy]; rfl)]
     rfl
    simp only [i61,IC.sub,V0,sevalprocAttr,hfr,c1,c2,k1,zp,zB,zJ,zC,ha1,ha2]
    refine ⟨by simp [comm],?_⟩
    simp only [V0,sevalprocAttr,hfr]
    refine hR _ _ _ (.slM d 4 0 (A.length+p.fs.l.length) (A.length+p.fs.l.length) 1 false) (.inr ⟨3,by simp [hA,hQ,hC],by simp [hA,hQ,hC],by simp [hA,hQ,hC,zed]⟩) (by simp only [V0,sevalprocAttr,hfr]) fun t' O' ht=>?_
    simp only [ze,zg] at ht
    simp only [V0,sevalprocAttr,ht]
  ·skip
   have hq:Q.length≠0:=fun h=>hQ (List.eq_nil_of_length_eq_zero h)
   by_cases hC:p.fs.l=[]
   ·skip
    have hC0:p.fs.l.length=0:=by rw [hC]; rfl
    have c1:∀ ownV,callN Ftab S m d out ownV [.cells [p.ns.v,p.as.v,p.fs.v],.free,.free,.free,.free] 1 60 [.agg [p.ns.v,p.as.v,p.fs.v],.bool false]=some (.a,.slM d 1 0 A.length A.length 1 false,[.cells [p.ns.v,p.as.v,p.fs.v],.cells (A.flatMap intc),.free,.free,.free]):=fun ownV=>o0 hA ownV _ rfl
    have c2:∀ ownV,callN Ftab S m d out ownV [.cells [p.ns.v,p.as.v,p.fs.v],.cells (A.flatMap intc),.free,.free,.free] 2 60 [.agg [p.ns.v,p.as.v,p.fs.v],.bool true]=some (.a,.slM d 2 0 Q.length Q.length 1 false,[.cells [p.ns.v,p.as.v,p.fs.v],.cells (A.flatMap intc),.cells (Q.flatMap intc),.free,.free]):=fun ownV=>o1 hQ ownV _ rfl
    have k1:cellsI (look d out (hide [0,1] 1 [.cells [p.ns.v,p.as.v,p.fs.v],.cells (A.flatMap intc),.cells (Q.flatMap intc),.free,.free])) 1 (.slM d 2 0 Q.length Q.length 1 false)=some (Q.flatMap intc,Q.length):=by
     have hl:look d out (hide [0,1] 1 [.cells [p.ns.v,p.as.v,p.fs.v],.cells (A.flatMap intc),.cells (Q.flatMap intc),.free,.free]) d 2=some (.cells (Q.flatMap intc)):=by
      unfold look
      rw [if_pos rfl,zy]
      rfl
     simp only [cellsI,hl,sQ,zck]
    have ha1:appendI d 1 (look d out (hide [0,1] 1 [.cells [p.ns.v,p.as.v,p.fs.v],.cells (A.flatMap intc),.cells (Q.flatMap intc),.free,.free])) [.cells [p.ns.v,p.as.v,p.fs.v],.cells (A.flatMap intc),.cells (Q.flatMap intc),.free,.free] 1 (.slM d 1 0 A.length A.length 1 false) (Q.flatMap intc) Q.length 2=some (.k 1 3,.slM d 3 0 (A.length+Q.length) (A.length+Q.length) 1 false,[.cells [p.ns.v,p.as.v,p.fs.v],.gone,.cells (Q.flatMap intc),.cells (A.flatMap intc++Q.flatMap intc),.free]):=by
     rw [yE hq (by omega) fA (Zt _) (by unfold look; rw [if_pos rfl,zy]; rfl)]
     rfl
    have ha2:∀ (lk:Nat->Nat->Option IObj) own,appendI d 1 lk own 1 (.slM d 3 0 (A.length+Q.length) (A.length+Q.length) 1 false) (p.fs.l.flatMap intc) p.fs.l.length 3=some (.r,.slM d 3 0 (A.length+Q.length) (A.length+Q.length) 1 false,own):=fun lk own=>by
     rw [hC0]
     rfl
    simp only [i61,IC.sub,V0,sevalprocAttr,hfr,c1,c2,k1,zp,zB,zJ,zC,ha1,ha2]
    refine ⟨by simp [comm],?_⟩
    simp only [V0,sevalprocAttr,hfr]
    refine hR _ _ _ (.slM d 3 0 (A.length+Q.length) (A.length+Q.length) 1 false) (.inr ⟨2,by simp [hA,hQ,hC],by simp [hA,hQ,hC],by simp [hA,hQ,hC,zed]⟩) (by simp only [V0,sevalprocAttr,hfr]) fun t' O' ht=>?_
    simp only [ze,zg] at ht
    simp only [V0,sevalprocAttr,ht]
   ·skip
    have hC0:p.fs.l.length≠0:=fun h=>hC (List.eq_nil_of_length_eq_zero h)
    have c1:∀ ownV,callN Ftab S m d out ownV [.cells [p.ns.v,p.as.v,p.fs.v],.free,.free,.free,.free] 1 60 [.agg [p.ns.v,p.as.v,p.fs.v],.bool false]=some (.a,.slM d 1 0 A.length A.length 1 false,[.cells [p.ns.v,p.as.v,p.fs.v],.cells (A.flatMap intc),.free,.free,.free]):=fun ownV=>o0 hA ownV _ rfl
    have c2:∀ ownV,callN Ftab S m d out ownV [.cells [p.ns.v,p.as.v,p.fs.v],.cells (A.flatMap intc),.free,.free,.free] 2 60 [.agg [p.ns.v,p.as.v,p.fs.v],.bool true]=some (.a,.slM d 2 0 Q.length Q.length 1 false,[.cells [p.ns.v,p.as.v,p.fs.v],.cells (A.flatMap intc),.cells (Q.flatMap intc),.free,.free]):=fun ownV=>o1 hQ ownV _ rfl
    have k1:cellsI (look d out (hide [0,1] 1 [.cells [p.ns.v,p.as.v,p.fs.v],.cells (A.flatMap intc),.cells (Q.flatMap intc),.free,.free])) 1 (.slM d 2 0 Q.length Q.length 1 false)=some (Q.flatMap intc,Q.length):=by
     have hl:look d out (hide [0,1] 1 [.cells [p.ns.v,p.as.v,p.fs.v],.cells (A.flatMap intc),.cells (Q.flatMap intc),.free,.free]) d 2=some (.cells (Q.flatMap intc)):=by
      unfold look
      rw [if_pos rfl,zy]
      rfl
     simp only [cellsI,hl,sQ,zck]
    have ha1:appendI d 1 (look d out (hide [0,1] 1 [.cells [p.ns.v,p.as.v,p.fs.v],.cells (A.flatMap intc),.cells (Q.flatMap intc),.free,.free])) [.cells [p.ns.v,p.as.v,p.fs.v],.cells (A.flatMap intc),.cells (Q.flatMap intc),.free,.free] 1 (.slM d 1 0 A.length A.length 1 false) (Q.flatMap intc) Q.length 2=some (.k 1 3,.slM d 3 0 (A.length+Q.length) (A.length+Q.length) 1 false,[.cells [p.ns.v,p.as.v,p.fs.v],.gone,.cells (Q.flatMap intc),.cells (A.flatMap intc++Q.flatMap intc),.free]):=by
     rw [yE hq (by omega) fA (Zt _) (by unfold look; rw [if_pos rfl,zy]; rfl)]
     rfl
    have ha2:appendI d 1 (look d out (hide [0,1,2] 1 [.cells [p.ns.v,p.as.v,p.fs.v],.gone,.cells (Q.flatMap intc),.cells (A.flatMap intc++Q.flatMap intc),.free])) [.cells [p.ns.v,p.as.v,p.fs.v],.gone,.cells (Q.flatMap intc),.cells (A.flatMap intc++Q.flatMap intc),.free] 1 (.slM d 3 0 (A.length+Q.length) (A.length+Q.length) 1 false) (p.fs.l.flatMap intc) p.fs.l.length 3=some (.k 3 4,.slM d 4 0 ((A.length+Q.length)+p.fs.l.length) ((A.length+Q.length)+p.fs.l.length) 1 false,[.cells [p.ns.v,p.as.v,p.fs.v],.gone,.cells (Q.flatMap intc),.gone,.cells ((A.flatMap intc++Q.flatMap intc)++p.fs.l.flatMap intc)]):=by
     rw [yE hC0 (by omega) fAQ (Zt _) (by unfold look; rw [if_pos rfl,zy]; rfl)]
     rfl
    simp only [i61,IC.sub,V0,sevalprocAttr,hfr,c1,c2,k1,zp,zB,zJ,zC,ha1,ha2]
    refine ⟨by simp [comm],?_⟩
    simp only [V0,sevalprocAttr,hfr]
    refine hR _ _ _ (.slM d 4 0 ((A.length+Q.length)+p.fs.l.length) ((A.length+Q.length)+p.fs.l.length) 1 false) (.inr ⟨3,by simp [hA,hQ,hC],by simp [hA,hQ,hC,zcv],by simp [hA,hQ,hC,zed]⟩) (by simp only [V0,sevalprocAttr,hfr]) fun t' O' ht=>?_
    simp only [ze,zg] at ht
    simp only [V0,sevalprocAttr,ht]
end
end
section
noncomputable def pairR (ns:List Nd) (s t:Sp):Bool:=bif s.id==t.id then apartB s t else joinedB ns s t
noncomputable def planR (ns:List Nd) (l:List Rg):Bool:=!(l.zipIdx.any fun ti=>!aloneB ns ti.1.sp||(l.take ti.2).any fun s=>!pairR ns s.sp ti.1.sp)
theorem rgs_ok {p:Pn} (hv:∀ a∈p.as.l,a.via.l.length<=1000) {s:Rg} (h:s∈rgsL p):s.k<s.n/\s.n<=1000000:=by
 obtain ⟨a,ha,hs⟩:=List.mem_flatMap.1 h
 unfold rgsOf at hs
 obtain ⟨k,hk,rfl⟩:=List.mem_map.1 hs
 have:=List.mem_range.1 hk
 have:=Y3 (p:=p) (hv a ha)
 dsimp only
 omega
section
variable {S:ySM}
theorem ar_planar (hS:NoS S) (p:Pn) (hv:∀ a∈p.as.l,a.via.l.length<=1000) (ha:p.as.l.length<=1000):∃ N,GivesN S N 65 [.agg p.c] (.bool (planR p.ns.l (rgsL p))):=by
 obtain ⟨N0,h0⟩:=ar_segs hS p hv ha
 have hok:∀ s∈rgsL p,s.k<s.n/\s.n<=1000000:=fun s=>rgs_ok hv
 have hlen:(rgsL p).length<=1001000:=by
  have:=zb3 hv p.as.l.length
  rw [List.take_length] at this
  unfold rgsL
  omega
 have hql:=rowQ_l Rg.c_len (rgsL p) (zar hv ha)
 generalize rowQ Rg.c_len (rgsL p) (zar hv ha)=q at h0 hql
 rw [← hql] at hok hlen ⊢
 refine ⟨N0+p.ns.l.length+2*q.l.length+60,zd (i:=i65) (ns hS (by rfl)) rfl rfl (lb rfl) (N0+p.ns.l.length+2*q.l.length+59) (by omega) zk fun m hm d out t hfr=>?_⟩
 simp only [V2,Nat.reduceAdd,i65,Pn.c] at hfr
 have c0:=h0 m (by omega)
 have hqf:=q.few
 have cl:∀ s:Rg,s∈q.l->∀ dd out ownV own i,callN Ftab S m dd out ownV own i 101 [.agg [p.ns.v,p.as.v,p.fs.v],.agg s.c]=some (.r,.bool (aloneB p.ns.l s.sp),own):=fun s hs dd out ownV own i=>ar_alone hS p s (hok s hs) m (by omega) dd out ownV own i
 have cp:∀ s u:Rg,s∈q.l->u∈q.l->∀ dd out ownV own i,callN Ftab S m dd out ownV own i 102 [.agg s.c,.agg u.c]=some (.r,.bool (apartB s.sp u.sp),own):=fun s u hs hu dd out ownV own i=>ar_apart hS s u (hok s hs) (hok u hu) m (by omega) dd out ownV own i
 have cj:∀ s u:Rg,∀ dd out ownV own i,callN Ftab S m dd out ownV own i 103 [.agg [p.ns.v,p.as.v,p.fs.v],.agg s.c,.agg u.c]=some (.r,.bool (joinedB p.ns.l s.sp u.sp),own):=fun s u dd out ownV own i=>ar_joined hS p s u m (by omega) dd out ownV own i
 simp only [Pn.c] at c0
 have hbne:∀ y z:Int,(y != z)=!(y==z):=fun y z=>rfl
 simp only [i65,V0,sevalprocAttr,hfr,c0]
 refine zb (fun jj st=>∃ (i:Nat) (O:yLO),q.l.length - i<=jj/\i<=q.l.length/\(q.l.zipIdx.take i).any (fun ti=>!aloneB p.ns.l ti.1.sp||(q.l.take ti.2).any fun s=>!pairR p.ns.l s.sp ti.1.sp)=false/\st.own=.cells [p.ns.v,p.as.v,p.fs.v]::O/\Slots 79 st.t [(1,.ptrM d 0 0),(3,q.v),(4,iv i)]) q.l.length (by omega) ⟨0,_,by omega,by omega,by simp,rfl,by simp only [V0,sevalprocAttr,hfr,zcp,c0]⟩ ?_
 clear hfr
 rintro jj ⟨t,own1⟩ KA ⟨i,O,hjj,hi,ha2,ho,hfr⟩ hnA heA hrA
 dsimp only at ho hfr
 subst ho
 simp only [V3] at hfr
 by_cases h:i<q.l.length
 ·have hx:q.l[i]?=some q.l[i]:=zce h
  have hxm:q.l[i]∈q.l:=zdr h
  generalize q.l[i]=x at hx hxm
  have hxz:q.l.zipIdx[i]?=some (x,i):=by rw [List.getElem?_zipIdx,hx]; simp
  have hrd:rdN (q.l.flatMap Rg.c) (i*12) 12=some x.c:=(zc Rg.c_len 0 12 hx (by omega)).trans rfl
  have hrd0:rdN (q.l.flatMap Rg.c) (i*12) 1=some [.int .i64 x.a.id]:=(zc Rg.c_len 0 1 hx (by omega)).trans rfl
  have hw:wrapI .i64 ((i:Int)+1)=((i+1:Nat):Int):=we
  have cx:=cl x hxm
  have hmk:∀ s:Rg,mkv true s.c=some (.agg s.c):=fun s=>rfl
  cases hal:aloneB p.ns.l x.sp
  ·have hbad:planR p.ns.l q.l=false:=by
    unfold planR
    rw [zW (q:=fun ti:Rg × Nat=>!aloneB p.ns.l ti.1.sp||(q.l.take ti.2).any fun s=>!pairR p.ns.l s.sp ti.1.sp) hxz (by simp only [hal,zch,zdm])]
    rfl
   simp only [V0,sevalprocAttr,hfr,h,za q h,hrd,hmk,cx,hal,zch]
   refine ⟨by simp [comm],?_⟩
   simp only [V0,sevalprocAttr,hfr]
   refine hrA _ ?_
   simp only [V0,sevalprocAttr,hfr,hbad]
  ·simp only [V0,sevalprocAttr,hfr,h,za q h,hrd,hmk,cx,hal,zci]
   refine ⟨by simp [comm],?_⟩
   simp only [V0,sevalprocAttr,hfr]
   refine zb (fun jj st=>∃ (k:Nat) (O:yLO),i - k<=jj/\k<=i/\(q.l.take k).any (fun s=>!pairR p.ns.l s.sp x.sp)=false/\st.own=.cells [p.ns.v,p.as.v,p.fs.v]::O/\Slots 79 st.t [(1,.ptrM d 0 0),(3,q.v),(4,iv i),(5,iv k)]) i (by omega) ⟨0,_,by omega,by omega,by simp,rfl,by simp only [V0,sevalprocAttr,hfr,zcp,hal,cx]⟩ ?_
   clear hfr
   rintro jj2 ⟨t,own1⟩ KB ⟨k,O,hjk,hk,hb,ho,hfr⟩ hnB heB hrB
   dsimp only at ho hfr
   subst ho
   simp only [V3] at hfr
   by_cases h2:k<i
   ·have hkl:k<q.l.length:=by omega
    have hy:q.l[k]?=some q.l[k]:=zce hkl
    have hym:q.l[k]∈q.l:=zdr hkl
    generalize q.l[k]=y at hy hym
    have hry:rdN (q.l.flatMap Rg.c) (k*12) 12=some y.c:=(zc Rg.c_len 0 12 hy (by omega)).trans rfl
    have hry0:rdN (q.l.flatMap Rg.c) (k*12) 1=some [.int .i64 y.a.id]:=(zc Rg.c_len 0 1 hy (by omega)).trans rfl
    have hwk:wrapI .i64 ((k:Int)+1)=((k+1:Nat):Int):=we
    have cpp:=cp y x hym hxm
    have cjj:=cj y x
    have hit:pairR p.ns.l y.sp x.sp=false->planR p.ns.l q.l=false:=fun hp=>by
     have h9:(q.l.take i).any (fun s=>!pairR p.ns.l s.sp x.sp)=true:=zW (q:=fun s:Rg=>!pairR p.ns.l s.sp x.sp) (show (q.l.take i)[k]?=some y by rw [zdt,if_pos h2]; exact hy) (by rw [hp]; rfl)
     unfold planR
     rw [zW (q:=fun ti:Rg × Nat=>!aloneB p.ns.l ti.1.sp||(q.l.take ti.2).any fun s=>!pairR p.ns.l s.sp ti.1.sp) hxz (by show (!aloneB p.ns.l x.sp||_)=true; rw [h9,Bool.or_true])]
     rfl
    have next:pairR p.ns.l y.sp x.sp=true->(q.l.take (k+1)).any (fun s=>!pairR p.ns.l s.sp x.sp)=false:=fun hp=>zG hy hb (by rw [hp]; rfl)
    have hpr:pairR p.ns.l y.sp x.sp=bif y.a.id==x.a.id then apartB y.sp x.sp else joinedB p.ns.l y.sp x.sp:=rfl
    cases hid:y.a.id==x.a.id
    ·rw [hid,cond_false] at hpr
     cases hj:joinedB p.ns.l y.sp x.sp
     ·simp only [V0,sevalprocAttr,hfr,h2,za q h,za q hkl,hrd,hry,hrd0,hry0,hmk,hbne,hid,cjj,hj,zch]
      refine ⟨by simp [comm],?_⟩
      simp only [V0,sevalprocAttr,hfr]
      refine hrB _ ?_
      simp only [V0,sevalprocAttr,hfr]
      refine hrA _ ?_
      simp only [V0,sevalprocAttr,hfr,hit (hpr.trans hj)]
     ·simp only [V0,sevalprocAttr,hfr,h2,za q h,za q hkl,hrd,hry,hrd0,hry0,hmk,hbne,hid,cjj,hj,zci,zch]
      refine ⟨by simp [comm],?_⟩
      simp only [V0,sevalprocAttr,hfr,hwk]
      exact hnB _ (i - (k+1)) (by omega) ⟨k+1,_,by omega,by omega,next (hpr.trans hj),rfl,by simp only [V0,sevalprocAttr,hfr,hwk,hid,hj]⟩
    ·rw [hid,cond_true] at hpr
     cases hj:apartB y.sp x.sp
     ·simp only [V0,sevalprocAttr,hfr,h2,za q h,za q hkl,hrd,hry,hrd0,hry0,hmk,hbne,hid,cpp,hj,zch]
      refine ⟨by simp [comm],?_⟩
      simp only [V0,sevalprocAttr,hfr]
      refine hrB _ ?_
      simp only [V0,sevalprocAttr,hfr]
      refine hrA _ ?_
      simp only [V0,sevalprocAttr,hfr,hit (hpr.trans hj)]
     ·simp only [V0,sevalprocAttr,hfr,h2,za q h,za q hkl,hrd,hry,hrd0,hry0,hmk,hbne,hid,cpp,hj,zci]
      refine ⟨by simp [comm],?_⟩
      simp only [V0,sevalprocAttr,hfr,hwk]
      exact hnB _ (i - (k+1)) (by omega) ⟨k+1,_,by omega,by omega,next (hpr.trans hj),rfl,by simp only [V0,sevalprocAttr,hfr,hwk,hid,hj]⟩
   ·simp only [V0,sevalprocAttr,hfr,h2]
    refine heB _ _ ?_
    simp only [V0,sevalprocAttr,hfr,hw]
    have hki:k=i:=by omega
    subst hki
    exact hnA _ (q.l.length - (k+1)) (by omega) ⟨k+1,_,by omega,by omega,zG hxz ha2 (by simp only [hal,hb,zci,Bool.or_self]),rfl,by simp only [V0,sevalprocAttr,hfr,hw]⟩
 ·have hgood:planR p.ns.l q.l=true:=by
   unfold planR
   rw [zcm (by rw [List.length_zipIdx]; omega)] at ha2
   rw [ha2]
   rfl
  simp only [V0,sevalprocAttr,hfr,h]
  refine heA _ _ ?_
  simp only [V0,sevalprocAttr,hfr,hgood]
end
end
section
def lineOk (p:Pn) (a:Ac):Bool:=(nodeF p a.fr).isSome&&(nodeF p a.to).isSome
def faceOk (p:Pn) (n:Int):Bool:=hasI p.fs.l n||n==0
noncomputable def ref3 (p:Pn):Int:=bif p.as.l.any (fun a=>!lineOk p a) then 7 else bif p.as.l.any (fun a=>!faceOk p a.l||!faceOk p a.r) then 12 else bif planR p.ns.l (rgsL p) then 0 else 11
noncomputable def ref2 (p:Pn):Int:=bif !rngR p then 2 else bif dupPt p.ns.l then 8 else ref3 p
noncomputable def refE (p:Pn):Int:=bif limI p||limV p then 3 else bif !ordB p then 10 else ref2 p
section
variable {S:ySM}
theorem lim_small {p:Pn} (h:limI p=false) (h2:limV p=false):p.ns.l.length<=256/\p.as.l.length<=256/\p.fs.l.length<=64/\∀ a∈p.as.l,a.via.l.length<=64:=by
 simp only [limI,zd6,decide_eq_false_iff_not] at h
 refine ⟨by omega,by omega,by omega,fun a ha=>?_⟩
 have:=zd9.1 h2 a ha
 simp only [decide_eq_true_eq] at this
 omega
theorem ck3 (hS:NoS S) (p:Pn) (hl:p.ns.l.length<=256/\p.as.l.length<=256/\p.fs.l.length<=64/\∀ a∈p.as.l,a.via.l.length<=64):∃ N,∀ {m d:Nat} {out:yLM},N<=m->∀ {K:yKM} (t:List IV) (O:yLO),Slots 79 t [(1,.ptrM d 0 0)] ->
  (∀ t' O',Slots 79 t' [(2,.int .i64 (ref3 p))]->K .ret ⟨t',O'⟩) ->
  Ex (callN Ftab S m) d out m (i23.body.sub [1,1,1,1,1]) K ⟨t,.cells [p.ns.v,p.as.v,p.fs.v]::O⟩:=by
 obtain ⟨l1,l2,l3,l4⟩:=hl
 obtain ⟨N1,hP⟩:=ar_planar hS p (fun a ha=>by have:=l4 a ha; omega) (by omega)
 have hline:∀ a∈p.as.l,∃ N,∀ m,N<=m->∃ (v:IV),∀ d out ownV own id,callN Ftab S m d out ownV own id 63 [.agg p.c,.agg a.c]=some (.r,.tuple [v,.bool (lineOk p a)],own):=fun a h=>by
  obtain ⟨q',h1,N,h2⟩:=Yi hS p a (by have:=l4 a h; omega)
  exact ⟨N,fun m hm=>⟨q'.v,h2 m hm⟩⟩
 obtain ⟨N2,hN2⟩:=unif p.as.l hline
 refine ⟨N1+N2+800,fun {m d out} hm {K} t O hfr hK=>?_⟩
 simp only [ze,zg] at hfr
 have haf:=p.as.few
 simp only [i23,IC.sub,V0,sevalprocAttr,hfr]
 refine zb (fun jj st=>∃ (i:Nat) (O:yLO),p.as.l.length - i<=jj/\i<=p.as.l.length/\(p.as.l.take i).any (fun a=>!lineOk p a)=false/\st.own=.cells [p.ns.v,p.as.v,p.fs.v]::O/\Slots 79 st.t [(1,.ptrM d 0 0),(3,iv i)]) p.as.l.length (by omega) ⟨0,_,by omega,by omega,by simp,rfl,by simp only [V0,sevalprocAttr,hfr,zcp]⟩ ?_
 clear hfr
 rintro jj ⟨t,own⟩ KA ⟨i,O,hjj,hi,ha,ho,hfr⟩ hnA heA hrA
 dsimp only at ho hfr
 subst ho
 simp only [V3] at hfr
 by_cases h:i<p.as.l.length
 ·have hx:p.as.l[i]?=some p.as.l[i]:=zce h
  obtain ⟨lv,hlc⟩:=hN2 _ (zdr h) m (by omega)
  generalize p.as.l[i]=x at hx hlc
  have hrd:rdN (p.as.l.flatMap Ac.c) (i*6) 6=some [.int .i64 x.id,.int .i64 x.fr,.int .i64 x.to,x.via.v,.int .i64 x.l,.int .i64 x.r]:=(zc Ac.c_len 0 6 hx (by omega)).trans rfl
  have hw:wrapI .i64 ((i:Int)+1)=((i+1:Nat):Int):=we
  simp only [Pn.c,Ac.c,zo] at hlc
  cases hq:lineOk p x
  ·simp only [V0,sevalprocAttr,hfr,h,za p.as h,hrd,hlc,hq]
   refine ⟨by simp [comm],?_⟩
   simp only [V0,sevalprocAttr,hfr,hq,zch]
   refine hrA _ ?_
   exact hK _ _ (by simp only [V0,sevalprocAttr,hfr,ref3,zW (q:=fun a=>!lineOk p a) hx (by simp only [hq,zch]),cond_true])
  ·simp only [V0,sevalprocAttr,hfr,h,za p.as h,hrd,hlc,hq]
   refine ⟨by simp [comm],?_⟩
   simp only [V0,sevalprocAttr,hfr,hq,zci,hw]
   exact hnA _ (p.as.l.length - (i+1)) (by omega) ⟨i+1,_,by omega,by omega,zG hx ha (by simp only [hq,zci]),rfl,by simp only [V0,sevalprocAttr,hfr,hw]⟩
 ·have hn1:p.as.l.any (fun a=>!lineOk p a)=false:=by
   rw [← zcm (l:=p.as.l) (i:=i) (by omega)]
   exact ha
  simp only [V0,sevalprocAttr,hfr,h]
  refine heA _ _ ?_
  simp only [V0,sevalprocAttr,hfr]
  refine zb (fun jj st=>∃ (i:Nat) (O:yLO),p.as.l.length - i<=jj/\i<=p.as.l.length/\(p.as.l.take i).any (fun a=>!faceOk p a.l||!faceOk p a.r)=false/\st.own=.cells [p.ns.v,p.as.v,p.fs.v]::O/\Slots 79 st.t [(1,.ptrM d 0 0),(6,iv i)]) p.as.l.length (by omega) ⟨0,_,by omega,by omega,by simp,rfl,by simp only [V0,sevalprocAttr,hfr,zcp]⟩ ?_
  clear hfr ha hnA heA hrA O i hi hjj jj h
  rintro jj ⟨t,own⟩ KA ⟨i,O,hjj,hi,ha,ho,hfr⟩ hnA heA hrA
  dsimp only at ho hfr
  subst ho
  simp only [V3] at hfr
  have cf:∀ (z:Int) dd out ownV own i,callN Ftab S m dd out ownV own i 64 [.agg [p.ns.v,p.as.v,p.fs.v],.int .i64 z]=some (.r,.bool (faceOk p z),own):=fun z dd out ownV own i=>ar_face hS p z m (by omega) dd out ownV own i
  by_cases h:i<p.as.l.length
  ·obtain ⟨x,hx⟩:=gx (l:=p.as.l) (i:=i) h
   have hr4:rdN (p.as.l.flatMap Ac.c) (i*6+4) 1=some [.int .i64 x.l]:=(zc Ac.c_len 4 1 hx (by omega)).trans rfl
   have hr5:rdN (p.as.l.flatMap Ac.c) (i*6+5) 1=some [.int .i64 x.r]:=(zc Ac.c_len 5 1 hx (by omega)).trans rfl
   have hw:wrapI .i64 ((i:Int)+1)=((i+1:Nat):Int):=we
   cases h1:faceOk p x.l
   ·simp only [V0,sevalprocAttr,hfr,h,za p.as h,hr4,hr5,cf,h1,zch]
    refine ⟨by simp [comm],?_⟩
    simp only [V0,sevalprocAttr,hfr]
    refine hrA _ ?_
    exact hK _ _ (by simp only [V0,sevalprocAttr,hfr,ref3,hn1,zW (q:=fun a=>!faceOk p a.l||!faceOk p a.r) hx (by simp only [h1,zch,zdm]),cond_true,cond_false])
   ·cases h2:faceOk p x.r
    ·simp only [V0,sevalprocAttr,hfr,h,za p.as h,hr4,hr5,cf,h1,h2,zci,zch]
     refine ⟨by simp [comm],?_⟩
     simp only [V0,sevalprocAttr,hfr]
     refine hrA _ ?_
     exact hK _ _ (by simp only [V0,sevalprocAttr,hfr,ref3,hn1,zW (q:=fun a=>!faceOk p a.l||!faceOk p a.r) hx (by simp only [h2,zch,Bool.or_true]),cond_true,cond_false])
    ·simp only [V0,sevalprocAttr,hfr,h,za p.as h,hr4,hr5,cf,h1,h2,zci]
     refine ⟨by simp [comm],?_⟩
     simp only [V0,sevalprocAttr,hfr,hw]
     exact hnA _ (p.as.l.length - (i+1)) (by omega) ⟨i+1,_,by omega,by omega,zG hx ha (by simp only [h1,h2,zci,Bool.or_self]),rfl,by simp only [V0,sevalprocAttr,hfr,hw]⟩
  ·have hn2:p.as.l.any (fun a=>!faceOk p a.l||!faceOk p a.r)=false:=by
    rw [← zcm (l:=p.as.l) (i:=i) (by omega)]
    exact ha
   have c9:=fun dd out ownV own i=>hP m (by omega) dd out ownV own i
   simp only [Pn.c] at c9
   simp only [V0,sevalprocAttr,hfr,h]
   refine heA _ _ ?_
   unfold ref3 at hK
   rw [hn1,hn2,cond_false,cond_false] at hK
   cases hp:planR p.ns.l (rgsL p)
   ·rw [hp] at hK
    simp only [V0,sevalprocAttr,hfr,c9,hp,zch]
    exact hK _ _ (by simp only [V0,sevalprocAttr,hfr,cond_false])
   ·rw [hp] at hK
    simp only [V0,sevalprocAttr,hfr,c9,hp,zci]
    exact hK _ _ (by simp only [V0,sevalprocAttr,hfr,cond_true])
theorem ck2 (hS:NoS S) (p:Pn) (hl:p.ns.l.length<=256/\p.as.l.length<=256/\p.fs.l.length<=64/\∀ a∈p.as.l,a.via.l.length<=64):∃ N,∀ {m d:Nat} {out:yLM},N<=m->∀ {K:yKM} (t:List IV) (O:yLO),Slots 79 t [(1,.ptrM d 0 0)] ->
  (∀ t' O',Slots 79 t' [(2,.int .i64 (ref2 p))]->K .ret ⟨t',O'⟩) ->
  Ex (callN Ftab S m) d out m (i23.body.sub [1,1,1]) K ⟨t,.cells [p.ns.v,p.as.v,p.fs.v]::O⟩:=by
 obtain ⟨N3,h3⟩:=ck3 hS p hl
 obtain ⟨l1,l2,l3,l4⟩:=hl
 have hr:=ar_ranges hS p (fun a ha=>by have:=l4 a ha; omega) (by omega) (by omega) (by omega)
 have ht:=ar_twice hS p
 refine ⟨N3+2*(p.ns.l.length+p.as.l.length)+p.fs.l.length+(allPts p).length+2*p.ns.l.length+60,fun {m d out} hm {K} t O hfr hK=>?_⟩
 simp only [ze,zg] at hfr
 have c1:=fun dd out ownV own i=>hr m (by omega) dd out ownV own i
 have c2:=fun dd out ownV own i=>ht m (by omega) dd out ownV own i
 simp only [Pn.c] at c1 c2
 have h4:=fun (K:yKM) t O=>@h3 m d out (by omega) K t O
 rw [show i23.body.sub [1,1,1]=.seq (i23.body.sub [1,1,1,0]) (.seq (i23.body.sub [1,1,1,1,0]) (i23.body.sub [1,1,1,1,1])) from rfl]
 generalize i23.body.sub [1,1,1,1,1]=B at h4 ⊢
 unfold ref2 at hK
 cases q1:rngR p
 ·rw [q1] at hK
  simp only [i23,IC.sub,V0,sevalprocAttr,hfr,c1,q1,zch]
  exact hK _ _ (by simp only [V0,sevalprocAttr,hfr,zch,cond_true])
 ·rw [q1] at hK
  cases q2:dupPt p.ns.l
  ·rw [q2] at hK
   simp only [i23,IC.sub,V0,sevalprocAttr,hfr,c1,c2,q1,q2,zci]
   exact h4 _ _ _ (by simp only [V0,sevalprocAttr,hfr]) fun t' O' ht'=>hK t' O' ht'
  ·rw [q2] at hK
   simp only [i23,IC.sub,V0,sevalprocAttr,hfr,c1,c2,q1,q2,zci]
   exact hK _ _ (by simp only [V0,sevalprocAttr,hfr,zci,cond_true,cond_false])
end
end
section
section
variable {S:ySM}
theorem ar_check14 (hS:NoS S) (p:Pn):∃ N,GivesN S N 23 [.agg p.c] (.int .i64 (refE p)):=by
 by_cases hlim:(limI p||limV p)=true
 ·refine ⟨p.as.l.length+8,zd (i:=i23) (ns hS (by rfl)) rfl rfl (lb rfl) (p.as.l.length+7) (by omega) zw fun m hm d out t hfr=>?_⟩
  simp only [V2,Nat.reduceAdd,i23,Pn.c] at hfr
  have c0:=fun dd out ownV own i=>ar_limits hS p m (by omega) dd out ownV own i
  simp only [Pn.c,hlim] at c0
  simp only [i23,V0,sevalprocAttr,hfr,c0,refE,hlim,cond_true]
 ·have hlim:(limI p||limV p)=false:=by simpa using hlim
  have hl:limI p=false/\limV p=false:=by simpa [zd6] using hlim
  have hsm:=lim_small hl.1 hl.2
  obtain ⟨N2,h2⟩:=ck2 hS p hsm
  obtain ⟨l1,l2,l3,l4⟩:=hsm
  refine ⟨N2+2000,zd (i:=i23) (ns hS (by rfl)) rfl rfl (lb rfl) (N2+1999) (by omega) zw fun m hm d out t hfr=>?_⟩
  simp only [V2,Nat.reduceAdd,i23,Pn.c] at hfr
  have c0:=fun dd out ownV own i=>ar_limits hS p m (by omega) dd out ownV own i
  simp only [Pn.c,hlim] at c0
  have hla:(idsL p false).length=p.ns.l.length:=by simp [idsL]
  have hlb:(idsL p true).length=p.as.l.length:=by simp [idsL]
  have hR:=fun (K:yKM) t O=>@h2 m d out (by omega) K t O
  have hord:ordB p=(ascL (idsL p false)&&(ascL (idsL p true)&&ascL p.fs.l)):=rfl
  have hval:refE p=bif !ordB p then 10 else ref2 p:=by simp only [refE,hlim,cond_false]
  rw [hval,hord]
  rw [show i23.body=.seq (i23.body.sub [0]) (.seq (i23.body.sub [1,0]) (.seq (i23.body.sub [1,1,0]) (i23.body.sub [1,1,1]))) from rfl]
  generalize i23.body.sub [1,1,1]=B at hR ⊢
  have n0:=fun (h:idsL p false=[]) ownV own (hid:own[2]?=some .free)=>zas hS p (by omega) (by omega) false h (m:=m) (d:=d) (id:=2) (out:=out) (ownV:=ownV) (own:=own) (by omega) hid
  have n1:=fun (h:idsL p true=[]) ownV own (hid:own[4]?=some .free)=>zas hS p (by omega) (by omega) true h (m:=m) (d:=d) (id:=4) (out:=out) (ownV:=ownV) (own:=own) (by omega) hid
  have o0:=fun (h:idsL p false≠[]) ownV own (hid:own[2]?=some .free)=>zat hS p (by omega) (by omega) false h (m:=m) (d:=d) (id:=2) (out:=out) (ownV:=ownV) (own:=own) (by omega) hid
  have o1:=fun (h:idsL p true≠[]) ownV own (hid:own[4]?=some .free)=>zat hS p (by omega) (by omega) true h (m:=m) (d:=d) (id:=4) (out:=out) (ownV:=ownV) (own:=own) (by omega) hid
  generalize idsL p false=A at *
  generalize idsL p true=Q at *
  have f0:∀ dd out ownV own i,callN Ftab S m dd out ownV own i 59 [p.fs.v]=some (.r,.bool (ascL p.fs.l),own):=fun dd out ownV own i=>ar_asc hS p.fs m (by omega) dd out ownV own i
  have az:∀ dd out ownV own i,callN Ftab S m dd out ownV own i 59 [.nilsl]=some (.r,.bool true,own):=fun dd out ownV own i=>asc_nil hS (by omega)
  have aA:∀ ownV own i,ownV[2]?=some (.cells (A.flatMap intc))->callN Ftab S m d out ownV own i 59 [.slM d 2 0 A.length A.length 1 false]=some (.r,.bool (ascL A),own):=fun ownV own i h=>asc_own hS (by omega) (by omega) h
  have aQ:∀ ownV own i,ownV[4]?=some (.cells (Q.flatMap intc))->callN Ftab S m d out ownV own i 59 [.slM d 4 0 Q.length Q.length 1 false]=some (.r,.bool (ascL Q),own):=fun ownV own i h=>asc_own hS (by omega) (by omega) h
  simp only [Pn.c] at n0 n1 o0 o1 hR
  by_cases hA:A=[]
  ·skip
   by_cases hQ:Q=[]
   ·skip
    have c1:∀ ownV,callN Ftab S m d out ownV [.cells [p.ns.v,p.as.v,p.fs.v],.free,.free,.free,.free,.free,.free] 2 60 [.agg [p.ns.v,p.as.v,p.fs.v],.bool false]=some (.r,.nilsl,[.cells [p.ns.v,p.as.v,p.fs.v],.free,.free,.free,.free,.free,.free]):=fun ownV=>n0 hA ownV _ rfl
    have a1:ascL A=true:=by rw [hA]; rfl
    have c2:∀ ownV,callN Ftab S m d out ownV [.cells [p.ns.v,p.as.v,p.fs.v],.free,.free,.free,.free,.free,.free] 4 60 [.agg [p.ns.v,p.as.v,p.fs.v],.bool true]=some (.r,.nilsl,[.cells [p.ns.v,p.as.v,p.fs.v],.free,.free,.free,.free,.free,.free]):=fun ownV=>n1 hQ ownV _ rfl
    have a2:ascL Q=true:=by rw [hQ]; rfl
    cases hx:ascL p.fs.l
    ·skip
     simp only [i23,IC.sub,V0,sevalprocAttr,hfr,c0,c1,c2,a1,a2,az,f0,hx,zcg,zcn,zc4,zci,zch,cond_true,cond_false]
    ·skip
     simp only [i23,IC.sub,V0,sevalprocAttr,hfr,c0,c1,c2,a1,a2,az,f0,hx,zcg,zcn,zc4,zci,zch,cond_true,cond_false]
     refine hR _ _ _ (by simp only [V0,sevalprocAttr,hfr]) fun t' O' ht=>?_
     simp only [ze,zg] at ht
     simp only [V0,sevalprocAttr,ht]
   ·skip
    have c1:∀ ownV,callN Ftab S m d out ownV [.cells [p.ns.v,p.as.v,p.fs.v],.free,.free,.free,.free,.free,.free] 2 60 [.agg [p.ns.v,p.as.v,p.fs.v],.bool false]=some (.r,.nilsl,[.cells [p.ns.v,p.as.v,p.fs.v],.free,.free,.free,.free,.free,.free]):=fun ownV=>n0 hA ownV _ rfl
    have a1:ascL A=true:=by rw [hA]; rfl
    have c2:∀ ownV,callN Ftab S m d out ownV [.cells [p.ns.v,p.as.v,p.fs.v],.free,.free,.free,.free,.free,.free] 4 60 [.agg [p.ns.v,p.as.v,p.fs.v],.bool true]=some (.a,.slM d 4 0 Q.length Q.length 1 false,[.cells [p.ns.v,p.as.v,p.fs.v],.free,.free,.free,.cells (Q.flatMap intc),.free,.free]):=fun ownV=>o1 hQ ownV _ rfl
    have a2:∀ own i,callN Ftab S m d out [.cells [p.ns.v,p.as.v,p.fs.v],.free,.free,.free,.cells (Q.flatMap intc),.free,.free] own i 59 [.slM d 4 0 Q.length Q.length 1 false]=some (.r,.bool (ascL Q),own):=fun own i=>aQ _ own i rfl
    cases hw:ascL Q
    ·skip
     simp only [i23,IC.sub,V0,sevalprocAttr,hfr,c0,c1,c2,a1,a2,az,f0,hw,zcg,zcn,zc4,zci,zch,cond_true,cond_false]
    ·skip
     cases hx:ascL p.fs.l
     ·skip
      simp only [i23,IC.sub,V0,sevalprocAttr,hfr,c0,c1,c2,a1,a2,az,f0,hw,hx,zcg,zcn,zc4,zci,zch,cond_true,cond_false]
     ·skip
      simp only [i23,IC.sub,V0,sevalprocAttr,hfr,c0,c1,c2,a1,a2,az,f0,hw,hx,zcg,zcn,zc4,zci,zch,cond_true,cond_false]
      refine hR _ _ _ (by simp only [V0,sevalprocAttr,hfr]) fun t' O' ht=>?_
      simp only [ze,zg] at ht
      simp only [V0,sevalprocAttr,ht]
  ·skip
   by_cases hQ:Q=[]
   ·skip
    have c1:∀ ownV,callN Ftab S m d out ownV [.cells [p.ns.v,p.as.v,p.fs.v],.free,.free,.free,.free,.free,.free] 2 60 [.agg [p.ns.v,p.as.v,p.fs.v],.bool false]=some (.a,.slM d 2 0 A.length A.length 1 false,[.cells [p.ns.v,p.as.v,p.fs.v],.free,.cells (A.flatMap intc),.free,.free,.free,.free]):=fun ownV=>o0 hA ownV _ rfl
    have a1:∀ own i,callN Ftab S m d out [.cells [p.ns.v,p.as.v,p.fs.v],.free,.cells (A.flatMap intc),.free,.free,.free,.free] own i 59 [.slM d 2 0 A.length A.length 1 false]=some (.r,.bool (ascL A),own):=fun own i=>aA _ own i rfl
    have c2:∀ ownV,callN Ftab S m d out ownV [.cells [p.ns.v,p.as.v,p.fs.v],.free,.cells (A.flatMap intc),.free,.free,.free,.free] 4 60 [.agg [p.ns.v,p.as.v,p.fs.v],.bool true]=some (.r,.nilsl,[.cells [p.ns.v,p.as.v,p.fs.v],.free,.cells (A.flatMap intc),.free,.free,.free,.free]):=fun ownV=>n1 hQ ownV _ rfl
    have a2:ascL Q=true:=by rw [hQ]; rfl
    cases hu:ascL A
    ·skip
     simp only [i23,IC.sub,V0,sevalprocAttr,hfr,c0,c1,c2,a1,a2,az,f0,hu,zcg,zcn,zc4,zci,zch,cond_true,cond_false]
    ·skip
     cases hx:ascL p.fs.l
     ·skip
      simp only [i23,IC.sub,V0,sevalprocAttr,hfr,c0,c1,c2,a1,a2,az,f0,hu,hx,zcg,zcn,zc4,zci,zch,cond_true,cond_false]
     ·skip
      simp only [i23,IC.sub,V0,sevalprocAttr,hfr,c0,c1,c2,a1,a2,az,f0,hu,hx,zcg,zcn,zc4,zci,zch,cond_true,cond_false]
      refine hR _ _ _ (by simp only [V0,sevalprocAttr,hfr]) fun t' O' ht=>?_
      simp only [ze,zg] at ht
      simp only [V0,sevalprocAttr,ht]
   ·skip
    have c1:∀ ownV,callN Ftab S m d out ownV [.cells [p.ns.v,p.as.v,p.fs.v],.free,.free,.free,.free,.free,.free] 2 60 [.agg [p.ns.v,p.as.v,p.fs.v],.bool false]=some (.a,.slM d 2 0 A.length A.length 1 false,[.cells [p.ns.v,p.as.v,p.fs.v],.free,.cells (A.flatMap intc),.free,.free,.free,.free]):=fun ownV=>o0 hA ownV _ rfl
    have a1:∀ own i,callN Ftab S m d out [.cells [p.ns.v,p.as.v,p.fs.v],.free,.cells (A.flatMap intc),.free,.free,.free,.free] own i 59 [.slM d 2 0 A.length A.length 1 false]=some (.r,.bool (ascL A),own):=fun own i=>aA _ own i rfl
    have c2:∀ ownV,callN Ftab S m d out ownV [.cells [p.ns.v,p.as.v,p.fs.v],.free,.cells (A.flatMap intc),.free,.free,.free,.free] 4 60 [.agg [p.ns.v,p.as.v,p.fs.v],.bool true]=some (.a,.slM d 4 0 Q.length Q.length 1 false,[.cells [p.ns.v,p.as.v,p.fs.v],.free,.cells (A.flatMap intc),.free,.cells (Q.flatMap intc),.free,.free]):=fun ownV=>o1 hQ ownV _ rfl
    have a2:∀ own i,callN Ftab S m d out [.cells [p.ns.v,p.as.v,p.fs.v],.free,.cells (A.flatMap intc),.free,.cells (Q.flatMap intc),.free,.free] own i 59 [.slM d 4 0 Q.length Q.length 1 false]=some (.r,.bool (ascL Q),own):=fun own i=>aQ _ own i rfl
    cases hu:ascL A
    ·skip
     simp only [i23,IC.sub,V0,sevalprocAttr,hfr,c0,c1,c2,a1,a2,az,f0,hu,zcg,zcn,zc4,zci,zch,cond_true,cond_false]
    ·skip
     cases hw:ascL Q
     ·skip
      simp only [i23,IC.sub,V0,sevalprocAttr,hfr,c0,c1,c2,a1,a2,az,f0,hu,hw,zcg,zcn,zc4,zci,zch,cond_true,cond_false]
     ·skip
      cases hx:ascL p.fs.l
      ·skip
       simp only [i23,IC.sub,V0,sevalprocAttr,hfr,c0,c1,c2,a1,a2,az,f0,hu,hw,hx,zcg,zcn,zc4,zci,zch,cond_true,cond_false]
      ·skip
       simp only [i23,IC.sub,V0,sevalprocAttr,hfr,c0,c1,c2,a1,a2,az,f0,hu,hw,hx,zcg,zcn,zc4,zci,zch,cond_true,cond_false]
       refine hR _ _ _ (by simp only [V0,sevalprocAttr,hfr]) fun t' O' ht=>?_
       simp only [ze,zg] at ht
       simp only [V0,sevalprocAttr,ht]
end
end
section
theorem Y4 {u v B:Int} (h1:-B<=u) (h2:u<=B) (h3:-B<=v) (h4:v<=B):-(B*B)<=u*v/\u*v<=B*B:=by
 have a1:=Int.mul_nonneg (show 0<=B - u by omega) (show 0<=B+v by omega)
 have a2:=Int.mul_nonneg (show 0<=B+u by omega) (show 0<=B - v by omega)
 have a3:=Int.mul_nonneg (show 0<=B - u by omega) (show 0<=B - v by omega)
 have a4:=Int.mul_nonneg (show 0<=B+u by omega) (show 0<=B+v by omega)
 constructor <;> grind
theorem y2 (x y:Int):x<y∨y<=x:=by omega
theorem ya {x:Int} (h1:-9223372036854775808<=x) (h2:x<9223372036854775808):wrapI .i64 x=x:=by
 rw [zt]
 exact IntWalk.i64_in _ (by constructor <;> omega)
theorem YN {p:Pt}:nearP p=true↔(-2097152<=p.x/\p.x<=2097152)/\(-2097152<=p.y/\p.y<=2097152):=by
 simp only [nearP,Bool.not_eq_true',zd6,decide_eq_false_iff_not,Int.not_lt]
 omega
def cr (a b c d:Pt):Int:=(b.x - a.x)*(d.y - c.y) - (b.y - a.y)*(d.x - c.x)
def dot (a b c d:Pt):Int:=(b.x - a.x)*(d.x - c.x)+(b.y - a.y)*(d.y - c.y)
section
variable {a b c d p:Pt}
theorem zQ (ha:nearP a=true) (hb:nearP b=true) (hc:nearP c=true) (hd:nearP d=true):crR a b c d=cr a b c d:=by
 rw [YN] at ha hb hc hd
 unfold crR cr
 rw [ya (x:=b.x - a.x) (by omega) (by omega),ya (x:=d.y - c.y) (by omega) (by omega),ya (x:=b.y - a.y) (by omega) (by omega),ya (x:=d.x - c.x) (by omega) (by omega)]
 have h1:=Y4 (B:=4194304) (u:=b.x - a.x) (v:=d.y - c.y) (by omega) (by omega) (by omega) (by omega)
 have h2:=Y4 (B:=4194304) (u:=b.y - a.y) (v:=d.x - c.x) (by omega) (by omega) (by omega) (by omega)
 generalize (b.x - a.x)*(d.y - c.y)=s at *
 generalize (b.y - a.y)*(d.x - c.x)=t at *
 rw [ya (x:=s) (by omega) (by omega),ya (x:=t) (by omega) (by omega),ya (by omega) (by omega)]
theorem YO (ha:nearP a=true) (hb:nearP b=true) (hc:nearP c=true) (hd:nearP d=true):-35184372088832<=cr a b c d/\cr a b c d<=35184372088832:=by
 rw [YN] at ha hb hc hd
 unfold cr
 have h1:=Y4 (B:=4194304) (u:=b.x - a.x) (v:=d.y - c.y) (by omega) (by omega) (by omega) (by omega)
 have h2:=Y4 (B:=4194304) (u:=b.y - a.y) (v:=d.x - c.x) (by omega) (by omega) (by omega) (by omega)
 generalize (b.x - a.x)*(d.y - c.y)=s at *
 generalize (b.y - a.y)*(d.x - c.x)=t at *
 omega
theorem dotR_eq (ha:nearP a=true) (hb:nearP b=true) (hc:nearP c=true) (hd:nearP d=true):dotR a b c d=dot a b c d:=by
 rw [YN] at ha hb hc hd
 unfold dotR dot
 rw [ya (x:=b.x - a.x) (by omega) (by omega),ya (x:=d.x - c.x) (by omega) (by omega),ya (x:=b.y - a.y) (by omega) (by omega),ya (x:=d.y - c.y) (by omega) (by omega)]
 have h1:=Y4 (B:=4194304) (u:=b.x - a.x) (v:=d.x - c.x) (by omega) (by omega) (by omega) (by omega)
 have h2:=Y4 (B:=4194304) (u:=b.y - a.y) (v:=d.y - c.y) (by omega) (by omega) (by omega) (by omega)
 generalize (b.x - a.x)*(d.x - c.x)=s at *
 generalize (b.y - a.y)*(d.y - c.y)=t at *
 rw [ya (x:=s) (by omega) (by omega),ya (x:=t) (by omega) (by omega),ya (by omega) (by omega)]
theorem twI_eq (ha:nearP a=true) (hb:nearP b=true) (hc:nearP c=true):twI a b c=cr a b a c:=by
 rw [← zQ ha hb ha hc]
 rfl
theorem ptE_iff:ptE a b=true↔a=b:=by
 cases a
 cases b
 simp [ptE]
theorem mn_le {u v z:Int}:mnI u v<=z↔u<=z∨v<=z:=by
 unfold mnI
 split <;> omega
theorem le_mx {u v z:Int}:z<=mxI u v↔z<=u∨z<=v:=by
 unfold mxI
 split <;> omega
theorem betw {u v z:Int}:(u<=z∨v<=z)/\(z<=u∨z<=v)↔(z - u)*(z - v)<=0:=by
 constructor
 ·rintro ⟨h1,h2⟩
  rcases Int.le_total u z with h | h <;> rcases Int.le_total v z with g | g
  ·rcases h2 with h2 | h2
   ·rw [show z - u=0 by omega,Int.zero_mul]; omega
   ·rw [show z - v=0 by omega,Int.mul_zero]; omega
  ·exact Int.mul_nonpos_of_nonneg_of_nonpos (by omega) (by omega)
  ·exact Int.mul_nonpos_of_nonpos_of_nonneg (by omega) (by omega)
  ·rcases h1 with h1 | h1
   ·rw [show z - u=0 by omega,Int.zero_mul]; omega
   ·rw [show z - v=0 by omega,Int.mul_zero]; omega
 ·intro h
  constructor
  ·rcases y2 z u with g | g
   ·rcases y2 z v with k | k
    ·have:=Int.mul_pos_of_neg_of_neg (show z - u<0 by omega) (show z - v<0 by omega)
     omega
    ·exact .inr k
   ·exact .inl g
  ·rcases y2 u z with g | g
   ·rcases y2 v z with k | k
    ·have:=Int.mul_pos (show 0<z - u by omega) (show 0<z - v by omega)
     omega
    ·exact .inr k
   ·exact .inl g
theorem on_same (ha:nearP a=true) (hb:nearP b=true) (hp:nearP p=true):onI a b p=onR a b p:=by
 unfold onI onR
 rw [twI_eq ha hb hp,zQ ha hb ha hp,dotR_eq ha hp hb hp]
 have hall:[a,b,p].all nearP=true:=by simp [ha,hb,hp]
 rw [hall,zcn,zcn]
 cases h0:cr a b a p==0
 ·simp
 ·have h0:cr a b a p=0:=by simpa using h0
  rw [zcn,zcn,zdz]
  simp only [zcq,decide_eq_true_eq,mn_le,le_mx]
  have e:dot a p b p=(p.x - a.x)*(p.x - b.x)+(p.y - a.y)*(p.y - b.y):=rfl
  rw [e]
  have hx:=@betw a.x b.x p.x
  have hy:=@betw a.y b.y p.y
  unfold cr at h0
  constructor
  ·rintro ⟨h1,h2,h3,h4⟩
   have:=hx.1 ⟨h1,h2⟩
   have:=hy.1 ⟨h3,h4⟩
   omega
  ·intro h
   generalize hX:p.x - a.x=X at *
   generalize hX2:p.x - b.x=X2 at *
   generalize hY:p.y - a.y=Y at *
   generalize hY2:p.y - b.y=Y2 at *
   have hc:X2*Y=Y2*X:=by
    have e1:b.x - a.x=X - X2:=by omega
    have e2:b.y - a.y=Y - Y2:=by omega
    rw [e1,e2] at h0
    grind
   have sq:(X*X2)*(Y*Y2)=(X2*Y)*(X2*Y):=by
    have:(X*X2)*(Y*Y2)=(X2*Y)*(Y2*X):=by grind
    rw [this,← hc]
   have hsq:0<=(X2*Y)*(X2*Y):=by
    rcases Int.le_total 0 (X2*Y) with h | h
    ·exact Int.mul_nonneg h h
    ·exact Int.mul_nonneg_of_nonpos_of_nonpos h h
   generalize X*X2=s at *
   generalize Y*Y2=w at *
   have hs:s<=0:=by
    rcases y2 0 s with g | g
    ·have:=Int.mul_neg_of_pos_of_neg g (show w<0 by omega)
     omega
    ·exact g
   have hw:w<=0:=by
    rcases y2 0 w with g | g
    ·have:=Int.mul_neg_of_neg_of_pos (show s<0 by omega) g
     omega
    ·exact g
   have a1:=hx.2 hs
   have a2:=hy.2 hw
   exact ⟨a1.1,a1.2,a2.1,a2.2⟩
theorem zau (ha:nearP a=true) (hb:nearP b=true) (hc:nearP c=true):sideI a b c=if 0<cr a b a c then 1 else if cr a b a c<0 then -1 else 0:=by
 have hall:[a,b,c].all nearP=true:=by simp [ha,hb,hc]
 unfold sideI twG
 rw [hall,cond_true,twI_eq ha hb hc]
 split
 ·rw [decide_eq_true ‹_›,cond_true]
 ·rw [decide_eq_false ‹_›,cond_false]
  split
  ·rw [decide_eq_true ‹_›,cond_true]
  ·rw [decide_eq_false ‹_›,cond_false]
def sgn (x:Int):Int:=if 0<x then 1 else if x<0 then -1 else 0
theorem sgn_mul {x y:Int}:wrapI .i64 (sgn x*sgn y)<=0↔(x<=0/\0<=y)∨(0<=x/\y<=0):=by
 have hb:-1<=sgn x*sgn y/\sgn x*sgn y<=1:=by
  unfold sgn
  split <;> split <;> (try split) <;> (try split) <;> omega
 rw [ya (by omega) (by omega)]
 unfold sgn
 split <;> split <;> (try split) <;> (try split) <;> omega
theorem meet_same (ha:nearP a=true) (hb:nearP b=true) (hc:nearP c=true) (hd:nearP d=true) (hab:ptE a b=false) (hcd:ptE c d=false):meetI a b c d=meetR a b c d:=by
 have hall:[a,b,c,d].all nearP=true:=by simp [ha,hb,hc,hd]
 unfold meetI meetR meetQ
 rw [hall,cond_true,cond_true,hab,cond_false,hcd,cond_false,zcg,cond_false]
 simp only [zQ ha hb hc hd,zQ ha hb ha hc,zQ ha hb ha hd,zQ hc hd hc ha,zQ hc hd hc hb,zQ ha hc hc hd,zQ ha hc ha hb]
 have e1:sideI a b c=sgn (cr a b a c):=zau ha hb hc
 have e2:sideI a b d=sgn (cr a b a d):=zau ha hb hd
 have e3:sideI c d a=sgn (cr c d c a):=zau hc hd ha
 have e4:sideI c d b=sgn (cr c d c b):=zau hc hd hb
 rw [e1,e2,e3,e4]
 have n1:cr a b a d=cr a b a c+cr a b c d:=by unfold cr; grind
 have n2:cr c d c b=cr c d c a - cr a b c d:=by unfold cr; grind
 have n3:cr a c c d=cr c d c a:=by unfold cr; grind
 have n4:cr a c a b=- cr a b a c:=by unfold cr; grind
 have z1:=YO ha hb hc hd
 have z2:=YO ha hb ha hc
 have z3:=YO hc hd hc ha
 have hs0:∀ x:Int,(sgn x==0)=(x==0):=fun x=>by
  unfold sgn
  split
  ·simp; omega
  ·split
   ·simp; omega
   ·have:x=0:=by omega
    subst this
    rfl
 have hcol:cr a b c d=0->cr a b a c=0->cr c d c a=0:=fun h1 h2=>by
  have hne:¬ (b.x - a.x=0/\b.y - a.y=0):=by
   intro h
   have:a=b:=by
    cases a; cases b
    simp only [Pt.mk.injEq] at *
    constructor <;> omega
   rw [ptE_iff.2 this] at hab
   cases hab
  unfold cr at *
  generalize b.x - a.x=e at *
  generalize b.y - a.y=f at *
  have k1:e*((d.x - c.x)*(a.y - c.y) - (d.y - c.y)*(a.x - c.x))=0:=by grind
  have k2:f*((d.x - c.x)*(a.y - c.y) - (d.y - c.y)*(a.x - c.x))=0:=by grind
  rcases Int.mul_eq_zero.1 k1 with h | h
  ·rcases Int.mul_eq_zero.1 k2 with g | g
   ·exact absurd ⟨h,g⟩ hne
   ·exact g
  ·exact h
 rw [hs0,hs0,n3,n4,n2,n1]
 generalize cr a b c d=n at *
 generalize cr a b a c=u at *
 generalize cr c d c a=s at *
 clear e1 e2 e3 e4 n1 n2 n3 n4
 have hsg:∀ x y:Int,decide (wrapI .i64 (sgn x*sgn y)<=0)=decide ((x<=0/\0<=y)∨(0<=x/\y<=0)):=fun x y=>decide_eq_decide.2 sgn_mul
 rw [hsg,hsg]
 by_cases h0:n=0
 ·subst h0
  rw [show ((0:Int)==0)=true from rfl,cond_true]
  by_cases hu:u=0
  ·subst hu
   have:=hcol rfl rfl
   subst this
   simp
  ·rw [show (u==0)=false by simpa using hu,zcg,cond_false]
   have q1:decide ((u<=0/\0<=u+0)∨(0<=u/\u+0<=0))=false:=by
    rw [decide_eq_false_iff_not]
    omega
   have q2:(u != 0)=true:=by simpa using hu
   rw [q1,q2,zcg,zdm,cond_false,cond_true]
 ·rw [show (n==0)=false by simpa using h0,cond_false]
  have q0:((u==0)&&(u+n==0))=false:=by
   cases hz:u==0
   ·rfl
   ·have:u=0:=by simpa using hz
    subst this
    rw [zcn]
    simp
    omega
  rw [q0,cond_false]
  unfold inR
  by_cases hn:n<0
  ·rw [decide_eq_true hn,cond_true,ya (x:=0 - n) (by omega) (by omega),ya (x:=0 - s) (by omega) (by omega),ya (x:=0 - -u) (by omega) (by omega)]
   congr 1
   rw [zdz]
   simp only [zcq,decide_eq_true_eq]
   omega
  ·rw [decide_eq_false hn,cond_false]
   congr 1
   rw [zdz]
   simp only [zcq,decide_eq_true_eq]
   omega
end
end
section
section
variable {a b c d:Pt}
theorem zav {u v:Pt} (h:bfP u v=true):bfP v u=false:=by
 simp only [bfP,zd3,zcq,decide_eq_true_eq,beq_iff_eq] at h
 simp only [bfP,zd6,Bool.and_eq_false_iff,decide_eq_false_iff_not,beq_eq_false_iff_ne]
 omega
theorem bf_eq {u v:Pt} (h:bfP u v=false) (h2:bfP v u=false):u=v:=by
 cases u
 cases v
 simp only [bfP,zd6,Bool.and_eq_false_iff,decide_eq_false_iff_not,beq_eq_false_iff_ne] at h h2
 simp only [Pt.mk.injEq]
 omega
theorem shared_comm:sharedI a b c d=sharedI c d a b:=by
 unfold sharedI
 have e1:(bif bfP (swP a b).1 (swP c d).1 then (swP c d).1 else (swP a b).1)=(bif bfP (swP c d).1 (swP a b).1 then (swP a b).1 else (swP c d).1):=by
  cases h:bfP (swP a b).1 (swP c d).1 <;> cases h2:bfP (swP c d).1 (swP a b).1
  ·exact bf_eq h h2
  ·rfl
  ·rfl
  ·rw [zav h] at h2
   cases h2
 have e2:(bif bfP (swP c d).2 (swP a b).2 then (swP c d).2 else (swP a b).2)=(bif bfP (swP a b).2 (swP c d).2 then (swP a b).2 else (swP c d).2):=by
  cases h:bfP (swP c d).2 (swP a b).2 <;> cases h2:bfP (swP a b).2 (swP c d).2
  ·exact bf_eq h2 h
  ·rfl
  ·rfl
  ·rw [zav h] at h2
   cases h2
 rw [e1,e2]
theorem meet_comm (ha:nearP a=true) (hb:nearP b=true) (hc:nearP c=true) (hd:nearP d=true) (hab:ptE a b=false) (hcd:ptE c d=false):meetR a b c d=meetR c d a b:=by
 have h1:[a,b,c,d].all nearP=true:=by simp [ha,hb,hc,hd]
 have h2:[c,d,a,b].all nearP=true:=by simp [ha,hb,hc,hd]
 unfold meetR meetQ
 rw [h1,h2,cond_true,cond_true,hab,hcd,zcg,cond_false,zcg,cond_false]
 simp only [zQ ha hb hc hd,zQ ha hb ha hc,zQ ha hb ha hd,zQ hc hd hc ha,zQ hc hd hc hb,zQ ha hc hc hd,zQ ha hc ha hb,zQ hc hd ha hb,zQ hc ha ha hb,zQ hc ha hc hd]
 have n1:cr c d a b=- cr a b c d:=by unfold cr; grind
 have n2:cr c a a b=- cr a c a b:=by unfold cr; grind
 have n3:cr c a c d=- cr a c c d:=by unfold cr; grind
 have z1:=YO ha hb hc hd
 have z2:=YO ha hc ha hb
 have z3:=YO ha hc hc hd
 rw [n1,n2,n3,shared_comm]
 generalize cr a b c d=n at *
 generalize cr a c a b=t at *
 generalize cr a c c d=s at *
 have hor:((cr a b a c != 0)||((cr a b a d != 0)||((cr c d c a != 0)||(cr c d c b != 0))))=((cr c d c a != 0)||((cr c d c b != 0)||((cr a b a c != 0)||(cr a b a d != 0)))):=by
  cases (cr a b a c != 0) <;> cases (cr a b a d != 0) <;> cases (cr c d c a != 0) <;> cases (cr c d c b != 0) <;> rfl
 rw [hor]
 have e0:(-n==0)=(n==0):=by
  rw [zdz]
  simp only [beq_iff_eq]
  omega
 rw [e0]
 cases hn0:n==0
 ·have hn0:n≠0:=by simpa using hn0
  rw [cond_false,cond_false]
  rw [ya (x:=0 - n) (by omega) (by omega),ya (x:=0 - t) (by omega) (by omega),ya (x:=0 - s) (by omega) (by omega),ya (x:=0 - -n) (by omega) (by omega),ya (x:=0 - -t) (by omega) (by omega),ya (x:=0 - -s) (by omega) (by omega)]
  unfold inR
  by_cases hn:n<0
  ·rw [decide_eq_true hn,decide_eq_false (show ¬ -n<0 by omega),cond_true,cond_false]
   congr 1
   rw [zdz]
   simp only [zcq,decide_eq_true_eq]
   omega
  ·rw [decide_eq_false hn,decide_eq_true (show -n<0 by omega),cond_true,cond_false]
   congr 1
   rw [zdz]
   simp only [zcq,decide_eq_true_eq]
   omega
 ·rfl
theorem meet_apart (ha:nearP a=true) (hb:nearP b=true) (hc:nearP c=true) (hd:nearP d=true) (hab:ptE a b=false) (hcd:ptE c d=false) (h:mxI a.x b.x<mnI c.x d.x):meetR a b c d=0:=by
 have x1:a.x<=mxI a.x b.x:=le_mx.2 (.inl (Int.le_refl _))
 have x2:b.x<=mxI a.x b.x:=le_mx.2 (.inr (Int.le_refl _))
 have x3:mnI c.x d.x<=c.x:=mn_le.2 (.inl (Int.le_refl _))
 have x4:mnI c.x d.x<=d.x:=mn_le.2 (.inr (Int.le_refl _))
 generalize mxI a.x b.x=M at *
 generalize mnI c.x d.x=m at *
 have h1:[a,b,c,d].all nearP=true:=by simp [ha,hb,hc,hd]
 unfold meetR meetQ
 rw [h1,cond_true,hab,zcg,cond_false]
 simp only [zQ ha hb hc hd,zQ ha hb ha hc,zQ ha hb ha hd,zQ hc hd hc ha,zQ hc hd hc hb,zQ ha hc hc hd,zQ ha hc ha hb]
 have z1:=YO ha hb hc hd
 have z2:=YO ha hc ha hb
 have z3:=YO ha hc hc hd
 have id:cr a b c d*a.x+cr a c c d*(b.x - a.x)=cr a b c d*c.x+cr a c a b*(d.x - c.x):=by unfold cr; grind
 cases hn0:cr a b c d==0
 ·have hn0:cr a b c d≠0:=by simpa using hn0
  rw [cond_false]
  generalize cr a b c d=n at *
  generalize cr a c a b=t at *
  generalize cr a c c d=s at *
  have key:∀ n s t:Int,0<n->0<=s->s<=n->0<=t->t<=n->n*a.x+s*(b.x - a.x)=n*c.x+t*(d.x - c.x)->False:=fun n s t hn hs1 hs2 ht1 ht2 e=>by
   have p1:=Int.mul_nonneg (show 0<=n - s by omega) (show 0<=M - a.x by omega)
   have p2:=Int.mul_nonneg hs1 (show 0<=M - b.x by omega)
   have p3:=Int.mul_nonneg (show 0<=n - t by omega) (show 0<=c.x - m by omega)
   have p4:=Int.mul_nonneg ht1 (show 0<=d.x - m by omega)
   have p5:=Int.mul_pos hn (show 0<m - M by omega)
   grind
  unfold inR
  rw [ya (x:=0 - n) (by omega) (by omega),ya (x:=0 - t) (by omega) (by omega),ya (x:=0 - s) (by omega) (by omega)]
  by_cases hn:n<0
  ·rw [decide_eq_true hn,cond_true]
   have:(decide (0<=0 - s)&&(decide (0 - s<=0 - n)&&(decide (0<=0 - t)&&decide (0 - t<=0 - n))))=false:=by
    rw [← zdy]
    simp only [zcq,decide_eq_true_eq]
    rintro ⟨g1,g2,g3,g4⟩
    refine key (0 - n) (0 - s) (0 - t) (by omega) g1 g2 g3 g4 ?_
    rw [Int.sub_mul,Int.sub_mul,Int.sub_mul,Int.sub_mul]
    omega
   rw [this,cond_false]
  ·rw [decide_eq_false hn,cond_false]
   have:(decide (0<=s)&&(decide (s<=n)&&(decide (0<=t)&&decide (t<=n))))=false:=by
    rw [← zdy]
    simp only [zcq,decide_eq_true_eq]
    rintro ⟨g1,g2,g3,g4⟩
    exact key n s t (by omega) g1 g2 g3 g4 id
   rw [this,cond_false]
 ·rw [cond_true]
  have hsh:sharedI a b c d=0:=by
   unfold sharedI
   have sx:∀ u v:Pt,u.x<=M->v.x<=M->(swP u v).1.x<=M/\(swP u v).2.x<=M:=fun u v h1 h2=>by
    unfold swP
    cases bfP v u
    ·exact ⟨h1,h2⟩
    ·exact ⟨h2,h1⟩
   have sy:∀ u v:Pt,m<=u.x->m<=v.x->m<=(swP u v).1.x/\m<=(swP u v).2.x:=fun u v h1 h2=>by
    unfold swP
    cases bfP v u
    ·exact ⟨h1,h2⟩
    ·exact ⟨h2,h1⟩
   have s1:=sx a b x1 x2
   have s2:=sy c d x3 x4
   generalize swP a b=p at *
   generalize swP c d=q at *
   have e1:bfP p.1 q.1=true:=by simp only [bfP,zd3,decide_eq_true_eq]; left; omega
   have e2:bfP q.2 p.2=false:=zav (by simp only [bfP,zd3,decide_eq_true_eq]; left; omega)
   have e3:ptE q.1 p.2=false:=by simp only [ptE,Bool.and_eq_false_iff,beq_eq_false_iff_ne]; left; omega
   have e4:bfP q.1 p.2=false:=zav (by simp only [bfP,zd3,decide_eq_true_eq]; left; omega)
   simp only [e1,e2,e3,e4,cond_true,cond_false]
  rw [hsh]
  cases (cr a b a c != 0||(cr a b a d != 0||(cr c d c a != 0||cr c d c b != 0))) <;> rfl
end
end
section
theorem YP {α:Type} {f:α->Int}:∀ {l:List α} {x:α},(l.map f).Pairwise (·<·)->x∈l->l.find? (fun y=>f y==f x)=some x
 | y::l,x,h,hx=>by
  rw [zdo,List.pairwise_cons] at h
  rw [List.find?_cons]
  rcases zdn.1 hx with rfl | hx
  ·simp
  ·have hlt:=h.1 (f x) (List.mem_map_of_mem hx)
   rw [show (f y==f x)=false by rw [beq_eq_false_iff_ne]; omega]
   exact YP h.2 hx
theorem asc_uniq {α:Type} {f:α->Int} {l:List α} {x y:α} (h:(l.map f).Pairwise (·<·)) (hx:x∈l) (hy:y∈l) (he:f x=f y):x=y:=by
 have h1:=YP h hx
 have h2:=YP h hy
 rw [he,h2] at h1
 exact (zdj h1).symm
structure Nice (p:Pn):Prop where
 nid:(p.ns.l.map Nd.id).Pairwise (·<·)
 aid:(p.as.l.map Ac.id).Pairwise (·<·)
 npt:∀ x∈p.ns.l,nearP x.at'=true
 vpt:∀ a∈p.as.l,∀ q∈a.via.l,nearP q=true
 fr:∀ a∈p.as.l,(nodeF p a.fr).isSome=true
 too:∀ a∈p.as.l,(nodeF p a.to).isSome=true
theorem zaw {p:Pn} {id:Int} (h:(nodeF p id).isSome=true):nodeD p id∈p.ns.l/\(nodeD p id).id=id:=by
 obtain ⟨x,hx⟩:=Option.isSome_iff_exists.1 h
 have:nodeD p id=x:=by unfold nodeD; rw [hx]; rfl
 rw [this]
 have h2:=List.find?_some hx
 exact ⟨List.mem_of_find?_eq_some hx,by simpa using h2⟩
theorem Nice.last {p:Pn} (h:Nice p) {x:Nd} (hx:x∈p.ns.l):lastP p.ns.l x.id=x.at':=by
 unfold lastP
 cases hf:p.ns.l.reverse.find? fun y=>x.id==y.id with
 | none =>
  have:=List.find?_eq_none.1 hf x (by simpa using hx)
  simp at this
 | some y =>
  have h1:y∈p.ns.l:=by simpa using List.mem_of_find?_eq_some hf
  have h2:=List.find?_some hf
  have:x=y:=asc_uniq h.nid hx h1 (by simpa using h2)
  rw [this]
  rfl
theorem Nice.path {p:Pn} (h:Nice p) {a:Ac} (ha:a∈p.as.l):pathOk p a.id=true/\pathL p a.id=lineR p a:=by
 have h1:arcF p a.id=some a:=YP h.aid ha
 have h2:arcD p a.id=a:=by unfold arcD; rw [h1]; rfl
 constructor
 ·unfold pathOk
  rw [h2,h1,h.fr a ha,h.too a ha]
  rfl
 ·unfold pathL lineR
  rw [h2]
def spsN (p:Pn):List Sp:=p.as.l.flatMap fun a=>spsOf a (lineR p a)
theorem ZE {α β:Type} {f g:α->List β}:∀ {l:List α},(∀ x∈l,f x=g x)->l.flatMap f=l.flatMap g
 | [],_=>rfl
 | x::l,h=>by
  rw [zdc,zdc,h x (zeb ..),ZE fun y hy=>h y (List.mem_cons_of_mem _ hy)]
theorem Nice.sps {p:Pn} (h:Nice p):spsL p=spsN p:=ZE fun a ha=>by rw [(h.path ha).2]
theorem rgs_sps (p:Pn):(rgsL p).map Rg.sp=spsN p:=by
 unfold rgsL spsN
 rw [List.map_flatMap]
 refine ZE fun a _=>?_
 unfold rgsOf spsOf
 rw [List.map_map]
 rfl
theorem line_near {p:Pn} (h:Nice p) {a:Ac} (ha:a∈p.as.l):∀ q∈lineR p a,nearP q=true:=fun q hq=>by
 unfold lineR at hq
 rcases zdn.1 hq with rfl | hq
 ·exact h.npt _ (zaw (h.fr a ha)).1
 ·rcases List.mem_append.1 hq with hq | hq
  ·exact h.vpt a ha q hq
  ·rw [List.mem_singleton] at hq
   subst hq
   exact h.npt _ (zaw (h.too a ha)).1
theorem line_two {p:Pn} {a:Ac}:2<=(lineR p a).length:=by simp [lineR]
theorem sp_of {p:Pn} {t:Sp} (ht:t∈spsN p):∃ a∈p.as.l,∃ k,k<(lineR p a).length - 1/\t=⟨a.id,a.fr,a.to,k,(lineR p a).length - 1,(lineR p a).getD k zPt,(lineR p a).getD (k+1) zPt⟩:=by
 obtain ⟨a,ha,h⟩:=List.mem_flatMap.1 ht
 obtain ⟨k,hk,rfl⟩:=List.mem_map.1 h
 exact ⟨a,ha,k,List.mem_range.1 hk,rfl⟩
theorem sp_in {p:Pn} {a:Ac} (ha:a∈p.as.l) {k:Nat} (hk:k<(lineR p a).length - 1):(⟨a.id,a.fr,a.to,k,(lineR p a).length - 1,(lineR p a).getD k zPt,(lineR p a).getD (k+1) zPt⟩:Sp)∈spsN p :=
 List.mem_flatMap.2 ⟨a,ha,List.mem_map.2 ⟨k,List.mem_range.2 hk,rfl⟩⟩
theorem getD_mem {l:List Pt} {k:Nat} (hk:k<l.length):l.getD k zPt∈l:=by
 rw [zc0,zce hk]
 exact zdr hk
structure GoodS (s:Sp):Prop where
 a:nearP s.A=true
 b:nearP s.B=true
 ne:ptE s.A s.B=false
noncomputable def pairS (ns:List Nd) (s u:Sp):Bool:=bif s.id==u.id then (bif decide (u.k<s.k) then apartB u s else apartB s u) else joinedB ns s u
def RelS (ns:List Nd) (s u:Sp):Prop:=GoodS s->GoodS u->(s.id=u.id->s.k≠u.k)->pairS ns s u=true
theorem mr_comm {s u:Sp} (h1:GoodS s) (h2:GoodS u):s.meetR u=u.meetR s:=meet_comm h1.a h1.b h2.a h2.b h1.ne h2.ne
theorem YQ {α:Type} {f g:α->Bool}:∀ {l:List α},(∀ x∈l,f x=g x)->l.any f=l.any g
 | [],_=>rfl
 | x::l,h=>by rw [List.any_cons,List.any_cons,h x (zeb ..),YQ fun y hy=>h y (List.mem_cons_of_mem _ hy)]
theorem joined_comm {ns:List Nd} {s u:Sp} (h1:GoodS s) (h2:GoodS u):joinedB ns s u=joinedB ns u s:=by
 unfold joinedB
 rw [mr_comm h1 h2]
 have:ns.any (joinNd s u)=ns.any (joinNd u s):=YQ fun x _=>by
  unfold joinNd
  cases endS s x.id <;> cases endS u x.id <;> cases onR s.A s.B x.at' <;> cases onR u.A u.B x.at' <;> rfl
 rw [this]
theorem rel_symm {ns:List Nd} {s u:Sp} (h:RelS ns s u):RelS ns u s:=fun h1 h2 h3=>by
 have h4:=h h2 h1 fun he=>Ne.symm (h3 he.symm)
 unfold pairS at h4 ⊢
 cases hid:s.id==u.id
 ·rw [hid,cond_false] at h4
  rw [show (u.id==s.id)=false by rw [beq_eq_false_iff_ne] at hid ⊢; exact Ne.symm hid,cond_false,joined_comm h1 h2]
  exact h4
 ·rw [hid,cond_true] at h4
  have he:s.id=u.id:=by simpa using hid
  rw [show (u.id==s.id)=true by rw [he]; simp,cond_true]
  have hk:=h3 he.symm
  by_cases hlt:u.k<s.k
  ·rw [decide_eq_true hlt,cond_true] at h4
   rw [decide_eq_false (show ¬ s.k<u.k by omega),cond_false]
   exact h4
  ·rw [decide_eq_false hlt,cond_false] at h4
   rw [decide_eq_true (show s.k<u.k by omega),cond_true]
   exact h4
theorem zb4 (s u:Sg) (c:Int):sameRes c s u=bif (u.k:Int)==((s.k+1:Nat):Int) then c==1 else bif (s.k:Int)==0&&((u.k:Int)==((u.sp.n - 1:Nat):Int)&&s.a.fr==s.a.to) then c==1 else c==0:=by
 unfold sameRes
 have e1:(((s.k+1:Nat):Int)==(u.k:Int))=((u.k:Int)==((s.k+1:Nat):Int)):=by
  rw [zdz]
  simp only [beq_iff_eq]
  exact eq_comm
 have e2:u.path.l.length - 2=u.sp.n - 1:=by show _=u.path.l.length - 1 - 1; omega
 rw [e1,e2]
 cases (u.k:Int)==((s.k+1:Nat):Int) <;> cases s.a.fr==s.a.to <;> cases (s.k:Int)==0 <;> cases (u.k:Int)==((u.sp.n - 1:Nat):Int) <;> rfl
theorem comp_pair {p:Pn} (hN:Nice p) {L:List (Int × Pt)} (hL:∀ id,lkP L id=lastP p.ns.l id) {s u:Sg} (h1:GoodS s.sp) (h2:GoodS u.sp) (hf:(nodeF p s.a.fr).isSome=true) (ht:(nodeF p s.a.to).isSome=true):compB L s u=pairS p.ns.l s.sp u.sp:=by
 have hm:s.meet u=s.sp.meetR u.sp:=meet_same h1.a h1.b h2.a h2.b h1.ne h2.ne
 unfold compB pairS
 rw [hm]
 show (bif s.a.id==u.a.id then _ else _)=bif s.a.id==u.a.id then _ else _
 cases hid:s.a.id==u.a.id
 ·rw [cond_false,cond_false]
  unfold joinedB
  cases h1c:s.sp.meetR u.sp==1
  ·rfl
  ·rw [cond_true,cond_true]
   have on1:∀ x∈p.ns.l,onI s.p0 s.p1 x.at'=onR s.sp.A s.sp.B x.at':=fun x hx=>on_same h1.a h1.b (hN.npt x hx)
   have on2:∀ x∈p.ns.l,onI u.p0 u.p1 x.at'=onR u.sp.A u.sp.B x.at':=fun x hx=>on_same h2.a h2.b (hN.npt x hx)
   have hat:∀ x∈p.ns.l,atNode L s u x.id=(endS u.sp x.id&&(onR s.sp.A s.sp.B x.at'&&onR u.sp.A u.sp.B x.at')):=fun x hx=>by
    unfold atNode endS
    rw [hL,hN.last hx,on1 x hx,on2 x hx]
    have e:∀ y:Int,(x.id==y)=(y==x.id):=fun y=>by
     rw [zdz]
     simp only [beq_iff_eq]
     exact eq_comm
    rw [e,e]
    rfl
   rw [zdz]
   constructor
   ·intro h
    rcases zd3 _ _ ▸ h with h | h
    ·obtain ⟨m1,m2⟩:=zaw hf
     rw [← m2,hat _ m1] at h
     refine List.any_eq_true.2 ⟨_,m1,?_⟩
     unfold joinNd
     rw [h,Bool.and_true]
     show (s.a.fr==_||_)=true
     rw [m2]
     simp
    ·obtain ⟨m1,m2⟩:=zaw ht
     rw [← m2,hat _ m1] at h
     refine List.any_eq_true.2 ⟨_,m1,?_⟩
     unfold joinNd
     rw [h,Bool.and_true]
     show (_||s.a.to==_)=true
     rw [m2]
     simp
   ·intro h
    obtain ⟨x,hx,h⟩:=List.any_eq_true.1 h
    unfold joinNd at h
    rw [zcq] at h
    rw [← hat x hx] at h
    have he:(s.a.fr==x.id||s.a.to==x.id)=true:=h.1
    rw [zd3,beq_iff_eq,beq_iff_eq] at he
    rw [zd3]
    rcases he with he | he
    ·left
     rw [he]
     exact h.2
    ·right
     rw [he]
     exact h.2
 ·rw [cond_true,cond_true]
  show (bif decide (u.k<s.k) then _ else _)=bif decide (u.k<s.k) then _ else _
  cases decide (u.k<s.k)
  ·rw [cond_false,cond_false,zb4]
   rfl
  ·rw [cond_true,cond_true,zb4]
   unfold apartB
   rw [mr_comm h2 h1]
   rfl
end
section
theorem Za {α:Type} {R:α->α->Prop} {l:List α}:l.Pairwise R↔∀ (i j:Nat) (x y:α),i<j->l[i]?=some x->l[j]?=some y->R x y:=by
 rw [List.pairwise_iff_getElem]
 constructor
 ·intro h i j x y hij hx hy
  obtain ⟨h1,rfl⟩:=zcf.1 hx
  obtain ⟨h2,rfl⟩:=zcf.1 hy
  exact h i j h1 h2 hij
 ·intro h i j h1 h2 hij
  exact h i j _ _ hij (zce h1) (zce h2)
theorem Z7 {ns:List Nd} {l:List Rg}:planR ns l=true↔(∀ t∈l.map Rg.sp,aloneB ns t=true)/\(l.map Rg.sp).Pairwise fun s t=>pairR ns s t=true:=by
 unfold planR
 rw [Bool.not_eq_true',zd9]
 constructor
 ·intro h
  have hz:∀ (i:Nat) (t:Rg),l[i]?=some t->aloneB ns t.sp=true/\∀ (k:Nat) (s:Rg),k<i->l[k]?=some s->pairR ns s.sp t.sp=true:=fun i t hi=>by
   have h1:=h (t,i) (List.mem_zipIdx_iff_getElem?.2 hi)
   simp only [zdy,zd6,Bool.not_eq_false'] at h1
   refine ⟨h1.1,fun k s hk hs=>?_⟩
   have h2:=zd9.1 h1.2 s (zdq (i:=k) (by rw [zdt,if_pos hk]; exact hs))
   simpa using h2
  refine ⟨fun t ht=>?_,?_⟩
  ·obtain ⟨s,hs,rfl⟩:=List.mem_map.1 ht
   obtain ⟨i,hi⟩:=List.getElem?_of_mem hs
   exact (hz i s hi).1
  ·rw [List.pairwise_map]
   exact Za.2 fun i j x y hij hx hy=>(hz j y hy).2 i x hij hx
 ·rintro ⟨h1,h2⟩ ⟨t,i⟩ hti
  have hi:l[i]?=some t:=List.mem_zipIdx_iff_getElem?.1 hti
  simp only [zdy,zd6,Bool.not_eq_false']
  refine ⟨h1 _ (List.mem_map_of_mem (zdq hi)),?_⟩
  rw [zd9]
  intro s hs
  obtain ⟨k,hk⟩:=List.getElem?_of_mem hs
  rw [zdt] at hk
  split at hk
  ·rw [List.pairwise_map] at h2
   rw [Za.1 h2 k i s t ‹_› hk hi]
   simp
  ·cases hk
theorem sps_order {p:Pn} (h:Nice p):(spsN p).Pairwise fun s t=>s.id=t.id->s.k<t.k:=by
 unfold spsN
 rw [List.pairwise_flatMap]
 constructor
 ·intro a _
  unfold spsOf
  rw [List.pairwise_map]
  refine List.pairwise_lt_range.imp ?_
  intro x y hxy _
  exact hxy
 ·have h2:=h.aid
  rw [List.pairwise_map] at h2
  refine h2.imp fun {a b} hab x hx y hy he=>?_
  obtain ⟨k,_,rfl⟩:=List.mem_map.1 hx
  obtain ⟨k',_,rfl⟩:=List.mem_map.1 hy
  dsimp only at he
  omega
theorem zb5 {ns:List Nd} {s t:Sp} (h:s.id=t.id->s.k<t.k):pairR ns s t=pairS ns s t:=by
 unfold pairR pairS
 cases hid:s.id==t.id
 ·rfl
 ·have he:s.id=t.id:=by simpa using hid
  have:=h he
  rw [cond_true,cond_true,decide_eq_false (show ¬ t.k<s.k by omega),cond_false]
theorem good_all {p:Pn} (h:Nice p) (hb:p.as.l.any (badA p)=false) {t:Sp} (ht:t∈spsN p):GoodS t/\(t.fr != t.to||decide ((3:Int)<=(t.n:Int)))=true:=by
 obtain ⟨a,ha,k,hk,rfl⟩:=sp_of ht
 have hba:badA p a=false:=by
  have:=zd9.1 hb a ha
  simpa using this
 unfold badA at hba
 rw [(h.path ha).1,(h.path ha).2] at hba
 simp only [zci,zdi,zd6] at hba
 obtain ⟨hb1,hb2⟩:=hba
 have hn:=line_near h ha
 refine ⟨⟨hn _ (getD_mem (by omega)),hn _ (getD_mem (by omega)),?_⟩,?_⟩
 ·unfold anyEq at hb2
  have:=zd9.1 hb2 k (List.mem_range.2 hk)
  simpa using this
 ·cases hft:a.fr==a.to
  ·simp [bne,hft]
  ·rw [hft,zcn,decide_eq_false_iff_not] at hb1
   rw [zd3,decide_eq_true_eq]
   right
   show (3:Int)<=(((lineR p a).length - 1:Nat):Int)
   omega
theorem bad_none {p:Pn} (h:Nice p) (hb:p.as.l.any (badA p)=true):∃ t∈spsN p,aloneB p.ns.l t=false:=by
 obtain ⟨a,ha,hba⟩:=List.any_eq_true.1 hb
 unfold badA at hba
 rw [(h.path ha).1,(h.path ha).2] at hba
 simp only [zci,zdi,zd3] at hba
 rcases hba with hb1 | hb2
 ·rw [zcq,decide_eq_true_eq] at hb1
  have h2:=@line_two p a
  refine ⟨_,sp_in ha (k:=0) (by omega),?_⟩
  unfold aloneB
  have e1:(a.fr != a.to)=false:=by simp [bne,hb1.1]
  have e2:decide ((3:Int)<=(((lineR p a).length - 1:Nat):Int))=false:=by
   rw [decide_eq_false_iff_not]
   omega
  dsimp only
  rw [e1,e2,Bool.or_self,zc4,zc4]
 ·unfold anyEq at hb2
  obtain ⟨k,hk,he⟩:=List.any_eq_true.1 hb2
  refine ⟨_,sp_in ha (List.mem_range.1 hk),?_⟩
  unfold aloneB
  dsimp only
  rw [he,zci,zcg,zc4]
theorem nd_same {p:Pn} (hN:Nice p) {t:Sp} (h:GoodS t) {x:Nd} (hx:x∈p.ns.l):ndBad t x=aloneNd t x:=by
 unfold ndBad aloneNd isEnd
 rw [on_same h.a h.b (hN.npt x hx),Bool.not_or,Bool.and_comm]
theorem alone_iff {p:Pn} (hN:Nice p) {t:Sp} (h:GoodS t) (h2:(t.fr != t.to||decide ((3:Int)<=(t.n:Int)))=true):aloneB p.ns.l t=true↔∀ x∈p.ns.l,ndBad t x=false:=by
 unfold aloneB
 rw [h.ne,h2,zch,Bool.and_true,Bool.and_true,Bool.not_eq_true',zd9]
 constructor
 ·intro h3 x hx
  rw [nd_same hN h hx]
  simpa using h3 x hx
 ·intro h3 x hx
  rw [← nd_same hN h hx,h3 x hx]
  decide
theorem apart_pair {p:Pn} (hN:Nice p) {s t:Sp} (hs:s∈spsN p) (ht:t∈spsN p) (g1:GoodS s) (g2:GoodS t) (h:mxI s.A.x s.B.x<mnI t.A.x t.B.x):pairS p.ns.l s t=true:=by
 have hm:s.meetR t=0:=meet_apart g1.a g1.b g2.a g2.b g1.ne g2.ne h
 have x1:s.A.x<=mxI s.A.x s.B.x:=le_mx.2 (.inl (Int.le_refl _))
 have x2:s.B.x<=mxI s.A.x s.B.x:=le_mx.2 (.inr (Int.le_refl _))
 have x3:mnI t.A.x t.B.x<=t.A.x:=mn_le.2 (.inl (Int.le_refl _))
 have x4:mnI t.A.x t.B.x<=t.B.x:=mn_le.2 (.inr (Int.le_refl _))
 unfold pairS
 cases hid:s.id==t.id
 ·rw [cond_false]
  unfold joinedB
  rw [hm]
  rfl
 ·rw [cond_true]
  have he:s.id=t.id:=by simpa using hid
  have link:∀ s t:Sp,s∈spsN p->t∈spsN p->s.id=t.id->(t.k=s.k+1->s.B=t.A)/\(s.k=0->t.k=t.n - 1->s.fr=s.to->t.B=s.A):=fun s t hs ht he=>by
   obtain ⟨a,ha,k,hk,rfl⟩:=sp_of hs
   obtain ⟨b,hb,k',hk',rfl⟩:=sp_of ht
   have hab:a=b:=asc_uniq hN.aid ha hb he
   subst hab
   refine ⟨fun e=>?_,fun e1 e2 e3=>?_⟩
   ·dsimp only at e ⊢
    rw [e]
   ·dsimp only at e1 e2 e3 ⊢
    subst e1
    have hl:=@line_two p a
    have e4:k'+1=(lineR p a).length - 1:=by omega
    rw [e4]
    unfold lineR
    rw [e3]
    simp [zc0]
  have hap:∀ s t:Sp,s∈spsN p->t∈spsN p->s.id=t.id->s.meetR t=0->(s.B=t.A->False)->(t.B=s.A->False)->apartB s t=true:=fun s t hs ht he hm n1 n2=>by
   obtain ⟨l1,l2⟩:=link s t hs ht he
   unfold apartB
   rw [hm]
   have e1:((t.k:Int)==((s.k+1:Nat):Int))=false:=by
    rw [beq_eq_false_iff_ne]
    exact fun h=>n1 (l1 (by omega))
   rw [e1,cond_false]
   cases hc:((s.k:Int)==0&&((t.k:Int)==((t.n - 1:Nat):Int)&&s.fr==s.to))
   ·rfl
   ·simp only [zcq,beq_iff_eq] at hc
    exact absurd (l2 (by omega) (by omega) hc.2.2) n2
  cases decide (t.k<s.k)
  ·rw [cond_false]
   exact hap s t hs ht he hm (fun h=>by have:=congrArg Pt.x h; omega) fun h=>by have:=congrArg Pt.x h; omega
  ·rw [cond_true]
   exact hap t s ht hs he.symm ((mr_comm g2 g1).trans hm) (fun h=>by have:=congrArg Pt.x h; omega) fun h=>by have:=congrArg Pt.x h; omega
theorem cmpI_neg {x y:Int}:cmpI x y<0↔x<y:=by
 unfold cmpI
 split
 ·simp [*]
 ·split <;> simp [*]
theorem planar_same {p:Pn} (hN:Nice p) {v:Bool} (hv:PlanarV p v):v=planR p.ns.l (rgsL p):=by
 have hQ:=rgs_sps p
 unfold PlanarV at hv
 cases hb:p.as.l.any (badA p)
 ·rw [hb,cond_false,hN.sps] at hv
  have hg:=fun {t:Sp} (ht:t∈spsN p)=>good_all hN hb ht
  rcases hv with ⟨h1,rfl⟩ | ⟨L,l,hL,hperm,hsrt,hres⟩
  ·symm
   rw [Z7,hQ,h1]
   exact ⟨fun t ht=>by simp at ht,List.Pairwise.nil⟩
  ·have hmem:∀ {s:Sg},s∈l->s.sp∈spsN p:=fun hs=>hperm.mem_iff.1 (List.mem_map_of_mem hs)
   have hends:∀ {s:Sg},s∈l->(nodeF p s.a.fr).isSome=true/\(nodeF p s.a.to).isSome=true:=fun {s} hs=>by
    obtain ⟨a,ha,k,hk,he⟩:=sp_of (hmem hs)
    have e1:s.a.fr=a.fr:=congrArg Sp.fr he
    have e2:s.a.to=a.to:=congrArg Sp.to he
    rw [e1,e2]
    exact ⟨hN.fr a ha,hN.too a ha⟩
   have hcp:∀ {s u:Sg},s∈l->u∈l->compB L s u=pairS p.ns.l s.sp u.sp:=fun hs hu=>comp_pair hN hL (hg (hmem hs)).1 (hg (hmem hu)).1 (hends hs).1 (hends hs).2
   have hord:=sps_order hN
   have hdis:(l.map Sg.sp).Pairwise fun s t=>s.id=t.id->s.k≠t.k :=
    (hperm.pairwise_iff (R:=fun s t:Sp=>s.id=t.id->s.k≠t.k) (fun {x y} h he=>Ne.symm (h he.symm))).2 (hord.imp fun h he=>by have:=h he; omega)
   have hdis2:∀ (i j:Nat) (s u:Sg),i<j->l[i]?=some s->l[j]?=some u->(s.sp.id=u.sp.id->s.sp.k≠u.sp.k):=fun i j s u hij hs hu=>by
    rw [List.pairwise_map] at hdis
    exact Za.1 hdis i j s u hij hs hu
   have hrel:(l.map Sg.sp).Pairwise (RelS p.ns.l)↔(spsN p).Pairwise (RelS p.ns.l):=hperm.pairwise_iff fun {x y} h=>rel_symm h
   have hRL:(spsN p).Pairwise (RelS p.ns.l)↔(spsN p).Pairwise fun s t=>pairR p.ns.l s t=true:=by
    constructor
    ·intro h
     refine Za.2 fun i j x y hij hx hy=>?_
     have ho:=Za.1 hord i j x y hij hx hy
     rw [zb5 ho]
     exact Za.1 h i j x y hij hx hy (hg (zdq hx)).1 (hg (zdq hy)).1 fun he=>by have:=ho he; omega
    ·intro h
     refine Za.2 fun i j x y hij hx hy _ _ _=>?_
     have ho:=Za.1 hord i j x y hij hx hy
     rw [← zb5 ho]
     exact Za.1 h i j x y hij hx hy
   have hal:(∀ t∈spsN p,aloneB p.ns.l t=true)↔∀ s∈l,∀ x∈p.ns.l,ndBad s.sp x=false:=by
    constructor
    ·intro h s hs
     have g:=hg (hmem hs)
     exact (alone_iff hN g.1 g.2).1 (h _ (hmem hs))
    ·intro h t ht
     have g:=hg ht
     obtain ⟨s,hs,rfl⟩:=List.mem_map.1 (hperm.mem_iff.2 ht)
     exact (alone_iff hN g.1 g.2).2 (h s hs)
   cases hvv:v
   ·obtain ⟨i,s,hs,hbad⟩:=hres.2 hvv
    symm
    rw [← zdy]
    intro hp
    rw [Z7,hQ] at hp
    rcases hbad with ⟨j,u,hij,hu,hc⟩ | ⟨x,hx,hxb⟩
    ·have h1:=hrel.2 (hRL.2 hp.2)
     rw [List.pairwise_map] at h1
     have h2:=Za.1 h1 i j s u hij hs hu (hg (hmem (zdq hs))).1 (hg (hmem (zdq hu))).1 (hdis2 i j s u hij hs hu)
     rw [← hcp (zdq hs) (zdq hu),hc] at h2
     cases h2
    ·have:=hal.1 hp.1 s (zdq hs) x hx
     rw [hxb] at this
     cases this
   ·have hr:=hres.1 hvv
    symm
    rw [Z7,hQ]
    refine ⟨hal.2 fun s hs=>?_,hRL.1 (hrel.1 ?_)⟩
    ·obtain ⟨i,hi⟩:=List.getElem?_of_mem hs
     exact (hr i s hi).2
    ·rw [List.pairwise_map]
     refine Za.2 fun i j s u hij hs hu g1 g2 _=>?_
     rcases (hr i s hs).1 j u hij hu with h1 | ⟨j',u',h2,h3,h4,h5⟩
     ·rw [← hcp (zdq hs) (zdq hu)]
      exact h1
     ·have hw:u'.w<=u.w:=by
       by_cases hjj:j'=j
       ·subst hjj
        rw [hu] at h4
        cases h4
        exact Int.le_refl _
       ·have:=hsrt j' j u' u (Nat.zero_le _) (by omega) (zcf.1 hu).1 h4 hu
        unfold up at this
        rw [cmpI_neg] at this
        omega
      exact apart_pair hN (hmem (zdq hs)) (hmem (zdq hu)) g1 g2 (by
       have:s.ea<u.w:=by omega
       exact this)
 ·rw [hb,cond_true] at hv
  rw [hv]
  symm
  rw [← zdy]
  intro hp
  rw [Z7,hQ] at hp
  obtain ⟨t,ht,h2⟩:=bad_none hN hb
  rw [hp.1 t ht] at h2
  cases h2
theorem rng_same (p:Pn):rngR p=rngB p:=by
 unfold rngR rngB placedB idsL allPts
 simp only [cond_false,cond_true,List.any_append,List.any_map,List.any_flatMap]
 have e1:(p.ns.l.any fun n=>badPt n.at')=p.ns.l.any (badPt ∘ Nd.at'):=rfl
 rw [e1]
 cases p.ns.l.any (badId ∘ Nd.id) <;> cases p.as.l.any (badId ∘ Ac.id) <;> cases p.fs.l.any badId <;> cases p.ns.l.any (badPt ∘ Nd.at') <;> cases (p.as.l.any fun a=>a.via.l.any badPt) <;> rfl
theorem has_node (p:Pn) (z:Int):hasI (p.ns.l.map Nd.id) z=(nodeF p z).isSome:=by
 unfold hasI nodeF
 rw [List.any_map,zdz,List.find?_isSome,List.any_eq_true]
 simp only [Function.comp,beq_iff_eq,exists_prop]
 constructor
 ·rintro ⟨x,h1,h2⟩
  exact ⟨x,h1,h2.symm⟩
 ·rintro ⟨x,h1,h2⟩
  exact ⟨x,h1,h2.symm⟩
theorem conn_same (p:Pn):connE p (p.ns.l.map Nd.id)=bif dupPt p.ns.l then 8 else bif p.as.l.any (fun a=>!lineOk p a) then 7 else bif p.as.l.any (fun a=>!faceOk p a.l||!faceOk p a.r) then 12 else 0:=by
 unfold connE
 have e1:p.as.l.any (loose (p.ns.l.map Nd.id))=p.as.l.any (fun a=>!lineOk p a):=YQ fun a _=>by
  unfold loose lineOk
  rw [has_node,has_node,Bool.not_and]
 have e2:∀ z,offSide p.fs.l z=!faceOk p z:=fun z=>by
  unfold offSide faceOk
  rw [Bool.not_or,Bool.and_comm]
  rfl
 have e3:p.as.l.any (fun a=>offSide p.fs.l a.l||offSide p.fs.l a.r)=p.as.l.any (fun a=>!faceOk p a.l||!faceOk p a.r):=YQ fun a _=>by rw [e2,e2]
 rw [e1,e3]
theorem zb6 {q:Pt} (h:badPt q=false):nearP q=true:=by
 rw [YN]
 simp only [badPt,zd6,decide_eq_false_iff_not,Int.not_lt] at h
 omega
theorem check_same {p:Pn} {v:Bool} (hv:limI p=false->limV p=false->PlanarV p v):planE p v=refE p:=by
 unfold planE refE ref2 ref3
 rw [rng_same,conn_same]
 cases h1:(limI p||limV p)
 ·rw [cond_false,cond_false]
  rw [zd6] at h1
  have hpv:=hv h1.1 h1.2
  cases h2:ordB p
  ·rfl
  ·rw [zci,cond_false,cond_false]
   cases h3:rngB p
   ·rfl
   ·rw [zci,cond_false,cond_false]
    cases h4:dupPt p.ns.l
    ·cases h5:p.as.l.any (fun a=>!lineOk p a)
     ·cases h6:p.as.l.any (fun a=>!faceOk p a.l||!faceOk p a.r)
      ·have hN:Nice p:=by
        unfold ordB at h2
        simp only [zcq] at h2
        unfold rngB placedB at h3
        simp only [zcq,Bool.not_eq_true'] at h3
        have hlo:∀ a∈p.as.l,(nodeF p a.fr).isSome=true/\(nodeF p a.to).isSome=true:=fun a ha=>by
         have:=zd9.1 h5 a ha
         simp only [zdy,Bool.not_eq_false',lineOk,zcq] at this
         exact this
        refine ⟨Zs.1 h2.1,Zs.1 h2.2.1,fun x hx=>zb6 ?_,fun a ha q hq=>zb6 ?_,fun a ha=>(hlo a ha).1,fun a ha=>(hlo a ha).2⟩
        ·have:=zd9.1 h3.2.2.2.1 x hx
         simpa using this
        ·have:=zd9.1 h3.2.2.2.2 a ha
         have h9:a.via.l.any badPt=false:=by simpa only [zdy] using this
         have:=zd9.1 h9 q hq
         simpa using this
       rw [planar_same hN hpv]
       rfl
      ·rfl
     ·rfl
    ·rfl
 ·rfl
end
section
theorem plan_okV {p:Pn} {v:Bool} (h:planE p v=0):∀ a∈p.as.l,pathOk p a.id=true:=fun a ha=>by
 obtain ⟨_,_,_,_,hc,_⟩:=plan_zero h
 unfold connE at hc
 cases h1:dupPt p.ns.l
 rotate_left
 ·rw [h1] at hc; simp at hc
 rw [h1] at hc
 cases h2:p.as.l.any (loose (p.ns.l.map Nd.id))
 rotate_left
 ·rw [h2] at hc; simp at hc
 rw [zd9] at h2
 have hso:(arcF p a.id).isSome=true:=by
  unfold arcF
  rw [List.find?_isSome]
  exact ⟨a,ha,by simp⟩
 obtain ⟨b,hb⟩:=Option.isSome_iff_exists.1 hso
 have hbm:b∈p.as.l:=List.mem_of_find?_eq_some hb
 have hl:=h2 b hbm
 simp only [loose,zd3,not_or,zdy,Bool.not_eq_false'] at hl
 have hd:arcD p a.id=b:=by
  unfold arcD
  rw [hb]
  rfl
 unfold pathOk
 rw [hso,hd,node_some hl.1,node_some hl.2]
 rfl
noncomputable def areaV (s:Sv) (id:Int) (e:Int):Int:=bif findOk s id&&(shapeI (findD s id).kind==3&&e==0) then wrapI .i64 (areaS s.pl (findD s id).parts.l s.pl.as.l) else 0
section
variable {S:ySM}
theorem ar_sum (hS:NoS S) (q:SlOf 2 Pt.c):GivesN S (q.l.length+6) 26 [q.v] (.int .i64 (crossK q.l q.l.length)):=by
 refine zd (i:=i26) (ns hS (by rfl)) rfl rfl (lb rfl) (q.l.length+5) (by omega) zw fun m hm d out t hfr=>?_
 simp only [V2,Nat.reduceAdd,i26] at hfr
 have hqf:=q.few
 simp only [i26,V0,Nat.reduceLT,Nat.reduceAdd,Nat.reduceMul,Nat.reduceLeDiff,Nat.reduceEqDiff,reduceCtorEq,hfr]
 refine zb (fun jj st=>∃ (k:Nat) (O:yLO),q.l.length - k<=jj/\(k+1<=q.l.length∨k=0)/\st.own=O/\Slots 40 st.t [(0,q.v),(3,.int .i64 (crossK q.l (k+1))),(4,iv k)]) q.l.length (by omega) ⟨0,_,by omega,.inr rfl,rfl,by simp only [V0,Nat.reduceLT,Nat.reduceAdd,Nat.reduceMul,Nat.reduceLeDiff,Nat.reduceEqDiff,reduceCtorEq,hfr,show crossK q.l (0+1)=0 from rfl,zcp]⟩ ?_
 clear hfr
 rintro jj ⟨t,own⟩ KA ⟨j,O,hjj,hk,ho,hfr⟩ hnA heA hrA
 dsimp only at ho hfr
 subst ho
 simp only [V3] at hfr
 have hw:wrapI .i64 ((j:Int)+1)=((j+1:Nat):Int):=we
 by_cases h:j+1<q.l.length
 ·have hj:j<q.l.length:=by omega
  obtain ⟨x,hx⟩:=gx (l:=q.l) (i:=j) hj
  obtain ⟨y,hy⟩:=gx (l:=q.l) (i:=j+1) h
  have rx1:rdN (q.l.flatMap Pt.c) (j*2) 1=some [.int .i64 x.x]:=(zc Pt.c_len 0 1 hx (by omega)).trans rfl
  have rx2:rdN (q.l.flatMap Pt.c) (j*2+1) 1=some [.int .i64 x.y]:=(zc Pt.c_len 1 1 hx (by omega)).trans rfl
  have ry1:rdN (q.l.flatMap Pt.c) ((j+1)*2) 1=some [.int .i64 y.x]:=(zc Pt.c_len 0 1 hy (by omega)).trans rfl
  have ry2:rdN (q.l.flatMap Pt.c) ((j+1)*2+1) 1=some [.int .i64 y.y]:=(zc Pt.c_len 1 1 hy (by omega)).trans rfl
  have hc:wrapI .i64 (wrapI .i64 (crossK q.l (j+1)+wrapI .i64 (x.x*y.y)) - wrapI .i64 (y.x*x.y))=crossK q.l (j+1+1):=by
   rw [crossK,pxA_at hx,pyA_at hy,pxA_at hy,pyA_at hx]
   refine ZF ?_
   have a1:=zb7 (crossK q.l (j+1)+wrapI .i64 (x.x*y.y))
   have a2:=zb7 (wrapI .i64 (x.x*y.y) - wrapI .i64 (y.x*x.y))
   omega
  simp only [V0,Nat.reduceLT,Nat.reduceAdd,Nat.reduceMul,Nat.reduceLeDiff,Nat.reduceEqDiff,reduceCtorEq,hfr,hw,h,zdk,za q h,za q hj,rx1,rx2,ry1,ry2]
  refine ⟨by simp [comm],?_⟩
  simp only [V0,Nat.reduceLT,Nat.reduceAdd,Nat.reduceMul,Nat.reduceLeDiff,Nat.reduceEqDiff,reduceCtorEq,hfr,hw,hc]
  exact hnA _ (q.l.length - (j+1)) (by omega) ⟨j+1,_,by omega,.inl (by omega),rfl,by simp only [V0,Nat.reduceLT,Nat.reduceAdd,Nat.reduceMul,Nat.reduceLeDiff,Nat.reduceEqDiff,reduceCtorEq,hfr,hw,hc]⟩
 ·have hend:crossK q.l (j+1)=crossK q.l q.l.length:=by
   rcases hk with hk | hk
   ·rw [show q.l.length=j+1 by omega]
   ·subst hk
    have:q.l.length=0∨q.l.length=1:=by omega
    rcases this with h0 | h0 <;> rw [h0] <;> rfl
  simp only [V0,Nat.reduceLT,Nat.reduceAdd,Nat.reduceMul,Nat.reduceLeDiff,Nat.reduceEqDiff,reduceCtorEq,hfr,hw,h,zdk]
  refine heA _ _ ?_
  simp only [V0,Nat.reduceLT,Nat.reduceAdd,Nat.reduceMul,Nat.reduceLeDiff,Nat.reduceEqDiff,reduceCtorEq,hfr,hend]
theorem at_areaV (hS:NoS S) (s:Sv) (id:Int) {e:Int} {v:Bool} (he:e=planE s.pl v) {Np:Nat} (hpc:GivesN S Np 18 [.agg s.pl.c] (.int .i64 e)) (hfv:FewVia s.pl) (hpa:∀ g∈s.ft.l,g.parts.l.length<=1000):∃ N,GivesN S N 6 [.agg s.c,iv id] (.int .i64 (areaV s id e)):=by
 by_cases hall:findOk s id=true/\shapeI (findD s id).kind=3/\e=0
 ·obtain ⟨h1,h2,h3⟩:=hall
  subst h3
  have hval:areaV s id 0=wrapI .i64 (areaS s.pl (findD s id).parts.l s.pl.as.l):=by
   unfold areaV
   rw [h1,h2]
   rfl
  rw [hval]
  exact at_areaP hS s id (findD s id) rfl h1 h2 hpc (plan_okV he.symm) hfv hpa
 ·have hval:areaV s id e=0:=by
   unfold areaV
   cases h1:findOk s id
   ·rfl
   ·cases h2:shapeI (findD s id).kind==3
    ·rfl
    ·cases h3:e==0
     ·rfl
     ·exact absurd ⟨h1,by simpa using h2,by simpa using h3⟩ hall
  obtain ⟨q,hq,N1,hN1⟩:=zbo hS s id (fun g hg=>by have:=hpa g hg; omega)
  have e1:((s.ft.l.find? fun f=>f.id==id).getD zFt)=findD s id:=rfl
  have e2:(s.ft.l.find? fun f=>f.id==id).isSome=findOk s id:=rfl
  rw [e1,e2] at hN1
  rw [hval]
  refine ⟨N1+Np+10,zd (i:=i6) (ns hS (by rfl)) rfl rfl (lb rfl) (N1+Np+9) (by omega) zw fun m hm d out t hfr=>?_⟩
  simp only [V2,Nat.reduceAdd,i6,Sv.c,zo] at hfr
  have c1:=hN1 m (by omega)
  have c2:=fun d out ownV own i=>at_shape hS (findD s id).kind m (by omega) d out ownV own i
  have c3:=hpc m (by omega)
  simp only [Sv.c,Pn.c,Ft.c,zo] at c1 c2 c3
  have hb3:∀ z:Int,(z != 3)=!(z==3):=fun z=>rfl
  have hb0:∀ z:Int,(z != 0)=!(z==0):=fun z=>rfl
  cases h1:findOk s id
  ·simp only [i6,V0,Nat.reduceLT,Nat.reduceAdd,Nat.reduceMul,Nat.reduceLeDiff,Nat.reduceEqDiff,reduceCtorEq,hfr,c1,h1]
  ·cases h2:shapeI (findD s id).kind==3
   ·simp only [i6,V0,Nat.reduceLT,Nat.reduceAdd,Nat.reduceMul,Nat.reduceLeDiff,Nat.reduceEqDiff,reduceCtorEq,hfr,c1,c2,hb3,h1,h2,zch]
   ·cases h3:e==0
    ·simp only [i6,V0,Nat.reduceLT,Nat.reduceAdd,Nat.reduceMul,Nat.reduceLeDiff,Nat.reduceEqDiff,reduceCtorEq,hfr,c1,c2,c3,hb3,hb0,h1,h2,h3,zch,zci]
    ·exact absurd ⟨h1,by simpa using h2,by simpa using h3⟩ hall
end
end
section
def eqL {α:Type} (f:α->α->Bool):List α->List α->Bool
 | [],[]=>true
 | x::l,y::l'=>f x y&&eqL f l l'
 | _,_=>false
def eqTo {α:Type} (f:α->α->Bool) (l l':List α) (k:Nat):Prop:=∀ i x y,i<k->l[i]?=some x->l'[i]?=some y->f x y=true
section
variable {α:Type} {f:α->α->Bool}
theorem yv:∀ {l l':List α},eqL f l l'=true->l.length=l'.length
 | [],[],_=>rfl
 | x::l,y::l',h=>by
  rw [eqL,zcq] at h
  rw [zcr,zcr,yv h.2]
 | [],_::_,h=>by cases h
 | _::_,[],h=>by cases h
theorem yw:∀ {l l':List α},l.length=l'.length->eqTo f l l' l.length->eqL f l l'=true
 | [],[],_,_=>rfl
 | x::l,y::l',hl,h=>by
  rw [eqL,zcq]
  refine ⟨h 0 x y (by simp) rfl rfl,yw (by simpa using hl) fun i u v hi hu hv=>h (i+1) u v (by simp; omega) (by simpa using hu) (by simpa using hv)⟩
 | [],_::_,hl,_=>by cases hl
 | _::_,[],hl,_=>by cases hl
theorem yx:∀ {l l':List α} {i:Nat} {x y:α},l[i]?=some x->l'[i]?=some y->f x y=false->eqL f l l'=false
 | a::l,b::l',0,x,y,hx,hy,h=>by
  simp only [zdf,zcj] at hx hy
  subst hx hy
  rw [eqL,h,zcg]
 | a::l,b::l',i+1,x,y,hx,hy,h=>by
  simp only [zc1] at hx hy
  rw [eqL,yx hx hy h,zc4]
 | [],_,_,_,_,hx,_,_=>by simp at hx
 | _::_,[],_,_,_,_,hy,_=>by simp at hy
theorem yb {l l':List α} {i:Nat} {x y:α} (h:eqTo f l l' i) (hx:l[i]?=some x) (hy:l'[i]?=some y) (he:f x y=true):eqTo f l l' (i+1):=fun j u v hj hu hv=>by
 by_cases hji:j=i
 ·subst hji
  rw [hx] at hu
  rw [hy] at hv
  cases hu
  cases hv
  exact he
 ·exact h j u v (by omega) hu hv
theorem Zb {l l':List α}:eqTo f l l' 0:=fun i _ _ h=>absurd h (Nat.not_lt_zero _)
end
def intE (x y:Int):Bool:=x==y
def ndE (x y:Nd):Bool:=(x.id==y.id)&&((x.at'.x==y.at'.x)&&(x.at'.y==y.at'.y))
theorem eqp3 (a b c d e f:Int):eqvs [1,1,1] [.int .i64 a,.int .i64 b,.int .i64 c] [.int .i64 d,.int .i64 e,.int .i64 f]=some ((a==d)&&((b==e)&&(c==f))):=by
 simp only [eqvs,eqv]
 cases h1:a==d <;> cases h2:b==e <;> cases h3:c==f <;> simp [h1,h2,h3]
theorem z7 (z:Int) (w:Int):(z != w)=!(z==w):=rfl
section
variable {S:ySM}
theorem at_eqI (hS:NoS S) (a b:SlOf 1 intc):GivesN S (a.l.length+4) 30 [a.v,b.v] (.bool (eqL intE a.l b.l)):=by
 refine zd (i:=i30) (ns hS (by rfl)) rfl rfl (lb rfl) (a.l.length+3) (by omega) zk fun m hm d out t hfr=>?_
 simp only [V2,Nat.reduceAdd,i30] at hfr
 have haf:=a.few
 have hbf:=b.few
 have q1:(true != false)=true:=rfl
 have q2:(true != true)=false:=rfl
 cases hlen:((a.l.length:Nat):Int)==((b.l.length:Nat):Int)
 ·have hf:eqL intE a.l b.l=false:=by
   rw [← zdy]
   intro h
   rw [yv h] at hlen
   simp at hlen
  simp only [i30,V0,Nat.reduceLT,Nat.reduceAdd,Nat.reduceMul,Nat.reduceLeDiff,Nat.reduceEqDiff,reduceCtorEq,hfr,z7,hlen,zch,hf]
 ·have hle:a.l.length=b.l.length:=by
   have:((a.l.length:Nat):Int)=((b.l.length:Nat):Int):=by simpa using hlen
   omega
  simp only [i30,V0,Nat.reduceLT,Nat.reduceAdd,Nat.reduceMul,Nat.reduceLeDiff,Nat.reduceEqDiff,reduceCtorEq,hfr,z7,hlen,zci]
  refine zb (fun jj st=>∃ (i:Nat) (O:yLO),a.l.length - i<=jj/\i<=a.l.length/\eqTo intE a.l b.l i/\st.own=O/\Slots 26 st.t [(0,a.v),(1,b.v),(12,iv (a.l.length:Nat)),(13,iv i)]) a.l.length (by omega) ⟨0,_,by omega,by omega,Zb,rfl,by simp only [V0,Nat.reduceLT,Nat.reduceAdd,Nat.reduceMul,Nat.reduceLeDiff,Nat.reduceEqDiff,reduceCtorEq,hfr,zcp]⟩ ?_
  clear hfr
  rintro jj ⟨t,own⟩ KA ⟨i,O,hjj,hi,ha,ho,hfr⟩ hnA heA hrA
  dsimp only at ho hfr
  subst ho
  simp only [V3] at hfr
  by_cases h:i<a.l.length
  ·have h2:i<b.l.length:=by omega
   obtain ⟨x,hx⟩:=gx (l:=a.l) (i:=i) h
   obtain ⟨y,hy⟩:=gx (l:=b.l) (i:=i) h2
   have hrx:rdN (a.l.flatMap intc) (i*1) 1=some [.int .i64 x]:=(zc zj 0 1 hx (by omega)).trans rfl
   have hry:rdN (b.l.flatMap intc) (i*1) 1=some [.int .i64 y]:=(zc zj 0 1 hy (by omega)).trans rfl
   have hw:wrapI .i64 ((i:Int)+1)=((i+1:Nat):Int):=we
   cases hq:intE x y
   ·have hq':=hq
    unfold intE at hq'
    simp only [V0,Nat.reduceLT,Nat.reduceAdd,Nat.reduceMul,Nat.reduceLeDiff,Nat.reduceEqDiff,reduceCtorEq,hfr,h,zdk,za a h,za b h2,hrx,hry,z7,hq',q1,q2,zch,zci]
    refine ⟨by simp [comm],?_⟩
    simp only [V0,Nat.reduceLT,Nat.reduceAdd,Nat.reduceMul,Nat.reduceLeDiff,Nat.reduceEqDiff,reduceCtorEq,hfr,z7,hq',q1,q2,zch]
    refine hrA _ ?_
    simp only [V0,Nat.reduceLT,Nat.reduceAdd,Nat.reduceMul,Nat.reduceLeDiff,Nat.reduceEqDiff,reduceCtorEq,hfr,yx hx hy hq]
   ·have hq':=hq
    unfold intE at hq'
    simp only [V0,Nat.reduceLT,Nat.reduceAdd,Nat.reduceMul,Nat.reduceLeDiff,Nat.reduceEqDiff,reduceCtorEq,hfr,h,zdk,za a h,za b h2,hrx,hry,z7,hq',q1,q2,zch,zci]
    refine ⟨by simp [comm],?_⟩
    simp only [V0,Nat.reduceLT,Nat.reduceAdd,Nat.reduceMul,Nat.reduceLeDiff,Nat.reduceEqDiff,reduceCtorEq,hfr,z7,hq',q1,q2,zci,hw]
    exact hnA _ (a.l.length - (i+1)) (by omega) ⟨i+1,_,by omega,by omega,yb ha hx hy hq,rfl,by simp only [V0,Nat.reduceLT,Nat.reduceAdd,Nat.reduceMul,Nat.reduceLeDiff,Nat.reduceEqDiff,reduceCtorEq,hfr,hw]⟩
  ·have hall:eqL intE a.l b.l=true:=yw hle fun j u v hj hu hv=>ha j u v (by omega) hu hv
   simp only [V0,Nat.reduceLT,Nat.reduceAdd,Nat.reduceMul,Nat.reduceLeDiff,Nat.reduceEqDiff,reduceCtorEq,hfr,h,zdk]
   refine heA _ _ ?_
   simp only [V0,Nat.reduceLT,Nat.reduceAdd,Nat.reduceMul,Nat.reduceLeDiff,Nat.reduceEqDiff,reduceCtorEq,hfr,hall]
theorem at_eqP (hS:NoS S) (a b:SlOf 2 Pt.c):GivesN S (a.l.length+4) 68 [a.v,b.v] (.bool (eqL ptE a.l b.l)):=by
 refine zd (i:=i68) (ns hS (by rfl)) rfl rfl (lb rfl) (a.l.length+3) (by omega) zk fun m hm d out t hfr=>?_
 simp only [V2,Nat.reduceAdd,i68] at hfr
 have haf:=a.few
 have hbf:=b.few
 have q1:(true != false)=true:=rfl
 have q2:(true != true)=false:=rfl
 cases hlen:((a.l.length:Nat):Int)==((b.l.length:Nat):Int)
 ·have hf:eqL ptE a.l b.l=false:=by
   rw [← zdy]
   intro h
   rw [yv h] at hlen
   simp at hlen
  simp only [i68,V0,Nat.reduceLT,Nat.reduceAdd,Nat.reduceMul,Nat.reduceLeDiff,Nat.reduceEqDiff,reduceCtorEq,hfr,z7,hlen,zch,hf]
 ·have hle:a.l.length=b.l.length:=by
   have:((a.l.length:Nat):Int)=((b.l.length:Nat):Int):=by simpa using hlen
   omega
  simp only [i68,V0,Nat.reduceLT,Nat.reduceAdd,Nat.reduceMul,Nat.reduceLeDiff,Nat.reduceEqDiff,reduceCtorEq,hfr,z7,hlen,zci]
  refine zb (fun jj st=>∃ (i:Nat) (O:yLO),a.l.length - i<=jj/\i<=a.l.length/\eqTo ptE a.l b.l i/\st.own=O/\Slots 26 st.t [(0,a.v),(1,b.v),(12,iv (a.l.length:Nat)),(13,iv i)]) a.l.length (by omega) ⟨0,_,by omega,by omega,Zb,rfl,by simp only [V0,Nat.reduceLT,Nat.reduceAdd,Nat.reduceMul,Nat.reduceLeDiff,Nat.reduceEqDiff,reduceCtorEq,hfr,zcp]⟩ ?_
  clear hfr
  rintro jj ⟨t,own⟩ KA ⟨i,O,hjj,hi,ha,ho,hfr⟩ hnA heA hrA
  dsimp only at ho hfr
  subst ho
  simp only [V3] at hfr
  by_cases h:i<a.l.length
  ·have h2:i<b.l.length:=by omega
   obtain ⟨x,hx⟩:=gx (l:=a.l) (i:=i) h
   obtain ⟨y,hy⟩:=gx (l:=b.l) (i:=i) h2
   have hrx:rdN (a.l.flatMap Pt.c) (i*2) 2=some [.int .i64 x.x,.int .i64 x.y]:=(zc Pt.c_len 0 2 hx (by omega)).trans rfl
   have hry:rdN (b.l.flatMap Pt.c) (i*2) 2=some [.int .i64 y.x,.int .i64 y.y]:=(zc Pt.c_len 0 2 hy (by omega)).trans rfl
   have hw:wrapI .i64 ((i:Int)+1)=((i+1:Nat):Int):=we
   cases hq:ptE x y
   ·have hq':=hq
    unfold ptE at hq'
    simp only [V0,Nat.reduceLT,Nat.reduceAdd,Nat.reduceMul,Nat.reduceLeDiff,Nat.reduceEqDiff,reduceCtorEq,hfr,h,zdk,za a h,za b h2,hrx,hry,zI,z7,hq',q1,q2,zch,zci]
    refine ⟨by simp [comm],?_⟩
    simp only [V0,Nat.reduceLT,Nat.reduceAdd,Nat.reduceMul,Nat.reduceLeDiff,Nat.reduceEqDiff,reduceCtorEq,hfr,zI,z7,hq',q1,q2,zch]
    refine hrA _ ?_
    simp only [V0,Nat.reduceLT,Nat.reduceAdd,Nat.reduceMul,Nat.reduceLeDiff,Nat.reduceEqDiff,reduceCtorEq,hfr,yx hx hy hq]
   ·have hq':=hq
    unfold ptE at hq'
    simp only [V0,Nat.reduceLT,Nat.reduceAdd,Nat.reduceMul,Nat.reduceLeDiff,Nat.reduceEqDiff,reduceCtorEq,hfr,h,zdk,za a h,za b h2,hrx,hry,zI,z7,hq',q1,q2,zch,zci]
    refine ⟨by simp [comm],?_⟩
    simp only [V0,Nat.reduceLT,Nat.reduceAdd,Nat.reduceMul,Nat.reduceLeDiff,Nat.reduceEqDiff,reduceCtorEq,hfr,zI,z7,hq',q1,q2,zci,hw]
    exact hnA _ (a.l.length - (i+1)) (by omega) ⟨i+1,_,by omega,by omega,yb ha hx hy hq,rfl,by simp only [V0,Nat.reduceLT,Nat.reduceAdd,Nat.reduceMul,Nat.reduceLeDiff,Nat.reduceEqDiff,reduceCtorEq,hfr,hw]⟩
  ·have hall:eqL ptE a.l b.l=true:=yw hle fun j u v hj hu hv=>ha j u v (by omega) hu hv
   simp only [V0,Nat.reduceLT,Nat.reduceAdd,Nat.reduceMul,Nat.reduceLeDiff,Nat.reduceEqDiff,reduceCtorEq,hfr,h,zdk]
   refine heA _ _ ?_
   simp only [V0,Nat.reduceLT,Nat.reduceAdd,Nat.reduceMul,Nat.reduceLeDiff,Nat.reduceEqDiff,reduceCtorEq,hfr,hall]
theorem at_eqN (hS:NoS S) (a b:SlOf 3 Nd.c):GivesN S (a.l.length+4) 69 [a.v,b.v] (.bool (eqL ndE a.l b.l)):=by
 refine zd (i:=i69) (ns hS (by rfl)) rfl rfl (lb rfl) (a.l.length+3) (by omega) zk fun m hm d out t hfr=>?_
 simp only [V2,Nat.reduceAdd,i69] at hfr
 have haf:=a.few
 have hbf:=b.few
 have q1:(true != false)=true:=rfl
 have q2:(true != true)=false:=rfl
 cases hlen:((a.l.length:Nat):Int)==((b.l.length:Nat):Int)
 ·have hf:eqL ndE a.l b.l=false:=by
   rw [← zdy]
   intro h
   rw [yv h] at hlen
   simp at hlen
  simp only [i69,V0,Nat.reduceLT,Nat.reduceAdd,Nat.reduceMul,Nat.reduceLeDiff,Nat.reduceEqDiff,reduceCtorEq,hfr,z7,hlen,zch,hf]
 ·have hle:a.l.length=b.l.length:=by
   have:((a.l.length:Nat):Int)=((b.l.length:Nat):Int):=by simpa using hlen
   omega
  simp only [i69,V0,Nat.reduceLT,Nat.reduceAdd,Nat.reduceMul,Nat.reduceLeDiff,Nat.reduceEqDiff,reduceCtorEq,hfr,z7,hlen,zci]
  refine zb (fun jj st=>∃ (i:Nat) (O:yLO),a.l.length - i<=jj/\i<=a.l.length/\eqTo ndE a.l b.l i/\st.own=O/\Slots 26 st.t [(0,a.v),(1,b.v),(12,iv (a.l.length:Nat)),(13,iv i)]) a.l.length (by omega) ⟨0,_,by omega,by omega,Zb,rfl,by simp only [V0,Nat.reduceLT,Nat.reduceAdd,Nat.reduceMul,Nat.reduceLeDiff,Nat.reduceEqDiff,reduceCtorEq,hfr,zcp]⟩ ?_
  clear hfr
  rintro jj ⟨t,own⟩ KA ⟨i,O,hjj,hi,ha,ho,hfr⟩ hnA heA hrA
  dsimp only at ho hfr
  subst ho
  simp only [V3] at hfr
  by_cases h:i<a.l.length
  ·have h2:i<b.l.length:=by omega
   obtain ⟨x,hx⟩:=gx (l:=a.l) (i:=i) h
   obtain ⟨y,hy⟩:=gx (l:=b.l) (i:=i) h2
   have hrx:rdN (a.l.flatMap Nd.c) (i*3) 3=some [.int .i64 x.id,.int .i64 x.at'.x,.int .i64 x.at'.y]:=(zc Nd.c_len 0 3 hx (by omega)).trans rfl
   have hry:rdN (b.l.flatMap Nd.c) (i*3) 3=some [.int .i64 y.id,.int .i64 y.at'.x,.int .i64 y.at'.y]:=(zc Nd.c_len 0 3 hy (by omega)).trans rfl
   have hw:wrapI .i64 ((i:Int)+1)=((i+1:Nat):Int):=we
   cases hq:ndE x y
   ·have hq':=hq
    unfold ndE at hq'
    simp only [V0,Nat.reduceLT,Nat.reduceAdd,Nat.reduceMul,Nat.reduceLeDiff,Nat.reduceEqDiff,reduceCtorEq,hfr,h,zdk,za a h,za b h2,hrx,hry,eqp3,z7,hq',q1,q2,zch,zci]
    refine ⟨by simp [comm],?_⟩
    simp only [V0,Nat.reduceLT,Nat.reduceAdd,Nat.reduceMul,Nat.reduceLeDiff,Nat.reduceEqDiff,reduceCtorEq,hfr,eqp3,z7,hq',q1,q2,zch]
    refine hrA _ ?_
    simp only [V0,Nat.reduceLT,Nat.reduceAdd,Nat.reduceMul,Nat.reduceLeDiff,Nat.reduceEqDiff,reduceCtorEq,hfr,yx hx hy hq]
   ·have hq':=hq
    unfold ndE at hq'
    simp only [V0,Nat.reduceLT,Nat.reduceAdd,Nat.reduceMul,Nat.reduceLeDiff,Nat.reduceEqDiff,reduceCtorEq,hfr,h,zdk,za a h,za b h2,hrx,hry,eqp3,z7,hq',q1,q2,zch,zci]
    refine ⟨by simp [comm],?_⟩
    simp only [V0,Nat.reduceLT,Nat.reduceAdd,Nat.reduceMul,Nat.reduceLeDiff,Nat.reduceEqDiff,reduceCtorEq,hfr,eqp3,z7,hq',q1,q2,zci,hw]
    exact hnA _ (a.l.length - (i+1)) (by omega) ⟨i+1,_,by omega,by omega,yb ha hx hy hq,rfl,by simp only [V0,Nat.reduceLT,Nat.reduceAdd,Nat.reduceMul,Nat.reduceLeDiff,Nat.reduceEqDiff,reduceCtorEq,hfr,hw]⟩
  ·have hall:eqL ndE a.l b.l=true:=yw hle fun j u v hj hu hv=>ha j u v (by omega) hu hv
   simp only [V0,Nat.reduceLT,Nat.reduceAdd,Nat.reduceMul,Nat.reduceLeDiff,Nat.reduceEqDiff,reduceCtorEq,hfr,h,zdk]
   refine heA _ _ ?_
   simp only [V0,Nat.reduceLT,Nat.reduceAdd,Nat.reduceMul,Nat.reduceLeDiff,Nat.reduceEqDiff,reduceCtorEq,hfr,hall]
theorem ar_path (hS:NoS S) (a b:SlOf 2 Pt.c):GivesN S (a.l.length+4) 104 [a.v,b.v] (.bool (eqL ptE a.l b.l)):=by
 refine zd (i:=i104) (ns hS (by rfl)) rfl rfl (lb rfl) (a.l.length+3) (by omega) zk fun m hm d out t hfr=>?_
 simp only [V2,Nat.reduceAdd,i104] at hfr
 have haf:=a.few
 have hbf:=b.few
 have q1:(true != false)=true:=rfl
 have q2:(true != true)=false:=rfl
 cases hlen:((a.l.length:Nat):Int)==((b.l.length:Nat):Int)
 ·have hf:eqL ptE a.l b.l=false:=by
   rw [← zdy]
   intro h
   rw [yv h] at hlen
   simp at hlen
  simp only [i104,V0,Nat.reduceLT,Nat.reduceAdd,Nat.reduceMul,Nat.reduceLeDiff,Nat.reduceEqDiff,reduceCtorEq,hfr,z7,hlen,zch,hf]
 ·have hle:a.l.length=b.l.length:=by
   have:((a.l.length:Nat):Int)=((b.l.length:Nat):Int):=by simpa using hlen
   omega
  simp only [i104,V0,Nat.reduceLT,Nat.reduceAdd,Nat.reduceMul,Nat.reduceLeDiff,Nat.reduceEqDiff,reduceCtorEq,hfr,z7,hlen,zci]
  refine zb (fun jj st=>∃ (i:Nat) (O:yLO),a.l.length - i<=jj/\i<=a.l.length/\eqTo ptE a.l b.l i/\st.own=O/\Slots 26 st.t [(0,a.v),(1,b.v),(5,iv i)]) a.l.length (by omega) ⟨0,_,by omega,by omega,Zb,rfl,by simp only [V0,Nat.reduceLT,Nat.reduceAdd,Nat.reduceMul,Nat.reduceLeDiff,Nat.reduceEqDiff,reduceCtorEq,hfr,zcp]⟩ ?_
  clear hfr
  rintro jj ⟨t,own⟩ KA ⟨i,O,hjj,hi,ha,ho,hfr⟩ hnA heA hrA
  dsimp only at ho hfr
  subst ho
  simp only [V3] at hfr
  by_cases h:i<a.l.length
  ·have h2:i<b.l.length:=by omega
   obtain ⟨x,hx⟩:=gx (l:=a.l) (i:=i) h
   obtain ⟨y,hy⟩:=gx (l:=b.l) (i:=i) h2
   have hrx:rdN (a.l.flatMap Pt.c) (i*2) 2=some [.int .i64 x.x,.int .i64 x.y]:=(zc Pt.c_len 0 2 hx (by omega)).trans rfl
   have hry:rdN (b.l.flatMap Pt.c) (i*2) 2=some [.int .i64 y.x,.int .i64 y.y]:=(zc Pt.c_len 0 2 hy (by omega)).trans rfl
   have hw:wrapI .i64 ((i:Int)+1)=((i+1:Nat):Int):=we
   cases hq:ptE x y
   ·have hq':=hq
    unfold ptE at hq'
    simp only [V0,Nat.reduceLT,Nat.reduceAdd,Nat.reduceMul,Nat.reduceLeDiff,Nat.reduceEqDiff,reduceCtorEq,hfr,h,zdk,za a h,za b h2,hrx,hry,zI,z7,hq',q1,q2,zch,zci]
    refine ⟨by simp [comm],?_⟩
    simp only [V0,Nat.reduceLT,Nat.reduceAdd,Nat.reduceMul,Nat.reduceLeDiff,Nat.reduceEqDiff,reduceCtorEq,hfr,zI,z7,hq',q1,q2,zch]
    refine hrA _ ?_
    simp only [V0,Nat.reduceLT,Nat.reduceAdd,Nat.reduceMul,Nat.reduceLeDiff,Nat.reduceEqDiff,reduceCtorEq,hfr,yx hx hy hq]
   ·have hq':=hq
    unfold ptE at hq'
    simp only [V0,Nat.reduceLT,Nat.reduceAdd,Nat.reduceMul,Nat.reduceLeDiff,Nat.reduceEqDiff,reduceCtorEq,hfr,h,zdk,za a h,za b h2,hrx,hry,zI,z7,hq',q1,q2,zch,zci]
    refine ⟨by simp [comm],?_⟩
    simp only [V0,Nat.reduceLT,Nat.reduceAdd,Nat.reduceMul,Nat.reduceLeDiff,Nat.reduceEqDiff,reduceCtorEq,hfr,zI,z7,hq',q1,q2,zci,hw]
    exact hnA _ (a.l.length - (i+1)) (by omega) ⟨i+1,_,by omega,by omega,yb ha hx hy hq,rfl,by simp only [V0,Nat.reduceLT,Nat.reduceAdd,Nat.reduceMul,Nat.reduceLeDiff,Nat.reduceEqDiff,reduceCtorEq,hfr,hw]⟩
  ·have hall:eqL ptE a.l b.l=true:=yw hle fun j u v hj hu hv=>ha j u v (by omega) hu hv
   simp only [V0,Nat.reduceLT,Nat.reduceAdd,Nat.reduceMul,Nat.reduceLeDiff,Nat.reduceEqDiff,reduceCtorEq,hfr,h,zdk]
   refine heA _ _ ?_
   simp only [V0,Nat.reduceLT,Nat.reduceAdd,Nat.reduceMul,Nat.reduceLeDiff,Nat.reduceEqDiff,reduceCtorEq,hfr,hall]
theorem ar_ints (hS:NoS S) (a b:SlOf 1 intc):GivesN S (a.l.length+4) 15 [a.v,b.v] (.bool (eqL intE a.l b.l)):=by
 refine zd (i:=i15) (ns hS (by rfl)) rfl rfl (lb rfl) (a.l.length+3) (by omega) zk fun m hm d out t hfr=>?_
 simp only [V2,Nat.reduceAdd,i15] at hfr
 have haf:=a.few
 have hbf:=b.few
 have q1:(true != false)=true:=rfl
 have q2:(true != true)=false:=rfl
 cases hlen:((a.l.length:Nat):Int)==((b.l.length:Nat):Int)
 ·have hf:eqL intE a.l b.l=false:=by
   rw [← zdy]
   intro h
   rw [yv h] at hlen
   simp at hlen
  simp only [i15,V0,Nat.reduceLT,Nat.reduceAdd,Nat.reduceMul,Nat.reduceLeDiff,Nat.reduceEqDiff,reduceCtorEq,hfr,z7,hlen,zch,hf]
 ·have hle:a.l.length=b.l.length:=by
   have:((a.l.length:Nat):Int)=((b.l.length:Nat):Int):=by simpa using hlen
   omega
  simp only [i15,V0,Nat.reduceLT,Nat.reduceAdd,Nat.reduceMul,Nat.reduceLeDiff,Nat.reduceEqDiff,reduceCtorEq,hfr,z7,hlen,zci]
  refine zb (fun jj st=>∃ (i:Nat) (O:yLO),a.l.length - i<=jj/\i<=a.l.length/\eqTo intE a.l b.l i/\st.own=O/\Slots 26 st.t [(0,a.v),(1,b.v),(5,iv i)]) a.l.length (by omega) ⟨0,_,by omega,by omega,Zb,rfl,by simp only [V0,Nat.reduceLT,Nat.reduceAdd,Nat.reduceMul,Nat.reduceLeDiff,Nat.reduceEqDiff,reduceCtorEq,hfr,zcp]⟩ ?_
  clear hfr
  rintro jj ⟨t,own⟩ KA ⟨i,O,hjj,hi,ha,ho,hfr⟩ hnA heA hrA
  dsimp only at ho hfr
  subst ho
  simp only [V3] at hfr
  by_cases h:i<a.l.length
  ·have h2:i<b.l.length:=by omega
   obtain ⟨x,hx⟩:=gx (l:=a.l) (i:=i) h
   obtain ⟨y,hy⟩:=gx (l:=b.l) (i:=i) h2
   have hrx:rdN (a.l.flatMap intc) (i*1) 1=some [.int .i64 x]:=(zc zj 0 1 hx (by omega)).trans rfl
   have hry:rdN (b.l.flatMap intc) (i*1) 1=some [.int .i64 y]:=(zc zj 0 1 hy (by omega)).trans rfl
   have hw:wrapI .i64 ((i:Int)+1)=((i+1:Nat):Int):=we
   cases hq:intE x y
   ·have hq':=hq
    unfold intE at hq'
    simp only [V0,Nat.reduceLT,Nat.reduceAdd,Nat.reduceMul,Nat.reduceLeDiff,Nat.reduceEqDiff,reduceCtorEq,hfr,h,zdk,za a h,za b h2,hrx,hry,z7,hq',q1,q2,zch,zci]
    refine ⟨by simp [comm],?_⟩
    simp only [V0,Nat.reduceLT,Nat.reduceAdd,Nat.reduceMul,Nat.reduceLeDiff,Nat.reduceEqDiff,reduceCtorEq,hfr,z7,hq',q1,q2,zch]
    refine hrA _ ?_
    simp only [V0,Nat.reduceLT,Nat.reduceAdd,Nat.reduceMul,Nat.reduceLeDiff,Nat.reduceEqDiff,reduceCtorEq,hfr,yx hx hy hq]
   ·have hq':=hq
    unfold intE at hq'
    simp only [V0,Nat.reduceLT,Nat.reduceAdd,Nat.reduceMul,Nat.reduceLeDiff,Nat.reduceEqDiff,reduceCtorEq,hfr,h,zdk,za a h,za b h2,hrx,hry,z7,hq',q1,q2,zch,zci]
    refine ⟨by simp [comm],?_⟩
    simp only [V0,Nat.reduceLT,Nat.reduceAdd,Nat.reduceMul,Nat.reduceLeDiff,Nat.reduceEqDiff,reduceCtorEq,hfr,z7,hq',q1,q2,zci,hw]
    exact hnA _ (a.l.length - (i+1)) (by omega) ⟨i+1,_,by omega,by omega,yb ha hx hy hq,rfl,by simp only [V0,Nat.reduceLT,Nat.reduceAdd,Nat.reduceMul,Nat.reduceLeDiff,Nat.reduceEqDiff,reduceCtorEq,hfr,hw]⟩
  ·have hall:eqL intE a.l b.l=true:=yw hle fun j u v hj hu hv=>ha j u v (by omega) hu hv
   simp only [V0,Nat.reduceLT,Nat.reduceAdd,Nat.reduceMul,Nat.reduceLeDiff,Nat.reduceEqDiff,reduceCtorEq,hfr,h,zdk]
   refine heA _ _ ?_
   simp only [V0,Nat.reduceLT,Nat.reduceAdd,Nat.reduceMul,Nat.reduceLeDiff,Nat.reduceEqDiff,reduceCtorEq,hfr,hall]
end
end
section
def acE (a b:Ac):Bool:=(a.id==b.id)&&((a.fr==b.fr)&&((a.to==b.to)&&((a.l==b.l)&&((a.r==b.r)&&eqL ptE a.via.l b.via.l))))
def ftE (f g:Ft):Bool:=(f.id==g.id)&&((f.kind==g.kind)&&((f.cls==g.cls)&&((f.name.1.toList==g.name.1.toList)&&eqL intE f.parts.l g.parts.l)))
section
variable {S:ySM}
theorem at_acE (hS:NoS S) (a b:Ac):GivesN S (a.via.l.length+8) 67 [.agg a.c,.agg b.c] (.bool (acE a b)):=by
 refine zd (i:=i67) (ns hS (by rfl)) rfl rfl (lb rfl) (a.via.l.length+7) (by omega) zk fun m hm d out t hfr=>?_
 simp only [V2,Nat.reduceAdd,i67,Ac.c,zo] at hfr
 have c0:=at_eqP hS a.via b.via m (by omega)
 unfold acE
 cases h0:a.id==b.id
 ·simp only [i67,V0,Nat.reduceLT,Nat.reduceAdd,Nat.reduceMul,Nat.reduceLeDiff,Nat.reduceEqDiff,reduceCtorEq,strBin,hfr,c0,h0,zcg,zcn]
 ·skip
  cases h1:a.fr==b.fr
  ·simp only [i67,V0,Nat.reduceLT,Nat.reduceAdd,Nat.reduceMul,Nat.reduceLeDiff,Nat.reduceEqDiff,reduceCtorEq,strBin,hfr,c0,h0,h1,zcg,zcn]
  ·skip
   cases h2:a.to==b.to
   ·simp only [i67,V0,Nat.reduceLT,Nat.reduceAdd,Nat.reduceMul,Nat.reduceLeDiff,Nat.reduceEqDiff,reduceCtorEq,strBin,hfr,c0,h0,h1,h2,zcg,zcn]
   ·skip
    cases h3:a.l==b.l
    ·simp only [i67,V0,Nat.reduceLT,Nat.reduceAdd,Nat.reduceMul,Nat.reduceLeDiff,Nat.reduceEqDiff,reduceCtorEq,strBin,hfr,c0,h0,h1,h2,h3,zcg,zcn]
    ·skip
     cases h4:a.r==b.r
     ·simp only [i67,V0,Nat.reduceLT,Nat.reduceAdd,Nat.reduceMul,Nat.reduceLeDiff,Nat.reduceEqDiff,reduceCtorEq,strBin,hfr,c0,h0,h1,h2,h3,h4,zcg,zcn]
     ·skip
      simp only [i67,V0,Nat.reduceLT,Nat.reduceAdd,Nat.reduceMul,Nat.reduceLeDiff,Nat.reduceEqDiff,reduceCtorEq,strBin,hfr,c0,h0,h1,h2,h3,h4,zcn]
theorem ar_acE (hS:NoS S) (a b:Ac):GivesN S (a.via.l.length+8) 71 [.agg a.c,.agg b.c] (.bool (acE a b)):=by
 refine zd (i:=i71) (ns hS (by rfl)) rfl rfl (lb rfl) (a.via.l.length+7) (by omega) zk fun m hm d out t hfr=>?_
 simp only [V2,Nat.reduceAdd,i71,Ac.c,zo] at hfr
 have c0:=ar_path hS a.via b.via m (by omega)
 unfold acE
 cases h0:a.id==b.id
 ·simp only [i71,V0,Nat.reduceLT,Nat.reduceAdd,Nat.reduceMul,Nat.reduceLeDiff,Nat.reduceEqDiff,reduceCtorEq,strBin,hfr,c0,h0,zcg,zcn]
 ·skip
  cases h1:a.fr==b.fr
  ·simp only [i71,V0,Nat.reduceLT,Nat.reduceAdd,Nat.reduceMul,Nat.reduceLeDiff,Nat.reduceEqDiff,reduceCtorEq,strBin,hfr,c0,h0,h1,zcg,zcn]
  ·skip
   cases h2:a.to==b.to
   ·simp only [i71,V0,Nat.reduceLT,Nat.reduceAdd,Nat.reduceMul,Nat.reduceLeDiff,Nat.reduceEqDiff,reduceCtorEq,strBin,hfr,c0,h0,h1,h2,zcg,zcn]
   ·skip
    cases h3:a.l==b.l
    ·simp only [i71,V0,Nat.reduceLT,Nat.reduceAdd,Nat.reduceMul,Nat.reduceLeDiff,Nat.reduceEqDiff,reduceCtorEq,strBin,hfr,c0,h0,h1,h2,h3,zcg,zcn]
    ·skip
     cases h4:a.r==b.r
     ·simp only [i71,V0,Nat.reduceLT,Nat.reduceAdd,Nat.reduceMul,Nat.reduceLeDiff,Nat.reduceEqDiff,reduceCtorEq,strBin,hfr,c0,h0,h1,h2,h3,h4,zcg,zcn]
     ·skip
      simp only [i71,V0,Nat.reduceLT,Nat.reduceAdd,Nat.reduceMul,Nat.reduceLeDiff,Nat.reduceEqDiff,reduceCtorEq,strBin,hfr,c0,h0,h1,h2,h3,h4,zcn]
theorem at_ftE (hS:NoS S) (a b:Ft):GivesN S (a.parts.l.length+8) 29 [.agg a.c,.agg b.c] (.bool (ftE a b)):=by
 refine zd (i:=i29) (ns hS (by rfl)) rfl rfl (lb rfl) (a.parts.l.length+7) (by omega) zk fun m hm d out t hfr=>?_
 simp only [V2,Nat.reduceAdd,i29,Ft.c,zo] at hfr
 have c0:=at_eqI hS a.parts b.parts m (by omega)
 unfold ftE
 cases h0:a.id==b.id
 ·simp only [i29,V0,Nat.reduceLT,Nat.reduceAdd,Nat.reduceMul,Nat.reduceLeDiff,Nat.reduceEqDiff,reduceCtorEq,strBin,hfr,c0,h0,zcg,zcn]
 ·skip
  cases h1:a.kind==b.kind
  ·simp only [i29,V0,Nat.reduceLT,Nat.reduceAdd,Nat.reduceMul,Nat.reduceLeDiff,Nat.reduceEqDiff,reduceCtorEq,strBin,hfr,c0,h0,h1,zcg,zcn]
  ·skip
   cases h2:a.cls==b.cls
   ·simp only [i29,V0,Nat.reduceLT,Nat.reduceAdd,Nat.reduceMul,Nat.reduceLeDiff,Nat.reduceEqDiff,reduceCtorEq,strBin,hfr,c0,h0,h1,h2,zcg,zcn]
   ·skip
    cases h3:a.name.1.toList==b.name.1.toList
    ·simp only [i29,V0,Nat.reduceLT,Nat.reduceAdd,Nat.reduceMul,Nat.reduceLeDiff,Nat.reduceEqDiff,reduceCtorEq,strBin,hfr,c0,h0,h1,h2,h3,zcg,zcn]
    ·skip
     simp only [i29,V0,Nat.reduceLT,Nat.reduceAdd,Nat.reduceMul,Nat.reduceLeDiff,Nat.reduceEqDiff,reduceCtorEq,strBin,hfr,c0,h0,h1,h2,h3,zcn]
theorem ar_ftE (hS:NoS S) (a b:Ft):GivesN S (a.parts.l.length+8) 32 [.agg a.c,.agg b.c] (.bool (ftE a b)):=by
 refine zd (i:=i32) (ns hS (by rfl)) rfl rfl (lb rfl) (a.parts.l.length+7) (by omega) zk fun m hm d out t hfr=>?_
 simp only [V2,Nat.reduceAdd,i32,Ft.c,zo] at hfr
 have c0:=ar_ints hS a.parts b.parts m (by omega)
 unfold ftE
 cases h0:a.id==b.id
 ·simp only [i32,V0,Nat.reduceLT,Nat.reduceAdd,Nat.reduceMul,Nat.reduceLeDiff,Nat.reduceEqDiff,reduceCtorEq,strBin,hfr,c0,h0,zcg,zcn]
 ·skip
  cases h1:a.kind==b.kind
  ·simp only [i32,V0,Nat.reduceLT,Nat.reduceAdd,Nat.reduceMul,Nat.reduceLeDiff,Nat.reduceEqDiff,reduceCtorEq,strBin,hfr,c0,h0,h1,zcg,zcn]
  ·skip
   cases h2:a.cls==b.cls
   ·simp only [i32,V0,Nat.reduceLT,Nat.reduceAdd,Nat.reduceMul,Nat.reduceLeDiff,Nat.reduceEqDiff,reduceCtorEq,strBin,hfr,c0,h0,h1,h2,zcg,zcn]
   ·skip
    cases h3:a.name.1.toList==b.name.1.toList
    ·simp only [i32,V0,Nat.reduceLT,Nat.reduceAdd,Nat.reduceMul,Nat.reduceLeDiff,Nat.reduceEqDiff,reduceCtorEq,strBin,hfr,c0,h0,h1,h2,h3,zcg,zcn]
    ·skip
     simp only [i32,V0,Nat.reduceLT,Nat.reduceAdd,Nat.reduceMul,Nat.reduceLeDiff,Nat.reduceEqDiff,reduceCtorEq,strBin,hfr,c0,h0,h1,h2,h3,zcn]
theorem at_eqA (hS:NoS S) (a b:SlOf 6 Ac.c) (M:Nat) (hM:∀ x∈a.l,x.via.l.length<=M):GivesN S (a.l.length+M+14) 70 [a.v,b.v,.fn 67 [] []] (.bool (eqL acE a.l b.l)):=by
 refine zd (i:=i70) (ns hS (by rfl)) rfl rfl (lb rfl) (a.l.length+M+13) (by omega) zk fun m hm d out t hfr=>?_
 simp only [V2,Nat.reduceAdd,i70] at hfr
 have haf:=a.few
 have hbf:=b.few
 cases hlen:((a.l.length:Nat):Int)==((b.l.length:Nat):Int)
 ·have hf:eqL acE a.l b.l=false:=by
   rw [← zdy]
   intro h
   rw [yv h] at hlen
   simp at hlen
  simp only [i70,V0,Nat.reduceLT,Nat.reduceAdd,Nat.reduceMul,Nat.reduceLeDiff,Nat.reduceEqDiff,reduceCtorEq,hfr,z7,hlen,zch,hf]
 ·have hle:a.l.length=b.l.length:=by
   have:((a.l.length:Nat):Int)=((b.l.length:Nat):Int):=by simpa using hlen
   omega
  simp only [i70,V0,Nat.reduceLT,Nat.reduceAdd,Nat.reduceMul,Nat.reduceLeDiff,Nat.reduceEqDiff,reduceCtorEq,hfr,z7,hlen,zci]
  refine zb (fun jj st=>∃ (i:Nat) (O:yLO),a.l.length - i<=jj/\i<=a.l.length/\eqTo acE a.l b.l i/\st.own=O/\Slots 32 st.t [(1,b.v),(2,.fn 67 [] []),(15,a.v),(16,iv (a.l.length:Nat)),(17,iv i)]) a.l.length (by omega) ⟨0,_,by omega,by omega,Zb,rfl,by simp only [V0,Nat.reduceLT,Nat.reduceAdd,Nat.reduceMul,Nat.reduceLeDiff,Nat.reduceEqDiff,reduceCtorEq,hfr,zcp]⟩ ?_
  clear hfr
  rintro jj ⟨t,own⟩ KA ⟨i,O,hjj,hi,ha,ho,hfr⟩ hnA heA hrA
  dsimp only at ho hfr
  subst ho
  simp only [V3] at hfr
  by_cases h:i<a.l.length
  ·have h2:i<b.l.length:=by omega
   have hx:a.l[i]?=some a.l[i]:=zce h
   have hxm:=hM _ (zdr h)
   generalize a.l[i]=x at hx hxm
   obtain ⟨y,hy⟩:=gx (l:=b.l) (i:=i) h2
   have hrx:rdN (a.l.flatMap Ac.c) (i*6) 6=some [.int .i64 x.id,.int .i64 x.fr,.int .i64 x.to,x.via.v,.int .i64 x.l,.int .i64 x.r]:=(zc Ac.c_len 0 6 hx (by omega)).trans rfl
   have hry:rdN (b.l.flatMap Ac.c) (i*6) 6=some [.int .i64 y.id,.int .i64 y.fr,.int .i64 y.to,y.via.v,.int .i64 y.l,.int .i64 y.r]:=(zc Ac.c_len 0 6 hy (by omega)).trans rfl
   have hw:wrapI .i64 ((i:Int)+1)=((i+1:Nat):Int):=we
   have cc:=at_acE hS x y m (by omega)
   simp only [Ac.c,zo] at cc
   have gE:∀ (z:IObj) (r:yLO),(own++z::r)[own.length]?=some z:=fun z r=>ZZ
   have gE1:∀ (y z:IObj) (r:yLO),(own++y::z::r)[own.length+1]?=some z:=fun y z r=>YA
   cases hq:acE x y
   ·simp only [V0,Nat.reduceLT,Nat.reduceAdd,Nat.reduceMul,Nat.reduceLeDiff,Nat.reduceEqDiff,reduceCtorEq,hfr,h,zdk,za a h,za b h2,hrx,hry,cc,hq,gE,gE1,zch,zdg,zc5,zdh]
    refine hrA _ ?_
    simp only [V0,Nat.reduceLT,Nat.reduceAdd,Nat.reduceMul,Nat.reduceLeDiff,Nat.reduceEqDiff,reduceCtorEq,hfr,yx hx hy hq]
   ·simp only [V0,Nat.reduceLT,Nat.reduceAdd,Nat.reduceMul,Nat.reduceLeDiff,Nat.reduceEqDiff,reduceCtorEq,hfr,h,zdk,za a h,za b h2,hrx,hry,cc,hq,gE,gE1,zci,zdg,zc5,zdh,hw]
    exact hnA _ (a.l.length - (i+1)) (by omega) ⟨i+1,_,by omega,by omega,yb ha hx hy hq,rfl,by simp only [V0,Nat.reduceLT,Nat.reduceAdd,Nat.reduceMul,Nat.reduceLeDiff,Nat.reduceEqDiff,reduceCtorEq,hfr,hw,cc,hq]⟩
  ·have hall:eqL acE a.l b.l=true:=yw hle fun j u v hj hu hv=>ha j u v (by omega) hu hv
   simp only [V0,Nat.reduceLT,Nat.reduceAdd,Nat.reduceMul,Nat.reduceLeDiff,Nat.reduceEqDiff,reduceCtorEq,hfr,h,zdk]
   refine heA _ _ ?_
   simp only [V0,Nat.reduceLT,Nat.reduceAdd,Nat.reduceMul,Nat.reduceLeDiff,Nat.reduceEqDiff,reduceCtorEq,hfr,hall]
theorem at_eqF (hS:NoS S) (a b:SlOf 5 Ft.c) (M:Nat) (hM:∀ x∈a.l,x.parts.l.length<=M):GivesN S (a.l.length+M+14) 28 [a.v,b.v,.fn 29 [] []] (.bool (eqL ftE a.l b.l)):=by
 refine zd (i:=i28) (ns hS (by rfl)) rfl rfl (lb rfl) (a.l.length+M+13) (by omega) zk fun m hm d out t hfr=>?_
 simp only [V2,Nat.reduceAdd,i28] at hfr
 have haf:=a.few
 have hbf:=b.few
 cases hlen:((a.l.length:Nat):Int)==((b.l.length:Nat):Int)
 ·have hf:eqL ftE a.l b.l=false:=by
   rw [← zdy]
   intro h
   rw [yv h] at hlen
   simp at hlen
  simp only [i28,V0,Nat.reduceLT,Nat.reduceAdd,Nat.reduceMul,Nat.reduceLeDiff,Nat.reduceEqDiff,reduceCtorEq,hfr,z7,hlen,zch,hf]
 ·have hle:a.l.length=b.l.length:=by
   have:((a.l.length:Nat):Int)=((b.l.length:Nat):Int):=by simpa using hlen
   omega
  simp only [i28,V0,Nat.reduceLT,Nat.reduceAdd,Nat.reduceMul,Nat.reduceLeDiff,Nat.reduceEqDiff,reduceCtorEq,hfr,z7,hlen,zci]
  refine zb (fun jj st=>∃ (i:Nat) (O:yLO),a.l.length - i<=jj/\i<=a.l.length/\eqTo ftE a.l b.l i/\st.own=O/\Slots 32 st.t [(1,b.v),(2,.fn 29 [] []),(15,a.v),(16,iv (a.l.length:Nat)),(17,iv i)]) a.l.length (by omega) ⟨0,_,by omega,by omega,Zb,rfl,by simp only [V0,Nat.reduceLT,Nat.reduceAdd,Nat.reduceMul,Nat.reduceLeDiff,Nat.reduceEqDiff,reduceCtorEq,hfr,zcp]⟩ ?_
  clear hfr
  rintro jj ⟨t,own⟩ KA ⟨i,O,hjj,hi,ha,ho,hfr⟩ hnA heA hrA
  dsimp only at ho hfr
  subst ho
  simp only [V3] at hfr
  by_cases h:i<a.l.length
  ·have h2:i<b.l.length:=by omega
   have hx:a.l[i]?=some a.l[i]:=zce h
   have hxm:=hM _ (zdr h)
   generalize a.l[i]=x at hx hxm
   obtain ⟨y,hy⟩:=gx (l:=b.l) (i:=i) h2
   have hrx:rdN (a.l.flatMap Ft.c) (i*5) 5=some [.int .i64 x.id,.int .i64 x.kind,.int .i64 x.cls,.str x.name.1,x.parts.v]:=(zc Ft.c_len 0 5 hx (by omega)).trans rfl
   have hry:rdN (b.l.flatMap Ft.c) (i*5) 5=some [.int .i64 y.id,.int .i64 y.kind,.int .i64 y.cls,.str y.name.1,y.parts.v]:=(zc Ft.c_len 0 5 hy (by omega)).trans rfl
   have hw:wrapI .i64 ((i:Int)+1)=((i+1:Nat):Int):=we
   have cc:=at_ftE hS x y m (by omega)
   simp only [Ft.c,zo] at cc
   have gE:∀ (z:IObj) (r:yLO),(own++z::r)[own.length]?=some z:=fun z r=>ZZ
   have gE1:∀ (y z:IObj) (r:yLO),(own++y::z::r)[own.length+1]?=some z:=fun y z r=>YA
   cases hq:ftE x y
   ·simp only [V0,Nat.reduceLT,Nat.reduceAdd,Nat.reduceMul,Nat.reduceLeDiff,Nat.reduceEqDiff,reduceCtorEq,hfr,h,zdk,za a h,za b h2,hrx,hry,cc,hq,gE,gE1,zch,zdg,zc5,zdh]
    refine hrA _ ?_
    simp only [V0,Nat.reduceLT,Nat.reduceAdd,Nat.reduceMul,Nat.reduceLeDiff,Nat.reduceEqDiff,reduceCtorEq,hfr,yx hx hy hq]
   ·simp only [V0,Nat.reduceLT,Nat.reduceAdd,Nat.reduceMul,Nat.reduceLeDiff,Nat.reduceEqDiff,reduceCtorEq,hfr,h,zdk,za a h,za b h2,hrx,hry,cc,hq,gE,gE1,zci,zdg,zc5,zdh,hw]
    exact hnA _ (a.l.length - (i+1)) (by omega) ⟨i+1,_,by omega,by omega,yb ha hx hy hq,rfl,by simp only [V0,Nat.reduceLT,Nat.reduceAdd,Nat.reduceMul,Nat.reduceLeDiff,Nat.reduceEqDiff,reduceCtorEq,hfr,hw,cc,hq]⟩
  ·have hall:eqL ftE a.l b.l=true:=yw hle fun j u v hj hu hv=>ha j u v (by omega) hu hv
   simp only [V0,Nat.reduceLT,Nat.reduceAdd,Nat.reduceMul,Nat.reduceLeDiff,Nat.reduceEqDiff,reduceCtorEq,hfr,h,zdk]
   refine heA _ _ ?_
   simp only [V0,Nat.reduceLT,Nat.reduceAdd,Nat.reduceMul,Nat.reduceLeDiff,Nat.reduceEqDiff,reduceCtorEq,hfr,hall]
end
end
section
def plSame (p q:Pn):Bool:=eqL ndE p.ns.l q.ns.l&&(eqL acE p.as.l q.as.l&&eqL intE p.fs.l q.fs.l)
def svSame (s t:Sv):Bool:=plSame s.pl t.pl&&eqL ftE s.ft.l t.ft.l
section
variable {S:ySM}
theorem at_plSame (hS:NoS S) (p q:Pn) (M:Nat) (hM:∀ x∈p.as.l,x.via.l.length<=M):GivesN S (p.ns.l.length+p.as.l.length+p.fs.l.length+M+30) 27 [.agg p.c,.agg q.c] (.bool (plSame p q)):=by
 refine zd (i:=i27) (ns hS (by rfl)) rfl rfl (lb rfl) (p.ns.l.length+p.as.l.length+p.fs.l.length+M+29) (by omega) zk fun m hm d out t hfr=>?_
 simp only [V2,Nat.reduceAdd,i27,Pn.c] at hfr
 have c1:=at_eqN hS p.ns q.ns m (by omega)
 have c2:=at_eqA hS p.as q.as M hM m (by omega)
 have c3:=at_eqI hS p.fs q.fs m (by omega)
 unfold plSame
 cases h1:eqL ndE p.ns.l q.ns.l
 ·simp only [i27,V0,Nat.reduceLT,Nat.reduceAdd,Nat.reduceMul,Nat.reduceLeDiff,Nat.reduceEqDiff,reduceCtorEq,hfr,c1,h1,zcg]
 ·cases h2:eqL acE p.as.l q.as.l
  ·simp only [i27,V0,Nat.reduceLT,Nat.reduceAdd,Nat.reduceMul,Nat.reduceLeDiff,Nat.reduceEqDiff,reduceCtorEq,hfr,c1,c2,h1,h2,zcg,zcn]
  ·simp only [i27,V0,Nat.reduceLT,Nat.reduceAdd,Nat.reduceMul,Nat.reduceLeDiff,Nat.reduceEqDiff,reduceCtorEq,hfr,c1,c2,c3,h1,h2,zcn]
theorem Y5 (hS:NoS S) (s t:Sv) (M:Nat) (hM:∀ x∈s.pl.as.l,x.via.l.length<=M) (hP:∀ x∈s.ft.l,x.parts.l.length<=M):GivesN S (s.pl.ns.l.length+s.pl.as.l.length+s.pl.fs.l.length+s.ft.l.length+M+40) 8 [.agg s.c,.agg t.c] (.bool (svSame s t)):=by
 refine zd (i:=i8) (ns hS (by rfl)) rfl rfl (lb rfl) (s.pl.ns.l.length+s.pl.as.l.length+s.pl.fs.l.length+s.ft.l.length+M+39) (by omega) zk fun m hm d out tt hfr=>?_
 simp only [V2,Nat.reduceAdd,i8,Sv.c] at hfr
 have c1:=at_plSame hS s.pl t.pl M hM m (by omega)
 have c2:=at_eqF hS s.ft t.ft M hP m (by omega)
 simp only [Pn.c] at c1
 unfold svSame
 cases h1:plSame s.pl t.pl
 ·simp only [i8,V0,Nat.reduceLT,Nat.reduceAdd,Nat.reduceMul,Nat.reduceLeDiff,Nat.reduceEqDiff,reduceCtorEq,hfr,c1,h1,zcg]
 ·simp only [i8,V0,Nat.reduceLT,Nat.reduceAdd,Nat.reduceMul,Nat.reduceLeDiff,Nat.reduceEqDiff,reduceCtorEq,hfr,c1,c2,h1,zcn]
theorem ar_plSame (hS:NoS S) (p q:Pn) (M:Nat) (hM:∀ x∈p.as.l,x.via.l.length<=M):GivesN S (p.ns.l.length+p.as.l.length+p.fs.l.length+M+30) 31 [.agg p.c,.agg q.c] (.bool (plSame p q)):=by
 refine zd (i:=i31) (ns hS (by rfl)) rfl rfl (lb rfl) (p.ns.l.length+p.as.l.length+p.fs.l.length+M+29) (by omega) zk fun m hm d out t hfr=>?_
 simp only [V2,Nat.reduceAdd,i31,Pn.c] at hfr
 have f1:=p.ns.few
 have f2:=p.as.few
 have f3:=p.fs.few
 have q1:(true != false)=true:=rfl
 have q2:(true != true)=false:=rfl
 have hle:∀ {n k:Nat},(((n:Nat):Int)==((k:Nat):Int))=true->n=k:=fun {n k} h=>by
  have:((n:Nat):Int)=((k:Nat):Int):=by simpa using h
  omega
 have hne:∀ {n k:Nat},(((n:Nat):Int)==((k:Nat):Int))=false->n≠k:=fun {n k} h e=>by
  subst e
  simp at h
 cases g1:((p.ns.l.length:Nat):Int)==((q.ns.l.length:Nat):Int)
 ·have hf:plSame p q=false:=by
   unfold plSame
   cases h:eqL ndE p.ns.l q.ns.l
   ·rfl
   ·exact absurd (yv h) (hne g1)
  simp only [i31,V0,Nat.reduceLT,Nat.reduceAdd,Nat.reduceMul,Nat.reduceLeDiff,Nat.reduceEqDiff,reduceCtorEq,hfr,z7,g1,zch,hf]
 ·cases g2:((p.as.l.length:Nat):Int)==((q.as.l.length:Nat):Int)
  ·have hf:plSame p q=false:=by
    unfold plSame
    cases h:eqL acE p.as.l q.as.l
    ·rw [zcg,zc4]
    ·exact absurd (yv h) (hne g2)
   simp only [i31,V0,Nat.reduceLT,Nat.reduceAdd,Nat.reduceMul,Nat.reduceLeDiff,Nat.reduceEqDiff,reduceCtorEq,hfr,z7,g1,g2,zch,zci,hf]
  ·cases g3:((p.fs.l.length:Nat):Int)==((q.fs.l.length:Nat):Int)
   ·have hf:plSame p q=false:=by
     unfold plSame
     cases h:eqL intE p.fs.l q.fs.l
     ·rw [zc4,zc4]
     ·exact absurd (yv h) (hne g3)
    simp only [i31,V0,Nat.reduceLT,Nat.reduceAdd,Nat.reduceMul,Nat.reduceLeDiff,Nat.reduceEqDiff,reduceCtorEq,hfr,z7,g1,g2,g3,zch,zci,hf]
   ·have l1:=hle g1
    have l2:=hle g2
    have l3:=hle g3
    simp only [i31,V0,Nat.reduceLT,Nat.reduceAdd,Nat.reduceMul,Nat.reduceLeDiff,Nat.reduceEqDiff,reduceCtorEq,hfr,z7,g1,g2,g3,zci]
    refine zb (fun jj st=>∃ (i:Nat) (O:yLO),p.ns.l.length - i<=jj/\i<=p.ns.l.length/\eqTo ndE p.ns.l q.ns.l i/\st.own=.cells [p.ns.v,p.as.v,p.fs.v]::.cells [q.ns.v,q.as.v,q.fs.v]::O/\Slots 88 st.t [(2,.ptrM d 0 0),(3,.ptrM d 1 0),(5,iv i)]) p.ns.l.length (by omega) ⟨0,_,by omega,by omega,Zb,rfl,by simp only [V0,Nat.reduceLT,Nat.reduceAdd,Nat.reduceMul,Nat.reduceLeDiff,Nat.reduceEqDiff,reduceCtorEq,hfr,zcp]⟩ ?_
    clear hfr
    rintro jj ⟨t,own⟩ KA ⟨i,O,hjj,hi,ha,ho,hfr⟩ hnA heA hrA
    dsimp only at ho hfr
    subst ho
    simp only [V3] at hfr
    by_cases h:i<p.ns.l.length
    ·have h2:i<q.ns.l.length:=by omega
     obtain ⟨x,hx⟩:=gx (l:=p.ns.l) (i:=i) h
     obtain ⟨y,hy⟩:=gx (l:=q.ns.l) (i:=i) h2
     have hrx:rdN (p.ns.l.flatMap Nd.c) (i*3) 3=some [.int .i64 x.id,.int .i64 x.at'.x,.int .i64 x.at'.y]:=(zc Nd.c_len 0 3 hx (by omega)).trans rfl
     have hry:rdN (q.ns.l.flatMap Nd.c) (i*3) 3=some [.int .i64 y.id,.int .i64 y.at'.x,.int .i64 y.at'.y]:=(zc Nd.c_len 0 3 hy (by omega)).trans rfl
     have hw:wrapI .i64 ((i:Int)+1)=((i+1:Nat):Int):=we
     cases hq:ndE x y
     ·skip
      have hq':=hq
      unfold ndE at hq'
      have hf:plSame p q=false:=by
       unfold plSame
       rw [yx hx hy hq,zcg]
      simp only [V0,Nat.reduceLT,Nat.reduceAdd,Nat.reduceMul,Nat.reduceLeDiff,Nat.reduceEqDiff,reduceCtorEq,hfr,h,zdk,za p.ns h,za q.ns h2,hrx,hry,eqp3,hq',q1,q2,zch,zci]
      refine ⟨by simp [comm],?_⟩
      simp only [V0,Nat.reduceLT,Nat.reduceAdd,Nat.reduceMul,Nat.reduceLeDiff,Nat.reduceEqDiff,reduceCtorEq,hfr,eqp3,hq',q1,q2,zch]
      refine hrA _ ?_
      simp only [V0,Nat.reduceLT,Nat.reduceAdd,Nat.reduceMul,Nat.reduceLeDiff,Nat.reduceEqDiff,reduceCtorEq,hfr,hf]
     ·skip
      have hq':=hq
      unfold ndE at hq'
      simp only [V0,Nat.reduceLT,Nat.reduceAdd,Nat.reduceMul,Nat.reduceLeDiff,Nat.reduceEqDiff,reduceCtorEq,hfr,h,zdk,za p.ns h,za q.ns h2,hrx,hry,eqp3,hq',q1,q2,zch,zci]
      refine ⟨by simp [comm],?_⟩
      simp only [V0,Nat.reduceLT,Nat.reduceAdd,Nat.reduceMul,Nat.reduceLeDiff,Nat.reduceEqDiff,reduceCtorEq,hfr,eqp3,hq',q1,q2,zci,hw]
      exact hnA _ (p.ns.l.length - (i+1)) (by omega) ⟨i+1,_,by omega,by omega,yb ha hx hy hq,rfl,by simp only [V0,Nat.reduceLT,Nat.reduceAdd,Nat.reduceMul,Nat.reduceLeDiff,Nat.reduceEqDiff,reduceCtorEq,hfr,hw]⟩
    ·have e_ns:eqL ndE p.ns.l q.ns.l=true:=yw l1 fun j u v hj hu hv=>ha j u v (by omega) hu hv
     simp only [V0,Nat.reduceLT,Nat.reduceAdd,Nat.reduceMul,Nat.reduceLeDiff,Nat.reduceEqDiff,reduceCtorEq,hfr,h,zdk]
     refine heA _ _ ?_
     simp only [V0,Nat.reduceLT,Nat.reduceAdd,Nat.reduceMul,Nat.reduceLeDiff,Nat.reduceEqDiff,reduceCtorEq,hfr]
     refine zb (fun jj st=>∃ (i:Nat) (O:yLO),p.as.l.length - i<=jj/\i<=p.as.l.length/\eqTo acE p.as.l q.as.l i/\st.own=.cells [p.ns.v,p.as.v,p.fs.v]::.cells [q.ns.v,q.as.v,q.fs.v]::O/\Slots 88 st.t [(2,.ptrM d 0 0),(3,.ptrM d 1 0),(6,iv i)]) p.as.l.length (by omega) ⟨0,_,by omega,by omega,Zb,rfl,by simp only [V0,Nat.reduceLT,Nat.reduceAdd,Nat.reduceMul,Nat.reduceLeDiff,Nat.reduceEqDiff,reduceCtorEq,hfr,zcp]⟩ ?_
     clear hfr hnA heA hrA ha hi hjj
     rintro jj ⟨t,own⟩ KA ⟨i,O,hjj,hi,ha,ho,hfr⟩ hnA heA hrA
     dsimp only at ho hfr
     subst ho
     simp only [V3] at hfr
     by_cases h:i<p.as.l.length
     ·have h2:i<q.as.l.length:=by omega
      have hx:p.as.l[i]?=some p.as.l[i]:=zce h
      have hxm:=hM _ (zdr h)
      generalize p.as.l[i]=x at hx hxm
      obtain ⟨y,hy⟩:=gx (l:=q.as.l) (i:=i) h2
      have hrx:rdN (p.as.l.flatMap Ac.c) (i*6) 6=some [.int .i64 x.id,.int .i64 x.fr,.int .i64 x.to,x.via.v,.int .i64 x.l,.int .i64 x.r]:=(zc Ac.c_len 0 6 hx (by omega)).trans rfl
      have hry:rdN (q.as.l.flatMap Ac.c) (i*6) 6=some [.int .i64 y.id,.int .i64 y.fr,.int .i64 y.to,y.via.v,.int .i64 y.l,.int .i64 y.r]:=(zc Ac.c_len 0 6 hy (by omega)).trans rfl
      have hw:wrapI .i64 ((i:Int)+1)=((i+1:Nat):Int):=we
      have cc:=ar_acE hS x y m (by omega)
      simp only [Ac.c,zo] at cc
      cases hq:acE x y
      ·skip
       have hf:plSame p q=false:=by
        unfold plSame
        rw [yx hx hy hq,zcg,zc4]
       simp only [V0,Nat.reduceLT,Nat.reduceAdd,Nat.reduceMul,Nat.reduceLeDiff,Nat.reduceEqDiff,reduceCtorEq,hfr,h,zdk,za p.as h,za q.as h2,hrx,hry,cc,hq,zch,zci]
       refine ⟨by simp [comm],?_⟩
       simp only [V0,Nat.reduceLT,Nat.reduceAdd,Nat.reduceMul,Nat.reduceLeDiff,Nat.reduceEqDiff,reduceCtorEq,hfr,cc,hq,zch]
       refine hrA _ ?_
       simp only [V0,Nat.reduceLT,Nat.reduceAdd,Nat.reduceMul,Nat.reduceLeDiff,Nat.reduceEqDiff,reduceCtorEq,hfr,hf]
      ·skip
       simp only [V0,Nat.reduceLT,Nat.reduceAdd,Nat.reduceMul,Nat.reduceLeDiff,Nat.reduceEqDiff,reduceCtorEq,hfr,h,zdk,za p.as h,za q.as h2,hrx,hry,cc,hq,zch,zci]
       refine ⟨by simp [comm],?_⟩
       simp only [V0,Nat.reduceLT,Nat.reduceAdd,Nat.reduceMul,Nat.reduceLeDiff,Nat.reduceEqDiff,reduceCtorEq,hfr,cc,hq,zci,hw]
       exact hnA _ (p.as.l.length - (i+1)) (by omega) ⟨i+1,_,by omega,by omega,yb ha hx hy hq,rfl,by simp only [V0,Nat.reduceLT,Nat.reduceAdd,Nat.reduceMul,Nat.reduceLeDiff,Nat.reduceEqDiff,reduceCtorEq,hfr,hw,cc,hq]⟩
     ·have e_as:eqL acE p.as.l q.as.l=true:=yw l2 fun j u v hj hu hv=>ha j u v (by omega) hu hv
      simp only [V0,Nat.reduceLT,Nat.reduceAdd,Nat.reduceMul,Nat.reduceLeDiff,Nat.reduceEqDiff,reduceCtorEq,hfr,h,zdk]
      refine heA _ _ ?_
      simp only [V0,Nat.reduceLT,Nat.reduceAdd,Nat.reduceMul,Nat.reduceLeDiff,Nat.reduceEqDiff,reduceCtorEq,hfr]
      refine zb (fun jj st=>∃ (i:Nat) (O:yLO),p.fs.l.length - i<=jj/\i<=p.fs.l.length/\eqTo intE p.fs.l q.fs.l i/\st.own=.cells [p.ns.v,p.as.v,p.fs.v]::.cells [q.ns.v,q.as.v,q.fs.v]::O/\Slots 88 st.t [(2,.ptrM d 0 0),(3,.ptrM d 1 0),(7,iv i)]) p.fs.l.length (by omega) ⟨0,_,by omega,by omega,Zb,rfl,by simp only [V0,Nat.reduceLT,Nat.reduceAdd,Nat.reduceMul,Nat.reduceLeDiff,Nat.reduceEqDiff,reduceCtorEq,hfr,zcp]⟩ ?_
      clear hfr hnA heA hrA ha hi hjj
      rintro jj ⟨t,own⟩ KA ⟨i,O,hjj,hi,ha,ho,hfr⟩ hnA heA hrA
      dsimp only at ho hfr
      subst ho
      simp only [V3] at hfr
      by_cases h:i<p.fs.l.length
      ·have h2:i<q.fs.l.length:=by omega
       obtain ⟨x,hx⟩:=gx (l:=p.fs.l) (i:=i) h
       obtain ⟨y,hy⟩:=gx (l:=q.fs.l) (i:=i) h2
       have hrx:rdN (p.fs.l.flatMap intc) (i*1) 1=some [.int .i64 x]:=(zc zj 0 1 hx (by omega)).trans rfl
       have hry:rdN (q.fs.l.flatMap intc) (i*1) 1=some [.int .i64 y]:=(zc zj 0 1 hy (by omega)).trans rfl
       have hw:wrapI .i64 ((i:Int)+1)=((i+1:Nat):Int):=we
       cases hq:intE x y
       ·skip
        have hq':=hq
        unfold intE at hq'
        have hf:plSame p q=false:=by
         unfold plSame
         rw [yx hx hy hq,zc4,zc4]
        simp only [V0,Nat.reduceLT,Nat.reduceAdd,Nat.reduceMul,Nat.reduceLeDiff,Nat.reduceEqDiff,reduceCtorEq,hfr,h,zdk,za p.fs h,za q.fs h2,hrx,hry,z7,hq',zch,zci]
        refine ⟨by simp [comm],?_⟩
        simp only [V0,Nat.reduceLT,Nat.reduceAdd,Nat.reduceMul,Nat.reduceLeDiff,Nat.reduceEqDiff,reduceCtorEq,hfr,z7,hq',zch]
        refine hrA _ ?_
        simp only [V0,Nat.reduceLT,Nat.reduceAdd,Nat.reduceMul,Nat.reduceLeDiff,Nat.reduceEqDiff,reduceCtorEq,hfr,hf]
       ·skip
        have hq':=hq
        unfold intE at hq'
        simp only [V0,Nat.reduceLT,Nat.reduceAdd,Nat.reduceMul,Nat.reduceLeDiff,Nat.reduceEqDiff,reduceCtorEq,hfr,h,zdk,za p.fs h,za q.fs h2,hrx,hry,z7,hq',zch,zci]
        refine ⟨by simp [comm],?_⟩
        simp only [V0,Nat.reduceLT,Nat.reduceAdd,Nat.reduceMul,Nat.reduceLeDiff,Nat.reduceEqDiff,reduceCtorEq,hfr,z7,hq',zci,hw]
        exact hnA _ (p.fs.l.length - (i+1)) (by omega) ⟨i+1,_,by omega,by omega,yb ha hx hy hq,rfl,by simp only [V0,Nat.reduceLT,Nat.reduceAdd,Nat.reduceMul,Nat.reduceLeDiff,Nat.reduceEqDiff,reduceCtorEq,hfr,hw]⟩
      ·have e_fs:eqL intE p.fs.l q.fs.l=true:=yw l3 fun j u v hj hu hv=>ha j u v (by omega) hu hv
       simp only [V0,Nat.reduceLT,Nat.reduceAdd,Nat.reduceMul,Nat.reduceLeDiff,Nat.reduceEqDiff,reduceCtorEq,hfr,h,zdk]
       refine heA _ _ ?_
       have hf:plSame p q=true:=by
        unfold plSame
        rw [e_ns,e_as,e_fs]
        rfl
       simp only [V0,Nat.reduceLT,Nat.reduceAdd,Nat.reduceMul,Nat.reduceLeDiff,Nat.reduceEqDiff,reduceCtorEq,hfr,hf]
theorem ar_svSame (hS:NoS S) (s t:Sv) (M:Nat) (hM:∀ x∈s.pl.as.l,x.via.l.length<=M) (hP:∀ x∈s.ft.l,x.parts.l.length<=M):GivesN S (s.pl.ns.l.length+s.pl.as.l.length+s.pl.fs.l.length+s.ft.l.length+M+40) 9 [.agg s.c,.agg t.c] (.bool (svSame s t)):=by
 refine zd (i:=i9) (ns hS (by rfl)) rfl rfl (lb rfl) (s.pl.ns.l.length+s.pl.as.l.length+s.pl.fs.l.length+s.ft.l.length+M+39) (by omega) zk fun m hm d out tt hfr=>?_
 simp only [V2,Nat.reduceAdd,i9,Sv.c] at hfr
 have f1:=s.ft.few
 have c1:=ar_plSame hS s.pl t.pl M hM m (by omega)
 simp only [Pn.c] at c1
 cases h1:plSame s.pl t.pl
 ·have hf:svSame s t=false:=by
   unfold svSame
   rw [h1,zcg]
  simp only [i9,V0,Nat.reduceLT,Nat.reduceAdd,Nat.reduceMul,Nat.reduceLeDiff,Nat.reduceEqDiff,reduceCtorEq,hfr,c1,h1,zch,hf]
 ·have hval:svSame s t=eqL ftE s.ft.l t.ft.l:=by
   unfold svSame
   rw [h1,zcn]
  cases hlen:((s.ft.l.length:Nat):Int)==((t.ft.l.length:Nat):Int)
  ·have hf:svSame s t=false:=by
    rw [hval,← zdy]
    intro h
    rw [yv h] at hlen
    simp at hlen
   simp only [i9,V0,Nat.reduceLT,Nat.reduceAdd,Nat.reduceMul,Nat.reduceLeDiff,Nat.reduceEqDiff,reduceCtorEq,hfr,c1,h1,z7,hlen,zch,zci,hf]
  ·have l1:s.ft.l.length=t.ft.l.length:=by
    have:((s.ft.l.length:Nat):Int)=((t.ft.l.length:Nat):Int):=by simpa using hlen
    omega
   simp only [i9,V0,Nat.reduceLT,Nat.reduceAdd,Nat.reduceMul,Nat.reduceLeDiff,Nat.reduceEqDiff,reduceCtorEq,hfr,c1,h1,z7,hlen,zci]
   refine zb (fun jj st=>∃ (i:Nat) (O:yLO),s.ft.l.length - i<=jj/\i<=s.ft.l.length/\eqTo ftE s.ft.l t.ft.l i/\st.own=.cells [s.pl.ns.v,s.pl.as.v,s.pl.fs.v,s.ft.v]::.cells [t.pl.ns.v,t.pl.as.v,t.pl.fs.v,t.ft.v]::O/\Slots 40 st.t [(2,.ptrM d 0 0),(3,.ptrM d 1 0),(5,iv i)]) s.ft.l.length (by omega) ⟨0,_,by omega,by omega,Zb,rfl,by simp only [V0,Nat.reduceLT,Nat.reduceAdd,Nat.reduceMul,Nat.reduceLeDiff,Nat.reduceEqDiff,reduceCtorEq,hfr,c1,h1,zcp]⟩ ?_
   clear hfr
   rintro jj ⟨tt,own⟩ KA ⟨i,O,hjj,hi,ha,ho,hfr⟩ hnA heA hrA
   dsimp only at ho hfr
   subst ho
   simp only [V3] at hfr
   by_cases h:i<s.ft.l.length
   ·have h2:i<t.ft.l.length:=by omega
    have hx:s.ft.l[i]?=some s.ft.l[i]:=zce h
    have hxm:=hP _ (zdr h)
    generalize s.ft.l[i]=x at hx hxm
    obtain ⟨y,hy⟩:=gx (l:=t.ft.l) (i:=i) h2
    have hrx:rdN (s.ft.l.flatMap Ft.c) (i*5) 5=some [.int .i64 x.id,.int .i64 x.kind,.int .i64 x.cls,.str x.name.1,x.parts.v]:=(zc Ft.c_len 0 5 hx (by omega)).trans rfl
    have hry:rdN (t.ft.l.flatMap Ft.c) (i*5) 5=some [.int .i64 y.id,.int .i64 y.kind,.int .i64 y.cls,.str y.name.1,y.parts.v]:=(zc Ft.c_len 0 5 hy (by omega)).trans rfl
    have hw:wrapI .i64 ((i:Int)+1)=((i+1:Nat):Int):=we
    have cc:=ar_ftE hS x y m (by omega)
    simp only [Ft.c,zo] at cc
    cases hq:ftE x y
    ·have hf:svSame s t=false:=hval.trans (yx hx hy hq)
     simp only [V0,Nat.reduceLT,Nat.reduceAdd,Nat.reduceMul,Nat.reduceLeDiff,Nat.reduceEqDiff,reduceCtorEq,hfr,h,zdk,za s.ft h,za t.ft h2,hrx,hry,cc,hq,zch]
     refine ⟨by simp [comm],?_⟩
     simp only [V0,Nat.reduceLT,Nat.reduceAdd,Nat.reduceMul,Nat.reduceLeDiff,Nat.reduceEqDiff,reduceCtorEq,hfr,cc,hq,zch]
     refine hrA _ ?_
     simp only [V0,Nat.reduceLT,Nat.reduceAdd,Nat.reduceMul,Nat.reduceLeDiff,Nat.reduceEqDiff,reduceCtorEq,hfr,hf]
    ·simp only [V0,Nat.reduceLT,Nat.reduceAdd,Nat.reduceMul,Nat.reduceLeDiff,Nat.reduceEqDiff,reduceCtorEq,hfr,h,zdk,za s.ft h,za t.ft h2,hrx,hry,cc,hq,zci]
     refine ⟨by simp [comm],?_⟩
     simp only [V0,Nat.reduceLT,Nat.reduceAdd,Nat.reduceMul,Nat.reduceLeDiff,Nat.reduceEqDiff,reduceCtorEq,hfr,cc,hq,zci,hw]
     exact hnA _ (s.ft.l.length - (i+1)) (by omega) ⟨i+1,_,by omega,by omega,yb ha hx hy hq,rfl,by simp only [V0,Nat.reduceLT,Nat.reduceAdd,Nat.reduceMul,Nat.reduceLeDiff,Nat.reduceEqDiff,reduceCtorEq,hfr,hw,cc,hq]⟩
   ·have hf:svSame s t=true:=hval.trans (yw l1 fun j u v hj hu hv=>ha j u v (by omega) hu hv)
    simp only [V0,Nat.reduceLT,Nat.reduceAdd,Nat.reduceMul,Nat.reduceLeDiff,Nat.reduceEqDiff,reduceCtorEq,hfr,h,zdk]
    refine heA _ _ ?_
    simp only [V0,Nat.reduceLT,Nat.reduceAdd,Nat.reduceMul,Nat.reduceLeDiff,Nat.reduceEqDiff,reduceCtorEq,hfr,hf]
end
end
section
def ArcAtR (S:ySM) (m:Nat) (p:Pn) (q:SlOf 1 intc) (a:Ac):Prop:=(∀ d out ownV own i,callN Ftab S m d out ownV own i 25 [q.v,.int .i64 a.l]=some (.r,.bool (q.l.contains a.l),own))/\(∀ d out ownV own i,callN Ftab S m d out ownV own i 25 [q.v,.int .i64 a.r]=some (.r,.bool (q.l.contains a.r),own))/\∃ k:SlOf 2 Pt.c,k.l=pathL p a.id/\(∀ d out ownV own i,callN Ftab S m d out ownV own i 24 [.agg p.c,.int .i64 a.id]=some (.r,.tuple [k.v,.int .i64 0],own))/\∀ d out ownV own i,callN Ftab S m d out ownV own i 26 [k.v]=some (.r,.int .i64 (crossA p a),own)
section
variable {S:ySM}
theorem ar_areaP (hS:NoS S) (s:Sv) (id:Int) (f:Ft) (hfd:findD s id=f) (hok:findOk s id=true) (h3:shapeI f.kind=3) {Np:Nat} (hpc:GivesN S Np 23 [.agg s.pl.c] (.int .i64 0)) (hp:∀ a∈s.pl.as.l,pathOk s.pl a.id=true) (hfv:FewVia s.pl) (hpa:∀ g∈s.ft.l,g.parts.l.length<=1000):∃ N,GivesN S N 7 [.agg s.c,iv id] (.int .i64 (wrapI .i64 (areaS s.pl f.parts.l s.pl.as.l))):=by
 obtain ⟨q,hq,N1,hN1⟩:=zad hS s id (fun g hg=>by have:=hpa g hg; omega)
 have hq2:q.l=f.parts.l:=by rw [hq,← hfd]; rfl
 have e1:((s.ft.l.find? fun f=>f.id==id).getD zFt)=f:=hfd
 have e2:(s.ft.l.find? fun f=>f.id==id).isSome=true:=hok
 rw [e1,e2] at hN1
 obtain ⟨N0,hN0⟩:=YE hS f.kind
 rw [h3] at hN0
 have harc:∀ a∈s.pl.as.l,∃ N,∀ m,N<=m->ArcAtR S m s.pl q a:=fun a ha=>by
  obtain ⟨M1,hM1⟩:=gives_has hS q a.l
  obtain ⟨M2,hM2⟩:=gives_has hS q a.r
  obtain ⟨k,hk,M3,hM3⟩:=gives_rpath hS s.pl a.id hfv
  rw [hp a ha] at hM3
  have hsum:=ar_sum hS k
  have hce:crossA s.pl a=crossK k.l k.l.length:=by unfold crossA; rw [hk (hp a ha)]
  exact ⟨M1+M2+M3+(k.l.length+6),fun m hm=>⟨fun d out ownV own i=>hM1 m (by omega) d out ownV own i,fun d out ownV own i=>hM2 m (by omega) d out ownV own i,k,hk (hp a ha),fun d out ownV own i=>hM3 m (by omega) d out ownV own i,fun d out ownV own i=>by rw [hce]; exact hsum m (by omega) d out ownV own i⟩⟩
 obtain ⟨N2,hN2⟩:=unif s.pl.as.l harc
 refine ⟨N0+N1+N2+Np+s.pl.as.l.length+100,zd (i:=i7) (ns hS (by rfl)) rfl rfl (lb rfl) (N0+N1+N2+Np+s.pl.as.l.length+99) (by omega) zw fun m hm d out t hfr=>?_⟩
 simp only [V2,Nat.reduceAdd,i7,Sv.c,zo] at hfr
 have c1:=hN1 m (by omega)
 have c2:=hN0 m (by omega)
 have c3:=hpc m (by omega)
 simp only [Sv.c,Pn.c,Ft.c,zo] at c1 c2 c3
 have hlf:=s.pl.as.few
 have h33:((3:Int) != 3)=false:=by decide
 have h00:((0:Int) != 0)=false:=by decide
 have hz0:wrapI .i64 (areaS s.pl f.parts.l (s.pl.as.l.take 0))=0:=by
  have:areaS s.pl f.parts.l (s.pl.as.l.take 0)=0:=rfl
  rw [this,zt]
  decide
 simp only [i7,V0,Nat.reduceLT,Nat.reduceAdd,Nat.reduceMul,Nat.reduceLeDiff,Nat.reduceEqDiff,reduceCtorEq,hfr,c1,c2,c3,h33,h00]
 refine zb (fun jj st=>∃ (i:Nat) (x1:IObj) (R:yLO),s.pl.as.l.length - i<=jj/\i<=s.pl.as.l.length/\st.own=.cells s.c::x1::.cells [.int .i64 f.id,.int .i64 f.kind,.int .i64 f.cls,.str f.name.1,q.v]::R/\Slots 73 st.t [(2,.ptrM d 0 0),(7,.int .i64 (wrapI .i64 (areaS s.pl f.parts.l (s.pl.as.l.take i)))),(5,.ptrM d 2 0),(8,iv i)]) s.pl.as.l.length (by omega) ⟨0,_,_,by omega,by omega,rfl,by simp only [V0,Nat.reduceLT,Nat.reduceAdd,Nat.reduceMul,Nat.reduceLeDiff,Nat.reduceEqDiff,reduceCtorEq,hfr,hz0,zcp]⟩ ?_
 clear hfr
 rintro jj ⟨t,own⟩ KA ⟨i,x1,R,hjj,hi,ho,hfr⟩ hnA heA hrA
 dsimp only [Sv.c] at ho hfr
 subst ho
 simp only [V3] at hfr
 by_cases h:i<s.pl.as.l.length
 ·have hx:s.pl.as.l[i]?=some s.pl.as.l[i]:=zce h
  have hmem:s.pl.as.l[i]∈s.pl.as.l:=zdr h
  generalize s.pl.as.l[i]=a at hx hmem
  have hrd:rdN (s.pl.as.l.flatMap Ac.c) (i*6) 6=some [.int .i64 a.id,.int .i64 a.fr,.int .i64 a.to,a.via.v,.int .i64 a.l,.int .i64 a.r]:=(zc Ac.c_len 0 6 hx (by omega)).trans rfl
  have hw:wrapI .i64 ((i:Int)+1)=((i+1:Nat):Int):=we
  obtain ⟨cl,cr,k,hk,cp,cs⟩:=hN2 a hmem m (by omega)
  simp only [Pn.c] at cp
  rw [hq2] at cl cr
  have han:=area_next (p:=s.pl) (parts:=f.parts.l) hx
  have gE:∀ (a b c x:IObj) (r:yLO),(a::b::c::(R++x::r))[R.length+1+1+1]?=some x:=fun a b c x r=>by
   simp only [zc1]
   rw [ZZ]
  have sE:∀ (a b c x v:IObj) (r:yLO),(a::b::c::(R++x::r)).set (R.length+1+1+1) v=a::b::c::(R++v::r):=fun a b c x v r=>by
   simp only [List.set_cons_succ]
   rw [YC]
  generalize areaS s.pl f.parts.l (s.pl.as.l.take i)=A at *
  have hct:ctrA s.pl f.parts.l a=bif f.parts.l.contains a.l==f.parts.l.contains a.r then 0 else bif f.parts.l.contains a.r then 0 - crossA s.pl a else crossA s.pl a:=rfl
  generalize crossA s.pl a=c at *
  have w1:=zb7 A
  cases hl:f.parts.l.contains a.l
  ·cases hr:f.parts.l.contains a.r
   ·rw [hl,hr] at hct
    have hsum:wrapI .i64 A=wrapI .i64 (areaS s.pl f.parts.l (s.pl.as.l.take (i+1))):=by
     rw [han,hct]
     exact ZF (by simp)
    simp only [V0,Nat.reduceLT,Nat.reduceAdd,Nat.reduceMul,Nat.reduceLeDiff,Nat.reduceEqDiff,reduceCtorEq,hfr,h,za s.pl.as h,hrd,gE,sE,cl,cr,cp,cs,hl,hr,hw]
    exact hnA _ (s.pl.as.l.length - (i+1)) (by omega) ⟨i+1,x1,_,by omega,by omega,rfl,by simp only [V0,Nat.reduceLT,Nat.reduceAdd,Nat.reduceMul,Nat.reduceLeDiff,Nat.reduceEqDiff,reduceCtorEq,hfr,hw,hsum]⟩
   ·rw [hl,hr] at hct
    have hsum:wrapI .i64 (wrapI .i64 A - c)=wrapI .i64 (areaS s.pl f.parts.l (s.pl.as.l.take (i+1))):=by
     rw [han,hct]
     simp only [Bool.false_beq,zci,cond_false,cond_true]
     exact ZF (by omega)
    simp only [V0,Nat.reduceLT,Nat.reduceAdd,Nat.reduceMul,Nat.reduceLeDiff,Nat.reduceEqDiff,reduceCtorEq,hfr,h,za s.pl.as h,hrd,gE,sE,cl,cr,cp,cs,hl,hr,hw]
    exact hnA _ (s.pl.as.l.length - (i+1)) (by omega) ⟨i+1,x1,_,by omega,by omega,rfl,by simp only [V0,Nat.reduceLT,Nat.reduceAdd,Nat.reduceMul,Nat.reduceLeDiff,Nat.reduceEqDiff,reduceCtorEq,hfr,hw,hsum]⟩
  ·cases hr:f.parts.l.contains a.r
   ·rw [hl,hr] at hct
    have hsum:wrapI .i64 (wrapI .i64 A+c)=wrapI .i64 (areaS s.pl f.parts.l (s.pl.as.l.take (i+1))):=by
     rw [han,hct]
     simp only [Bool.true_beq,cond_false]
     exact ZF (by omega)
    simp only [V0,Nat.reduceLT,Nat.reduceAdd,Nat.reduceMul,Nat.reduceLeDiff,Nat.reduceEqDiff,reduceCtorEq,hfr,h,za s.pl.as h,hrd,gE,sE,cl,cr,cp,cs,hl,hr,hw]
    exact hnA _ (s.pl.as.l.length - (i+1)) (by omega) ⟨i+1,x1,_,by omega,by omega,rfl,by simp only [V0,Nat.reduceLT,Nat.reduceAdd,Nat.reduceMul,Nat.reduceLeDiff,Nat.reduceEqDiff,reduceCtorEq,hfr,hw,hsum]⟩
   ·rw [hl,hr] at hct
    have w2:=zb7 (wrapI .i64 A+c)
    have hsum:wrapI .i64 (wrapI .i64 (wrapI .i64 A+c) - c)=wrapI .i64 (areaS s.pl f.parts.l (s.pl.as.l.take (i+1))):=by
     rw [han,hct]
     simp only [Bool.true_beq,cond_true]
     exact ZF (by omega)
    simp only [V0,Nat.reduceLT,Nat.reduceAdd,Nat.reduceMul,Nat.reduceLeDiff,Nat.reduceEqDiff,reduceCtorEq,hfr,h,za s.pl.as h,hrd,gE,sE,cl,cr,cp,cs,hl,hr,hw]
    exact hnA _ (s.pl.as.l.length - (i+1)) (by omega) ⟨i+1,x1,_,by omega,by omega,rfl,by simp only [V0,Nat.reduceLT,Nat.reduceAdd,Nat.reduceMul,Nat.reduceLeDiff,Nat.reduceEqDiff,reduceCtorEq,hfr,hw,hsum]⟩
 ·rw [zcm (by omega)] at hfr
  simp only [V0,Nat.reduceLT,Nat.reduceAdd,Nat.reduceMul,Nat.reduceLeDiff,Nat.reduceEqDiff,reduceCtorEq,hfr,h]
  refine heA _ _ ?_
  simp only [V0,Nat.reduceLT,Nat.reduceAdd,Nat.reduceMul,Nat.reduceLeDiff,Nat.reduceEqDiff,reduceCtorEq,hfr]
theorem ar_areaV (hS:NoS S) (s:Sv) (id:Int) {e:Int} {v:Bool} (he:e=planE s.pl v) {Np:Nat} (hpc:GivesN S Np 23 [.agg s.pl.c] (.int .i64 e)) (hfv:FewVia s.pl) (hpa:∀ g∈s.ft.l,g.parts.l.length<=1000):∃ N,GivesN S N 7 [.agg s.c,iv id] (.int .i64 (areaV s id e)):=by
 by_cases hall:findOk s id=true/\shapeI (findD s id).kind=3/\e=0
 ·obtain ⟨h1,h2,h3⟩:=hall
  subst h3
  have hval:areaV s id 0=wrapI .i64 (areaS s.pl (findD s id).parts.l s.pl.as.l):=by
   unfold areaV
   rw [h1,h2]
   rfl
  rw [hval]
  exact ar_areaP hS s id (findD s id) rfl h1 h2 hpc (plan_okV he.symm) hfv hpa
 ·have hval:areaV s id e=0:=by
   unfold areaV
   cases h1:findOk s id
   ·rfl
   ·cases h2:shapeI (findD s id).kind==3
    ·rfl
    ·cases h3:e==0
     ·rfl
     ·exact absurd ⟨h1,by simpa using h2,by simpa using h3⟩ hall
  obtain ⟨q,hq,N1,hN1⟩:=zad hS s id (fun g hg=>by have:=hpa g hg; omega)
  have e1:((s.ft.l.find? fun f=>f.id==id).getD zFt)=findD s id:=rfl
  have e2:(s.ft.l.find? fun f=>f.id==id).isSome=findOk s id:=rfl
  rw [e1,e2] at hN1
  rw [hval]
  obtain ⟨N0,hN0⟩:=YE hS (findD s id).kind
  refine ⟨N0+N1+Np+10,zd (i:=i7) (ns hS (by rfl)) rfl rfl (lb rfl) (N0+N1+Np+9) (by omega) zw fun m hm d out t hfr=>?_⟩
  simp only [V2,Nat.reduceAdd,i7,Sv.c,zo] at hfr
  have c1:=hN1 m (by omega)
  have c2:=hN0 m (by omega)
  have c3:=hpc m (by omega)
  simp only [Sv.c,Pn.c,Ft.c,zo] at c1 c2 c3
  have hb3:∀ z:Int,(z != 3)=!(z==3):=fun z=>rfl
  have hb0:∀ z:Int,(z != 0)=!(z==0):=fun z=>rfl
  cases h1:findOk s id
  ·simp only [i7,V0,Nat.reduceLT,Nat.reduceAdd,Nat.reduceMul,Nat.reduceLeDiff,Nat.reduceEqDiff,reduceCtorEq,hfr,c1,h1]
  ·cases h2:shapeI (findD s id).kind==3
   ·simp only [i7,V0,Nat.reduceLT,Nat.reduceAdd,Nat.reduceMul,Nat.reduceLeDiff,Nat.reduceEqDiff,reduceCtorEq,hfr,c1,c2,hb3,h1,h2,zch]
   ·cases h3:e==0
    ·simp only [i7,V0,Nat.reduceLT,Nat.reduceAdd,Nat.reduceMul,Nat.reduceLeDiff,Nat.reduceEqDiff,reduceCtorEq,hfr,c1,c2,c3,hb3,hb0,h1,h2,h3,zch,zci]
    ·exact absurd ⟨h1,by simpa using h2,by simpa using h3⟩ hall
end
end
section
def viaW (a:Ac):Nat:=min a.via.l.length 201
def partW (f:Ft):Nat:=min f.parts.l.length 201
theorem w201:wrapI .i64 (200+1)=201:=by rw [zt]; decide
theorem min201 (n:Nat):(if (201:Int)<(n:Int) then (201:Int) else (n:Int))=((min n 201:Nat):Int):=by
 split <;> omega
def fewP (p:Pn):Bool:=decide (p.ns.l.length<=200)&&(decide (p.as.l.length<=200)&&(decide (p.fs.l.length<=200)&&decide (sumC viaW p.as.l<=200)))
def fewS (s:Sv):Bool:=fewP s.pl&&(decide (s.ft.l.length<=200)&&decide (sumC partW s.ft.l<=200))
theorem gt200 {n:Nat}:decide ((n:Int) > 200)=!decide (n<=200):=by
 rw [zdz]
 simp
 omega
theorem le200 {n:Nat}:decide ((n:Int)<=200)=decide (n<=200):=by
 rw [zdz,decide_eq_true_iff,decide_eq_true_iff]
 omega
section
variable {S:ySM}
theorem gives_fewP (hS:NoS S) (p:Pn):Gives Ftab S 10 [.agg p.c,iv 200] (.bool (fewP p)):=by
 refine zq (i:=i10) (k:=1) (ns hS (by rfl)) rfl rfl zk (p.as.l.length+5) (by omega) fun m hm d out=>?_
 unfold fewP
 cases h1:decide (p.ns.l.length<=200)
 ·simp only [i10,W0,e_nilchk,e_pick,e_box,e_bslice,e_load,e_store,e_eqb,e_eqp,e_eqs,e_eqagg,e_conv,e_faddr,e_field,e_extract,e_call,e_mx,mkAt,List.replicate,look,mkv,binI,intBin,isShift,unI,fillI,cellV,Nat.reduceAdd,Nat.reduceMul,Nat.reduceLeDiff,reduceCtorEq,Nat.reduceEqDiff,Pn.c,gt200,h1,zcg]
 cases h2:decide (p.as.l.length<=200)
 ·simp only [i10,W0,e_nilchk,e_pick,e_box,e_bslice,e_load,e_store,e_eqb,e_eqp,e_eqs,e_eqagg,e_conv,e_faddr,e_field,e_extract,e_call,e_mx,mkAt,List.replicate,look,mkv,binI,intBin,isShift,unI,fillI,cellV,Nat.reduceAdd,Nat.reduceMul,Nat.reduceLeDiff,reduceCtorEq,Nat.reduceEqDiff,Pn.c,gt200,h1,h2,zcg]
 cases h3:decide (p.fs.l.length<=200)
 ·simp only [i10,W0,e_nilchk,e_pick,e_box,e_bslice,e_load,e_store,e_eqb,e_eqp,e_eqs,e_eqagg,e_conv,e_faddr,e_field,e_extract,e_call,e_mx,mkAt,List.replicate,look,mkv,binI,intBin,isShift,unI,fillI,cellV,Nat.reduceAdd,Nat.reduceMul,Nat.reduceLeDiff,reduceCtorEq,Nat.reduceEqDiff,Pn.c,gt200,h1,h2,h3,zcg]
 simp only [i10,W0,e_nilchk,e_pick,e_box,e_bslice,e_load,e_store,e_eqb,e_eqp,e_eqs,e_eqagg,e_conv,e_faddr,e_field,e_extract,e_call,e_mx,mkAt,List.replicate,look,mkv,binI,intBin,isShift,unI,fillI,cellV,Nat.reduceAdd,Nat.reduceMul,Nat.reduceLeDiff,reduceCtorEq,Nat.reduceEqDiff,Pn.c,gt200,h1,h2,h3]
 refine zb (fun j st=>∃ i J,j=p.as.l.length - i/\i<=p.as.l.length/\st.t.length=53/\getK (.tuple []) st.t 1=iv 200/\getK (.tuple []) st.t 2=.ptrM d 0 0/\getK (.tuple []) st.t 4=.bool false/\getK (.tuple []) st.t 5=iv ((sumC viaW (p.as.l.take i):Nat):Int)/\getK (.tuple []) st.t 6=iv i/\st.own=.cells [p.ns.v,p.as.v,p.fs.v]::J) p.as.l.length (by omega) ⟨0,[],by omega,by omega,rfl,rfl,rfl,rfl,rfl,rfl,rfl⟩ ?_
 rintro j ⟨t,own⟩ K ⟨i,J,rfl,hi,hl,k1,k2,k4,k5,k6,ho⟩ hn he hr
 dsimp only at hl k1 k2 k4 k5 k6 ho
 have ht:t=[getK (.tuple []) t 0,getK (.tuple []) t 1,getK (.tuple []) t 2,getK (.tuple []) t 3,getK (.tuple []) t 4,getK (.tuple []) t 5,getK (.tuple []) t 6,getK (.tuple []) t 7,getK (.tuple []) t 8,getK (.tuple []) t 9,getK (.tuple []) t 10,getK (.tuple []) t 11,getK (.tuple []) t 12,getK (.tuple []) t 13,getK (.tuple []) t 14,getK (.tuple []) t 15,getK (.tuple []) t 16,getK (.tuple []) t 17,getK (.tuple []) t 18,getK (.tuple []) t 19,getK (.tuple []) t 20,getK (.tuple []) t 21,getK (.tuple []) t 22,getK (.tuple []) t 23,getK (.tuple []) t 24,getK (.tuple []) t 25,getK (.tuple []) t 26,getK (.tuple []) t 27,getK (.tuple []) t 28,getK (.tuple []) t 29,getK (.tuple []) t 30,getK (.tuple []) t 31,getK (.tuple []) t 32,getK (.tuple []) t 33,getK (.tuple []) t 34,getK (.tuple []) t 35,getK (.tuple []) t 36,getK (.tuple []) t 37,getK (.tuple []) t 38,getK (.tuple []) t 39,getK (.tuple []) t 40,getK (.tuple []) t 41,getK (.tuple []) t 42,getK (.tuple []) t 43,getK (.tuple []) t 44,getK (.tuple []) t 45,getK (.tuple []) t 46,getK (.tuple []) t 47,getK (.tuple []) t 48,getK (.tuple []) t 49,getK (.tuple []) t 50,getK (.tuple []) t 51,getK (.tuple []) t 52]:=expand_t hl
 simp only [k1,k2,k4,k5,k6] at ht
 generalize getK (.tuple []) t=r at ht
 subst ht
 subst ho
 by_cases h:i<p.as.l.length
 ·obtain ⟨x,hx⟩:=gx (l:=p.as.l) (i:=i) h
  have hnx:=sum_next (g:=viaW) hx
  have htot:=sum_le (g:=viaW) p.as.l i
  have hmx:viaW x<=201:=Nat.min_le_right _ _
  have hrd:rdN (p.as.l.flatMap Ac.c) (i*6+3) 1=some [x.via.v]:=(zc Ac.c_len 3 1 hx (by omega)).trans rfl
  have hw:wrapI .i64 ((i:Int)+1)=((i+1:Nat):Int):=zH (by have:=p.as.few; omega)
  have hmin:(if (201:Int)<(x.via.l.length:Int) then (201:Int) else (x.via.l.length:Int))=((viaW x:Nat):Int):=min201 _
  generalize sumC viaW (p.as.l.take i)=n at *
  cases hle:decide ((n:Int)<=200)
  ·simp only [W0,e_nilchk,e_pick,e_box,e_bslice,e_load,e_store,e_eqb,e_eqp,e_eqs,e_eqagg,e_conv,e_faddr,e_field,e_extract,e_call,e_mx,mkAt,List.replicate,look,mkv,binI,intBin,isShift,unI,fillI,cellV,Nat.reduceAdd,Nat.reduceMul,Nat.reduceLeDiff,reduceCtorEq,Nat.reduceEqDiff,h,hle]
   refine he _ _ ?_
   simp only [W0,e_nilchk,e_pick,e_box,e_bslice,e_load,e_store,e_eqb,e_eqp,e_eqs,e_eqagg,e_conv,e_faddr,e_field,e_extract,e_call,e_mx,mkAt,List.replicate,look,mkv,binI,intBin,isShift,unI,fillI,cellV,Nat.reduceAdd,Nat.reduceMul,Nat.reduceLeDiff,reduceCtorEq,Nat.reduceEqDiff,hle]
   have hbig:decide (sumC viaW p.as.l<=200)=false:=by
    rw [decide_eq_false_iff_not] at hle ⊢
    omega
   rw [hbig]
   all_goals simp only [zc4]
  ·have hle':n<=200:=by
    rw [decide_eq_true_iff] at hle
    omega
   have hadd:wrapI .i64 ((n:Int)+((viaW x:Nat):Int))=((n+viaW x:Nat):Int):=YG (by omega)
   simp only [W0,e_nilchk,e_pick,e_box,e_bslice,e_load,e_store,e_eqb,e_eqp,e_eqs,e_eqagg,e_conv,e_faddr,e_field,e_extract,e_call,e_mx,mkAt,List.replicate,look,mkv,binI,intBin,isShift,unI,fillI,cellV,Nat.reduceAdd,Nat.reduceMul,Nat.reduceLeDiff,reduceCtorEq,Nat.reduceEqDiff,h,hle,za p.as h,hrd,w201,hmin,hadd,hw]
   exact hn _ (p.as.l.length - (i+1)) (by omega) ⟨i+1,J,rfl,by omega,rfl,rfl,rfl,rfl,by rw [hnx]; rfl,rfl,rfl⟩
 ·simp only [W0,e_nilchk,e_pick,e_box,e_bslice,e_load,e_store,e_eqb,e_eqp,e_eqs,e_eqagg,e_conv,e_faddr,e_field,e_extract,e_call,e_mx,mkAt,List.replicate,look,mkv,binI,intBin,isShift,unI,fillI,cellV,Nat.reduceAdd,Nat.reduceMul,Nat.reduceLeDiff,reduceCtorEq,Nat.reduceEqDiff,h]
  refine he _ _ ?_
  rw [zcm (by omega)]
  simp only [W0,e_nilchk,e_pick,e_box,e_bslice,e_load,e_store,e_eqb,e_eqp,e_eqs,e_eqagg,e_conv,e_faddr,e_field,e_extract,e_call,e_mx,mkAt,List.replicate,look,mkv,binI,intBin,isShift,unI,fillI,cellV,Nat.reduceAdd,Nat.reduceMul,Nat.reduceLeDiff,reduceCtorEq,Nat.reduceEqDiff]
  rw [le200]
theorem zb8 (hS:NoS S) (s:Sv):Gives Ftab S 4 [.agg s.c,iv 200] (.bool (fewS s)):=by
 obtain ⟨N,hN⟩:=gives_fewP hS s.pl
 refine zq (i:=i4) (k:=1) (ns hS (by rfl)) rfl rfl zk (N+s.ft.l.length+5) (by omega) fun m hm d out=>?_
 have c1:=hN m (by omega)
 simp only [zo,Pn.c] at c1
 unfold fewS
 cases h1:fewP s.pl
 ·simp only [h1] at c1
  simp only [i4,W0,e_nilchk,e_pick,e_box,e_bslice,e_load,e_store,e_eqb,e_eqp,e_eqs,e_eqagg,e_conv,e_faddr,e_field,e_extract,e_call,e_mx,mkAt,List.replicate,look,mkv,binI,intBin,isShift,unI,fillI,cellV,Nat.reduceAdd,Nat.reduceMul,Nat.reduceLeDiff,reduceCtorEq,Nat.reduceEqDiff,Sv.c,c1,zcg]
 simp only [h1] at c1
 cases h2:decide (s.ft.l.length<=200)
 ·simp only [i4,W0,e_nilchk,e_pick,e_box,e_bslice,e_load,e_store,e_eqb,e_eqp,e_eqs,e_eqagg,e_conv,e_faddr,e_field,e_extract,e_call,e_mx,mkAt,List.replicate,look,mkv,binI,intBin,isShift,unI,fillI,cellV,Nat.reduceAdd,Nat.reduceMul,Nat.reduceLeDiff,reduceCtorEq,Nat.reduceEqDiff,Sv.c,c1,gt200,h2,zcg]
 simp only [i4,W0,e_nilchk,e_pick,e_box,e_bslice,e_load,e_store,e_eqb,e_eqp,e_eqs,e_eqagg,e_conv,e_faddr,e_field,e_extract,e_call,e_mx,mkAt,List.replicate,look,mkv,binI,intBin,isShift,unI,fillI,cellV,Nat.reduceAdd,Nat.reduceMul,Nat.reduceLeDiff,reduceCtorEq,Nat.reduceEqDiff,Sv.c,c1,gt200,h2]
 refine zb (fun j st=>∃ i J,j=s.ft.l.length - i/\i<=s.ft.l.length/\st.t.length=46/\getK (.tuple []) st.t 1=iv 200/\getK (.tuple []) st.t 2=.ptrM d 0 0/\getK (.tuple []) st.t 4=.bool false/\getK (.tuple []) st.t 5=iv ((sumC partW (s.ft.l.take i):Nat):Int)/\getK (.tuple []) st.t 6=iv i/\st.own=.cells [s.pl.ns.v,s.pl.as.v,s.pl.fs.v,s.ft.v]::J) s.ft.l.length (by omega) ⟨0,[.free],by omega,by omega,rfl,rfl,rfl,rfl,rfl,rfl,rfl⟩ ?_
 rintro j ⟨t,own⟩ K ⟨i,J,rfl,hi,hl,k1,k2,k4,k5,k6,ho⟩ hn he hr
 dsimp only at hl k1 k2 k4 k5 k6 ho
 have ht:t=[getK (.tuple []) t 0,getK (.tuple []) t 1,getK (.tuple []) t 2,getK (.tuple []) t 3,getK (.tuple []) t 4,getK (.tuple []) t 5,getK (.tuple []) t 6,getK (.tuple []) t 7,getK (.tuple []) t 8,getK (.tuple []) t 9,getK (.tuple []) t 10,getK (.tuple []) t 11,getK (.tuple []) t 12,getK (.tuple []) t 13,getK (.tuple []) t 14,getK (.tuple []) t 15,getK (.tuple []) t 16,getK (.tuple []) t 17,getK (.tuple []) t 18,getK (.tuple []) t 19,getK (.tuple []) t 20,getK (.tuple []) t 21,getK (.tuple []) t 22,getK (.tuple []) t 23,getK (.tuple []) t 24,getK (.tuple []) t 25,getK (.tuple []) t 26,getK (.tuple []) t 27,getK (.tuple []) t 28,getK (.tuple []) t 29,getK (.tuple []) t 30,getK (.tuple []) t 31,getK (.tuple []) t 32,getK (.tuple []) t 33,getK (.tuple []) t 34,getK (.tuple []) t 35,getK (.tuple []) t 36,getK (.tuple []) t 37,getK (.tuple []) t 38,getK (.tuple []) t 39,getK (.tuple []) t 40,getK (.tuple []) t 41,getK (.tuple []) t 42,getK (.tuple []) t 43,getK (.tuple []) t 44,getK (.tuple []) t 45]:=expand_t hl
 simp only [k1,k2,k4,k5,k6] at ht
 generalize getK (.tuple []) t=r at ht
 subst ht
 subst ho
 by_cases h:i<s.ft.l.length
 ·obtain ⟨x,hx⟩:=gx (l:=s.ft.l) (i:=i) h
  have hnx:=sum_next (g:=partW) hx
  have htot:=sum_le (g:=partW) s.ft.l i
  have hmx:partW x<=201:=Nat.min_le_right _ _
  have hrd:rdN (s.ft.l.flatMap Ft.c) (i*5+4) 1=some [x.parts.v]:=(zc Ft.c_len 4 1 hx (by omega)).trans rfl
  have hw:wrapI .i64 ((i:Int)+1)=((i+1:Nat):Int):=zH (by have:=s.ft.few; omega)
  have hmin:(if (201:Int)<(x.parts.l.length:Int) then (201:Int) else (x.parts.l.length:Int))=((partW x:Nat):Int):=min201 _
  generalize sumC partW (s.ft.l.take i)=n at *
  cases hle:decide ((n:Int)<=200)
  ·simp only [W0,e_nilchk,e_pick,e_box,e_bslice,e_load,e_store,e_eqb,e_eqp,e_eqs,e_eqagg,e_conv,e_faddr,e_field,e_extract,e_call,e_mx,mkAt,List.replicate,look,mkv,binI,intBin,isShift,unI,fillI,cellV,Nat.reduceAdd,Nat.reduceMul,Nat.reduceLeDiff,reduceCtorEq,Nat.reduceEqDiff,h,hle]
   refine he _ _ ?_
   simp only [W0,e_nilchk,e_pick,e_box,e_bslice,e_load,e_store,e_eqb,e_eqp,e_eqs,e_eqagg,e_conv,e_faddr,e_field,e_extract,e_call,e_mx,mkAt,List.replicate,look,mkv,binI,intBin,isShift,unI,fillI,cellV,Nat.reduceAdd,Nat.reduceMul,Nat.reduceLeDiff,reduceCtorEq,Nat.reduceEqDiff,hle]
   have hbig:decide (sumC partW s.ft.l<=200)=false:=by
    rw [decide_eq_false_iff_not] at hle ⊢
    omega
   rw [hbig]
   all_goals simp only [zc4]
  ·have hle':n<=200:=by
    rw [decide_eq_true_iff] at hle
    omega
   have hadd:wrapI .i64 ((n:Int)+((partW x:Nat):Int))=((n+partW x:Nat):Int):=YG (by omega)
   simp only [W0,e_nilchk,e_pick,e_box,e_bslice,e_load,e_store,e_eqb,e_eqp,e_eqs,e_eqagg,e_conv,e_faddr,e_field,e_extract,e_call,e_mx,mkAt,List.replicate,look,mkv,binI,intBin,isShift,unI,fillI,cellV,Nat.reduceAdd,Nat.reduceMul,Nat.reduceLeDiff,reduceCtorEq,Nat.reduceEqDiff,h,hle,za s.ft h,hrd,w201,hmin,hadd,hw]
   exact hn _ (s.ft.l.length - (i+1)) (by omega) ⟨i+1,J,rfl,by omega,rfl,rfl,rfl,rfl,by rw [hnx]; rfl,rfl,rfl⟩
 ·simp only [W0,e_nilchk,e_pick,e_box,e_bslice,e_load,e_store,e_eqb,e_eqp,e_eqs,e_eqagg,e_conv,e_faddr,e_field,e_extract,e_call,e_mx,mkAt,List.replicate,look,mkv,binI,intBin,isShift,unI,fillI,cellV,Nat.reduceAdd,Nat.reduceMul,Nat.reduceLeDiff,reduceCtorEq,Nat.reduceEqDiff,h]
  refine he _ _ ?_
  rw [zcm (by omega)]
  simp only [W0,e_nilchk,e_pick,e_box,e_bslice,e_load,e_store,e_eqb,e_eqp,e_eqs,e_eqagg,e_conv,e_faddr,e_field,e_extract,e_call,e_mx,mkAt,List.replicate,look,mkv,binI,intBin,isShift,unI,fillI,cellV,Nat.reduceAdd,Nat.reduceMul,Nat.reduceLeDiff,reduceCtorEq,Nat.reduceEqDiff]
  rw [le200]
theorem fewS_spec {s:Sv} (h:fewS s=true):FewVia s.pl/\s.pl.as.l.length<=200/\s.ft.l.length<=200/\∀ f∈s.ft.l,f.parts.l.length<=200:=by
 simp only [fewS,fewP,zcq,decide_eq_true_iff] at h
 obtain ⟨⟨h1,h2,h3,h4⟩,h5,h6⟩:=h
 refine ⟨fun a ha=>?_,h2,h5,fun f hf=>?_⟩
 ·have h7:min a.via.l.length 201<=sumC viaW s.pl.as.l:=sum_mem (g:=viaW) ha
  omega
 ·have h7:min f.parts.l.length 201<=sumC partW s.ft.l:=sum_mem (g:=partW) hf
  omega
end
end
section
section
variable {α:Type} {f:α->α->Bool}
theorem Zd (h:∀ x,f x x=true):∀ l:List α,eqL f l l=true
 | []=>rfl
 | x::l=>by rw [eqL,h,Zd h l]; rfl
theorem Ze (h:∀ x y,f x y=f y x):∀ l l':List α,eqL f l l'=eqL f l' l
 | [],[]=>rfl
 | x::l,y::l'=>by rw [eqL,eqL,h,Ze h l l']
 | [],_::_=>rfl
 | _::_,[]=>rfl
end
theorem yi (a b:Int):(a==b)=(b==a):=by
 rw [zdz]
 simp only [beq_iff_eq]
 exact eq_comm
theorem ptE_refl (x:Pt):ptE x x=true:=by simp [ptE]
theorem ptE_symm (x y:Pt):ptE x y=ptE y x:=by simp [ptE,yi x.x,yi x.y]
theorem acE_refl (x:Ac):acE x x=true:=by simp [acE,Zd ptE_refl]
theorem acE_symm (x y:Ac):acE x y=acE y x:=by simp [acE,yi x.id,yi x.fr,yi x.to,yi x.l,yi x.r,Ze ptE_symm x.via.l]
theorem intE_refl (x:Int):intE x x=true:=by simp [intE]
theorem intE_symm (x y:Int):intE x y=intE y x:=yi x y
theorem ndE_refl (x:Nd):ndE x x=true:=by simp [ndE]
theorem ndE_symm (x y:Nd):ndE x y=ndE y x:=by simp [ndE,yi x.id,yi x.at'.x,yi x.at'.y]
theorem ftE_refl (x:Ft):ftE x x=true:=by simp [ftE,Zd intE_refl]
theorem ftE_symm (x y:Ft):ftE x y=ftE y x:=by
 have e:(x.name.1.toList==y.name.1.toList)=(y.name.1.toList==x.name.1.toList):=by
  rw [zdz]
  simp only [beq_iff_eq]
  exact eq_comm
 unfold ftE
 rw [yi x.id,yi x.kind,yi x.cls,e,Ze intE_symm x.parts.l]
theorem svSame_refl (s:Sv):svSame s s=true:=by
 unfold svSame plSame
 rw [Zd ndE_refl,Zd acE_refl,Zd intE_refl,Zd ftE_refl]
 rfl
theorem svSame_symm (s t:Sv):svSame s t=svSame t s:=by
 unfold svSame plSame
 rw [Ze ndE_symm s.pl.ns.l,Ze acE_symm s.pl.as.l,Ze intE_symm s.pl.fs.l,Ze ftE_symm s.ft.l]
theorem fewP_ns {s:Sv} (h:fewS s=true):s.pl.ns.l.length<=200:=by
 simp only [fewS,fewP,zcq,decide_eq_true_iff] at h
 exact h.1.1
section
variable {S:ySM}
theorem law_areas (hT:TabCl Ftab) (hSc:SumCl S) (hS:NoS S) (hSp:∀ args,S 18 args=none) (hA:S 5 []=some (.bool true)) (s t:Sv) (id:Int):∃ N,GivesN S N 3 [.agg s.c,.agg t.c,iv id] (.bool true):=by
 obtain ⟨N1,hN1⟩:=zb8 hS s
 obtain ⟨N2,hN2⟩:=zb8 hS t
 have haw:=fun m (hm:1<=m) d out ownV own i=>gives_sum (F:=Ftab) hA m hm d out ownV own i
 cases hf1:fewS s
 ·rw [hf1] at hN1
  refine ⟨N1+4,zd (i:=i3) (ns hS (by rfl)) rfl rfl (lb rfl) (N1+3) (by omega) zk fun m hm d out tt hfr=>?_⟩
  simp only [V2,Nat.reduceAdd,i3,Sv.c,zo] at hfr
  have c0:=hN1 m (by omega)
  have ca:=haw m (by omega)
  simp only [Sv.c,zo] at c0
  simp only [i3,V0,Nat.reduceLT,Nat.reduceAdd,Nat.reduceMul,Nat.reduceLeDiff,Nat.reduceEqDiff,reduceCtorEq,hfr,c0,ca]
 ·cases hf2:fewS t
  ·rw [hf1] at hN1
   rw [hf2] at hN2
   refine ⟨N1+N2+4,zd (i:=i3) (ns hS (by rfl)) rfl rfl (lb rfl) (N1+N2+3) (by omega) zk fun m hm d out tt hfr=>?_⟩
   simp only [V2,Nat.reduceAdd,i3,Sv.c,zo] at hfr
   have c0:=hN1 m (by omega)
   have c1:=hN2 m (by omega)
   have ca:=haw m (by omega)
   simp only [Sv.c,zo] at c0 c1
   simp only [i3,V0,Nat.reduceLT,Nat.reduceAdd,Nat.reduceMul,Nat.reduceLeDiff,Nat.reduceEqDiff,reduceCtorEq,hfr,c0,c1,ca]
  ·obtain ⟨v1,v2,v3,v4⟩:=fewS_spec hf1
   obtain ⟨u1,u2,u3,u4⟩:=fewS_spec hf2
   rw [hf1] at hN1
   rw [hf2] at hN2
   have n1:=fewP_ns hf1
   obtain ⟨v,N3,hpv,hpc⟩:=at_pcheckV hT hSc hS hSp s.pl (by omega) (by omega) (fun a ha=>by have:=v1 a ha; omega)
   obtain ⟨N4,hrc⟩:=ar_check14 hS s.pl
   rw [← check_same hpv] at hrc
   obtain ⟨N5,hA1⟩:=at_areaV hS s id rfl hpc v1 (fun g hg=>by have:=v4 g hg; omega)
   obtain ⟨N6,hA2⟩:=ar_areaV hS s id rfl hrc v1 (fun g hg=>by have:=v4 g hg; omega)
   have hs1:=Y5 hS s t 100000 v1 (fun g hg=>by have:=v4 g hg; omega)
   have hs2:=ar_svSame hS s t 100000 v1 (fun g hg=>by have:=v4 g hg; omega)
   have hs3:=Y5 hS t s 100000 u1 (fun g hg=>by have:=u4 g hg; omega)
   have hs4:=Y5 hS s s 100000 v1 (fun g hg=>by have:=v4 g hg; omega)
   rw [svSame_symm t s] at hs3
   rw [svSame_refl] at hs4
   generalize areaV s id (planE s.pl v)=A at hA1 hA2
   generalize svSame s t=b at hs1 hs2 hs3
   refine ⟨N1+N2+N5+N6+s.pl.ns.l.length+s.pl.as.l.length+s.pl.fs.l.length+s.ft.l.length+t.pl.ns.l.length+t.pl.as.l.length+t.pl.fs.l.length+t.ft.l.length+100100,zd (i:=i3) (ns hS (by rfl)) rfl rfl (lb rfl) (N1+N2+N5+N6+s.pl.ns.l.length+s.pl.as.l.length+s.pl.fs.l.length+s.ft.l.length+t.pl.ns.l.length+t.pl.as.l.length+t.pl.fs.l.length+t.ft.l.length+100099) (by omega) zk fun m hm d out tt hfr=>?_⟩
   simp only [V2,Nat.reduceAdd,i3,Sv.c,zo] at hfr
   have c0:=hN1 m (by omega)
   have c1:=hN2 m (by omega)
   have c2:=hA1 m (by omega)
   have c3:=hA2 m (by omega)
   have c4:=hs1 m (by omega)
   have c5:=hs2 m (by omega)
   have c6:=hs3 m (by omega)
   have c7:=hs4 m (by omega)
   have ca:=haw m (by omega)
   simp only [Sv.c,zo] at c0 c1 c2 c3 c4 c5 c6 c7
   have eA:(A==A)=true:=by simp
   have eb:(b==b)=true:=by simp
   have q1:(false != true)=true:=rfl
   simp only [i3,V0,Nat.reduceLT,Nat.reduceAdd,Nat.reduceMul,Nat.reduceLeDiff,Nat.reduceEqDiff,reduceCtorEq,hfr,c0,c1,c2,c3,c4,c5,c6,c7,ca,eA,eqbI,eb,q1]
   refine ⟨by simp [comm],?_⟩
   simp only [V0,Nat.reduceLT,Nat.reduceAdd,Nat.reduceMul,Nat.reduceLeDiff,Nat.reduceEqDiff,reduceCtorEq,hfr]
end
theorem areas_call (W:World) (ht:Gl.Tab W) (hm:MaxOk W) (s t:Sv) (id:Int) (v u:Value) (hv:VR noPl W (.agg s.c) v) (hu:VR noPl W (.agg t.c) u):Calls Tryz.prog 3 #[v,u,.int .i64 id] W fun e W'=>e=.returned (.bool true)/\Below W.heap.size W W':=by
 obtain ⟨N,hN⟩:=law_areas tab_cl sumclL nosL (fun args=>sl_none (by decide) (by decide) args) aw_sum s t id
 have h:=run_calls yP tab_ok (W:=W) (sumL ht hm) (hN N (zcs _) 0 (fun _=>[]) [] [] 0) (args':=[v,u,.int .i64 id]) (((VRs.nil.cons (.int _ _)).cons hu).cons hv)
 refine h.mono ?_
 rintro e W' ⟨y,β',rfl,hy,hb⟩
 obtain rfl:=Zl hy
 exact ⟨rfl,hb⟩
end
end Go.Proofs.YtelocmclpfincaaGreatDoor
end
