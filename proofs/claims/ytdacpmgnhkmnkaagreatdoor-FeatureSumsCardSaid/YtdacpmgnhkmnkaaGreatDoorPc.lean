/-
  A part of the proof: the small machine, its simulation and its walks.
-/
import Derived.Test.YtdacpmgnhkmnkaaGreatDoorPb
set_option linter.unusedVariables false
set_option linter.unusedSimpArgs false
set_option maxRecDepth 1000000
set_option maxHeartbeats 3200000
open Nat renaming reduceLT → Xa, reduceAdd → Xb, reduceMul → Xc, reduceLeDiff → Xd, reduceEqDiff → Xe
section
namespace Go.Proofs.YtdacpmgnhkmnkaaGreatDoor
open Go Go.RowKit
section
theorem yk (a b c d:Int):eqvs [1,1] [.int .i64 a,.int .i64 b] [.int .i64 c,.int .i64 d]=some ((a==c)&&(b==d)):=by
 simp only [eqvs,eqv]
 cases h1:a==c <;> cases h2:b==d <;> simp [h1,h2]
def ptE (a b:Pt):Bool:=(a.x==b.x)&&(a.y==b.y)
def bfP (a b:Pt):Bool:=decide (a.x<b.x)||(a.x==b.x&&decide (a.y<b.y))
def lwP (a b:Pt):Bool:=decide (b.y<a.y)||(b.y==a.y&&decide (b.x<a.x))
def swP (a b:Pt):Pt × Pt:=bif bfP b a then (b,a) else (a,b)
def sharedI (a b c d:Pt):Int :=
 let f:=bif bfP (swP a b).1 (swP c d).1 then (swP c d).1 else (swP a b).1
 let l:=bif bfP (swP c d).2 (swP a b).2 then (swP c d).2 else (swP a b).2
 bif ptE f l then 1 else bif bfP f l then 2 else 0
section
variable {S:ySM}
theorem at_shared (hS:NoS S) (a b c d:Pt):GivesN S 4 187 [.agg a.c,.agg b.c,.agg c.c,.agg d.c] (.int .i64 (sharedI a b c d)):=by
 refine zh (i:=i187) (ns hS (by rfl)) rfl rfl (lb rfl) (3) (by omega) zo fun m hm dd out t hfr=>?_
 simp only [V2,Xb,i187,Pt.c] at hfr
 have cb:∀ (u v:Pt) dd out ownV own i,callN Ftab S m dd out ownV own i 220 [.agg [.int .i64 u.x,.int .i64 u.y],.agg [.int .i64 v.x,.int .i64 v.y]]=some (.r,.bool (bfP u v),own):=fun u v dd out ownV own i=>at_before hS u v m (by omega) dd out ownV own i
 unfold sharedI
 obtain ⟨p1,p2,hp,hs1⟩:∃ p1 p2:Pt,swP a b=(p1,p2)/\True:=⟨_,_,rfl,trivial⟩
 obtain ⟨q1,q2,hq,hs2⟩:∃ q1 q2:Pt,swP c d=(q1,q2)/\True:=⟨_,_,rfl,trivial⟩
 simp only [hp,hq]
 have fin:∀ (K:yKM) (t:List IV),Slots 39 t [(4,.ptrM dd 0 0),(5,.ptrM dd 1 0),(6,.ptrM dd 2 0),(7,.ptrM dd 3 0)] ->
   (∀ t' O',Slots 39 t' [(8,.int .i64 (let f:=bif bfP p1 q1 then q1 else p1; let l:=bif bfP q2 p2 then q2 else p2; bif ptE f l then 1 else bif bfP f l then 2 else 0))]->K .ret ⟨t',O'⟩) ->
   Ex (callN Ftab S m) dd out m (i187.body.sub [1,1,1]) K ⟨t,.cells [.int .i64 p1.x,.int .i64 p1.y]::.cells [.int .i64 p2.x,.int .i64 p2.y]::.cells [.int .i64 q1.x,.int .i64 q1.y]::.cells [.int .i64 q2.x,.int .i64 q2.y]::[.free,.free]⟩:=by
  intro K t hfr hK
  simp only [ze,zg] at hfr
  simp only [i187,IC.sub,V0,sevalprocAttr,hfr]
  refine ⟨by simp [comm],?_⟩
  cases h1:bfP p1 q1 <;> cases h2:bfP q2 p2
  ·cases h3:ptE p1 p2
   ·cases h4:bfP p1 p2
    ·have h3':=h3
     unfold ptE at h3'
     simp only [V0,sevalprocAttr,hfr,cb,h1,h2,h4,yk,h3',zhh]
     exact hK _ _ (by simp only [V0,sevalprocAttr,hfr,h1,h2,h3,h4,cond_true,cond_false])
    ·have h3':=h3
     unfold ptE at h3'
     simp only [V0,sevalprocAttr,hfr,cb,h1,h2,h4,yk,h3',zhh]
     exact hK _ _ (by simp only [V0,sevalprocAttr,hfr,h1,h2,h3,h4,cond_true,cond_false])
   ·have h3':=h3
    unfold ptE at h3'
    simp only [V0,sevalprocAttr,hfr,cb,h1,h2,yk,h3',zhh]
    exact hK _ _ (by simp only [V0,sevalprocAttr,hfr,h1,h2,h3,cond_true,cond_false])
  ·cases h3:ptE p1 q2
   ·cases h4:bfP p1 q2
    ·have h3':=h3
     unfold ptE at h3'
     simp only [V0,sevalprocAttr,hfr,cb,h1,h2,h4,yk,h3',zhh]
     exact hK _ _ (by simp only [V0,sevalprocAttr,hfr,h1,h2,h3,h4,cond_true,cond_false])
    ·have h3':=h3
     unfold ptE at h3'
     simp only [V0,sevalprocAttr,hfr,cb,h1,h2,h4,yk,h3',zhh]
     exact hK _ _ (by simp only [V0,sevalprocAttr,hfr,h1,h2,h3,h4,cond_true,cond_false])
   ·have h3':=h3
    unfold ptE at h3'
    simp only [V0,sevalprocAttr,hfr,cb,h1,h2,yk,h3',zhh]
    exact hK _ _ (by simp only [V0,sevalprocAttr,hfr,h1,h2,h3,cond_true,cond_false])
  ·cases h3:ptE q1 p2
   ·cases h4:bfP q1 p2
    ·have h3':=h3
     unfold ptE at h3'
     simp only [V0,sevalprocAttr,hfr,cb,h1,h2,h4,yk,h3',zhh]
     exact hK _ _ (by simp only [V0,sevalprocAttr,hfr,h1,h2,h3,h4,cond_true,cond_false])
    ·have h3':=h3
     unfold ptE at h3'
     simp only [V0,sevalprocAttr,hfr,cb,h1,h2,h4,yk,h3',zhh]
     exact hK _ _ (by simp only [V0,sevalprocAttr,hfr,h1,h2,h3,h4,cond_true,cond_false])
   ·have h3':=h3
    unfold ptE at h3'
    simp only [V0,sevalprocAttr,hfr,cb,h1,h2,yk,h3',zhh]
    exact hK _ _ (by simp only [V0,sevalprocAttr,hfr,h1,h2,h3,cond_true,cond_false])
  ·cases h3:ptE q1 q2
   ·cases h4:bfP q1 q2
    ·have h3':=h3
     unfold ptE at h3'
     simp only [V0,sevalprocAttr,hfr,cb,h1,h2,h4,yk,h3',zhh]
     exact hK _ _ (by simp only [V0,sevalprocAttr,hfr,h1,h2,h3,h4,cond_true,cond_false])
    ·have h3':=h3
     unfold ptE at h3'
     simp only [V0,sevalprocAttr,hfr,cb,h1,h2,h4,yk,h3',zhh]
     exact hK _ _ (by simp only [V0,sevalprocAttr,hfr,h1,h2,h3,h4,cond_true,cond_false])
   ·have h3':=h3
    unfold ptE at h3'
    simp only [V0,sevalprocAttr,hfr,cb,h1,h2,yk,h3',zhh]
    exact hK _ _ (by simp only [V0,sevalprocAttr,hfr,h1,h2,h3,cond_true,cond_false])
 have hsw:∀ u v:Pt,swP u v=bif bfP v u then (v,u) else (u,v):=fun _ _=>rfl
 rw [show i187.body=.seq (i187.body.sub [0]) (.seq (i187.body.sub [1,0]) (.seq (i187.body.sub [1,1,0]) (i187.body.sub [1,1,1]))) from rfl]
 generalize hB:i187.body.sub [1,1,1]=B at fin ⊢
 rw [hsw] at hp hq
 cases h1:bfP b a <;> cases h2:bfP d c
 ·rw [h1] at hp
  rw [h2] at hq
  simp only [cond_true,cond_false,zic] at hp hq
  obtain ⟨rfl,rfl⟩:=hp
  obtain ⟨rfl,rfl⟩:=hq
  simp only [i187,IC.sub,V0,sevalprocAttr,hfr,cb,h1,h2]
  refine fin _ _ (by simp only [V0,sevalprocAttr,hfr]) fun t' O' ht=>?_
  simp only [ze,zg] at ht
  simp only [V0,sevalprocAttr,ht]
 ·rw [h1] at hp
  rw [h2] at hq
  simp only [cond_true,cond_false,zic] at hp hq
  obtain ⟨rfl,rfl⟩:=hp
  obtain ⟨rfl,rfl⟩:=hq
  simp only [i187,IC.sub,V0,sevalprocAttr,hfr,cb,h1,h2]
  refine fin _ _ (by simp only [V0,sevalprocAttr,hfr]) fun t' O' ht=>?_
  simp only [ze,zg] at ht
  simp only [V0,sevalprocAttr,ht]
 ·rw [h1] at hp
  rw [h2] at hq
  simp only [cond_true,cond_false,zic] at hp hq
  obtain ⟨rfl,rfl⟩:=hp
  obtain ⟨rfl,rfl⟩:=hq
  simp only [i187,IC.sub,V0,sevalprocAttr,hfr,cb,h1,h2]
  refine fin _ _ (by simp only [V0,sevalprocAttr,hfr]) fun t' O' ht=>?_
  simp only [ze,zg] at ht
  simp only [V0,sevalprocAttr,ht]
 ·rw [h1] at hp
  rw [h2] at hq
  simp only [cond_true,cond_false,zic] at hp hq
  obtain ⟨rfl,rfl⟩:=hp
  obtain ⟨rfl,rfl⟩:=hq
  simp only [i187,IC.sub,V0,sevalprocAttr,hfr,cb,h1,h2]
  refine fin _ _ (by simp only [V0,sevalprocAttr,hfr]) fun t' O' ht=>?_
  simp only [ze,zg] at ht
  simp only [V0,sevalprocAttr,ht]
noncomputable def meetI (a b c d:Pt):Int:=bif [a,b,c,d].all nearP then (bif ptE a b then (bif onI c d a then 1 else 0) else bif ptE c d then (bif onI a b c then 1 else 0) else
 bif sideI a b c==0&&sideI a b d==0 then sharedI a b c d else
 bif decide (wrapI .i64 (sideI a b c*sideI a b d)<=0)&&decide (wrapI .i64 (sideI c d a*sideI c d b)<=0) then 1 else 0) else 0
theorem at_meet (hS:NoS S) (a b c d:Pt):GivesN S 14 148 [.agg a.c,.agg b.c,.agg c.c,.agg d.c] (.int .i64 (meetI a b c d)):=by
 refine zh (i:=i148) (ns hS (by rfl)) rfl rfl (lb rfl) (13) (by omega) zo fun m hm dd out t hfr=>?_
 simp only [V2,Xb,i148,Pt.c] at hfr
 have c0:=fun dd out ownV own i=>zdi hS [a,b,c,d] (by simp) m (by simp; omega) dd out ownV own i
 simp only [zgj,zh4,Pt.c,zgq,zgz,zf,zf3,zgb,zg5,Xb] at c0
 have cs:∀ (u v w:Pt) dd out ownV own i,callN Ftab S m dd out ownV own i 186 [.agg [.int .i64 u.x,.int .i64 u.y],.agg [.int .i64 v.x,.int .i64 v.y],.agg [.int .i64 w.x,.int .i64 w.y]]=some (.r,.int .i64 (sideI u v w),own):=fun u v w dd out ownV own i=>at_side hS u v w m (by omega) dd out ownV own i
 have co:∀ (u v w:Pt) dd out ownV own i,callN Ftab S m dd out ownV own i 111 [.agg [.int .i64 u.x,.int .i64 u.y],.agg [.int .i64 v.x,.int .i64 v.y],.agg [.int .i64 w.x,.int .i64 w.y]]=some (.r,.bool (onI u v w),own):=fun u v w dd out ownV own i=>at_on hS u v w m (by omega) dd out ownV own i
 have ch:=fun dd out ownV own i=>at_shared hS a b c d m (by omega) dd out ownV own i
 simp only [Pt.c,zf] at ch
 unfold meetI
 cases hb:[a,b,c,d].all nearP
 ·simp only [hb] at c0
  simp only [i148,V0,sevalprocAttr,hfr,zdd,c0,cond_false]
 ·simp only [hb] at c0
  cases h1:ptE a b
  ·have h1':(a.x==b.x&&a.y==b.y)=false:=h1
   cases h2:ptE c d
   ·have h2':(c.x==d.x&&c.y==d.y)=false:=h2
    cases h3:sideI a b c==0
    ·cases h5:decide (wrapI .i64 (sideI a b c*sideI a b d)<=0)
     ·simp only [i148,V0,sevalprocAttr,hfr,zdd,c0,cs,co,ch,yk,h1',h2',h3,h5,zhh,cond_false,cond_true,zgo]
      refine ⟨by simp [comm],?_⟩
      simp only [V0,sevalprocAttr,hfr]
     ·cases h6:decide (wrapI .i64 (sideI c d a*sideI c d b)<=0)
      ·simp only [i148,V0,sevalprocAttr,hfr,zdd,c0,cs,co,ch,yk,h1',h2',h3,h5,h6,zhh,cond_false,cond_true,zgo]
       refine ⟨by simp [comm],?_⟩
       simp only [V0,sevalprocAttr,hfr]
      ·simp only [i148,V0,sevalprocAttr,hfr,zdd,c0,cs,co,ch,yk,h1',h2',h3,h5,h6,zhh,cond_false,cond_true,zgo]
       refine ⟨by simp [comm],?_⟩
       simp only [V0,sevalprocAttr,hfr]
    ·cases h4:sideI a b d==0
     ·cases h5:decide (wrapI .i64 (sideI a b c*sideI a b d)<=0)
      ·simp only [i148,V0,sevalprocAttr,hfr,zdd,c0,cs,co,ch,yk,h1',h2',h3,h4,h5,zhh,cond_false,cond_true,zgo,zh3]
       refine ⟨by simp [comm],?_⟩
       simp only [V0,sevalprocAttr,hfr]
      ·cases h6:decide (wrapI .i64 (sideI c d a*sideI c d b)<=0)
       ·simp only [i148,V0,sevalprocAttr,hfr,zdd,c0,cs,co,ch,yk,h1',h2',h3,h4,h5,h6,zhh,cond_false,cond_true,zgo,zh3]
        refine ⟨by simp [comm],?_⟩
        simp only [V0,sevalprocAttr,hfr]
       ·simp only [i148,V0,sevalprocAttr,hfr,zdd,c0,cs,co,ch,yk,h1',h2',h3,h4,h5,h6,zhh,cond_false,cond_true,zgo,zh3]
        refine ⟨by simp [comm],?_⟩
        simp only [V0,sevalprocAttr,hfr]
     ·simp only [i148,V0,sevalprocAttr,hfr,zdd,c0,cs,co,ch,yk,h1',h2',h3,h4,zhh,cond_false,cond_true]
   ·have h2':(c.x==d.x&&c.y==d.y)=true:=h2
    cases h3:onI a b c
    ·simp only [i148,V0,sevalprocAttr,hfr,zdd,c0,cs,co,ch,yk,h1',h2',h3,zhh,cond_false,cond_true]
    ·simp only [i148,V0,sevalprocAttr,hfr,zdd,c0,cs,co,ch,yk,h1',h2',h3,zhh,cond_false,cond_true]
  ·have h1':(a.x==b.x&&a.y==b.y)=true:=h1
   cases h3:onI c d a
   ·simp only [i148,V0,sevalprocAttr,hfr,zdd,c0,cs,co,ch,yk,h1',h3,zhh,cond_false,cond_true]
   ·simp only [i148,V0,sevalprocAttr,hfr,zdd,c0,cs,co,ch,yk,h1',h3,zhh,cond_false,cond_true]
noncomputable def lessP (o a b:Pt):Bool:=([o,a,b].all nearP&&!ptE a o&&!ptE b o)&&(bif (lwP o a != lwP o b) then lwP o b else decide (0<twI o a b))
theorem at_less (hS:NoS S) (o a b:Pt):GivesN S 8 154 [.agg o.c,.agg a.c,.agg b.c] (.bool (lessP o a b)):=by
 refine zh (i:=i154) (ns hS (by rfl)) rfl rfl (lb rfl) (7) (by omega) zn fun m hm d out t hfr=>?_
 simp only [V2,Xb,i154,Pt.c] at hfr
 have c0:=fun d out ownV own i=>zdi hS [o,a,b] (by simp) m (by simp; omega) d out ownV own i
 simp only [zgj,zh4,Pt.c,zgq,zgz,zf,zf3,zgb,zg5,Xb] at c0
 have cl:∀ (u v:Pt) d out ownV own i,callN Ftab S m d out ownV own i 189 [.agg [.int .i64 u.x,.int .i64 u.y],.agg [.int .i64 v.x,.int .i64 v.y]]=some (.r,.bool (lwP u v),own):=fun u v d out ownV own i=>at_lower hS u v m (by omega) d out ownV own i
 have ct:=zew hS o a b m (by omega)
 simp only [Pt.c,zf] at ct
 unfold lessP
 cases hb:[o,a,b].all nearP
 ·simp only [hb] at c0
  simp only [i154,V0,sevalprocAttr,hfr,Y6,c0,zgo]
 ·simp only [hb] at c0
  cases h1:ptE a o
  ·have h1':(a.x==o.x&&a.y==o.y)=false:=h1
   cases h2:ptE b o
   ·have h2':(b.x==o.x&&b.y==o.y)=false:=h2
    have q1:(true != (false==false))=false:=rfl
    have q2:(true != (false==true))=true:=rfl
    have q3:(true != (true==false))=true:=rfl
    have q4:(true != (true==true))=false:=rfl
    have r1:(false != false)=false:=rfl
    have r2:(false != true)=true:=rfl
    have r3:(true != false)=true:=rfl
    have r4:(true != true)=false:=rfl
    cases h3:lwP o a <;> cases h4:lwP o b
    ·simp only [i154,V0,sevalprocAttr,hfr,Y6,c0,cl,ct,yk,h1',h2',h3,h4,zhh,eqbI,e_eqb]
     refine ⟨by simp [comm],?_⟩
     simp only [V0,sevalprocAttr,hfr,cl,ct,h3,h4,gt_iff_lt,q1,q2,q3,q4,r1,r2,r3,r4,cond_true,cond_false]
    ·simp only [i154,V0,sevalprocAttr,hfr,Y6,c0,cl,ct,yk,h1',h2',h3,h4,zhh,eqbI,e_eqb]
     refine ⟨by simp [comm],?_⟩
     simp only [V0,sevalprocAttr,hfr,cl,ct,h3,h4,gt_iff_lt,q1,q2,q3,q4,r1,r2,r3,r4,cond_true,cond_false]
    ·simp only [i154,V0,sevalprocAttr,hfr,Y6,c0,cl,ct,yk,h1',h2',h3,h4,zhh,eqbI,e_eqb]
     refine ⟨by simp [comm],?_⟩
     simp only [V0,sevalprocAttr,hfr,cl,ct,h3,h4,gt_iff_lt,q1,q2,q3,q4,r1,r2,r3,r4,cond_true,cond_false]
    ·simp only [i154,V0,sevalprocAttr,hfr,Y6,c0,cl,ct,yk,h1',h2',h3,h4,zhh,eqbI,e_eqb]
     refine ⟨by simp [comm],?_⟩
     simp only [V0,sevalprocAttr,hfr,cl,ct,h3,h4,gt_iff_lt,q1,q2,q3,q4,r1,r2,r3,r4,cond_true,cond_false]
   ·have h2':(b.x==o.x&&b.y==o.y)=true:=h2
    simp only [i154,V0,sevalprocAttr,hfr,Y6,c0,cl,ct,yk,h1',h2',zhh,zh3,zgo]
  ·have h1':(a.x==o.x&&a.y==o.y)=true:=h1
   simp only [i154,V0,sevalprocAttr,hfr,Y6,c0,cl,ct,yk,h1',zhh,zh3,zgo]
end
end
section
noncomputable def crR (a b c d:Pt):Int:=wrapI .i64 (wrapI .i64 (wrapI .i64 (b.x - a.x)*wrapI .i64 (d.y - c.y)) - wrapI .i64 (wrapI .i64 (b.y - a.y)*wrapI .i64 (d.x - c.x)))
noncomputable def dotR (a b c d:Pt):Int:=wrapI .i64 (wrapI .i64 (wrapI .i64 (b.x - a.x)*wrapI .i64 (d.x - c.x))+wrapI .i64 (wrapI .i64 (b.y - a.y)*wrapI .i64 (d.y - c.y)))
section
variable {S:ySM}
noncomputable def onR (a b p:Pt):Bool:=[a,b,p].all nearP&&(crR a b a p==0&&decide (dotR a p b p<=0))
end
end
section
noncomputable def quartI (o p:Pt):Int:=bif decide (0<wrapI .i64 (p.x - o.x))&&decide (0<=wrapI .i64 (p.y - o.y)) then 0 else bif decide (wrapI .i64 (p.x - o.x)<=0)&&decide (0<wrapI .i64 (p.y - o.y)) then 1 else bif decide (wrapI .i64 (p.x - o.x)<0) then 2 else 3
noncomputable def lessR (o a b:Pt):Bool:=([o,a,b].all nearP&&(!ptE a o&&!ptE b o))&&(decide (quartI o a<quartI o b)||(quartI o a==quartI o b&&decide (0<crR o a o b)))
end
section
def ascL:List Int->Bool
 | a::b::t=>decide (a<b)&&ascL (b::t)
 | _=>true
def ascTo (l:List Int) (k:Nat):Prop:=∀ i x y,i+1<k->l[i]?=some x->l[i+1]?=some y->x<y
theorem Zp:∀ {l:List Int},ascL l=true↔ascTo l l.length
 | []=>by simp [ascL,ascTo]
 | [a]=>by simp [ascL,ascTo]
 | a::b::t=>by
  have ih:=Zp (l:=b::t)
  simp only [ascL,zf6,decide_eq_true_eq,ih]
  constructor
  ·rintro ⟨h1,h2⟩ i x y hi hx hy
   cases i with
   | zero =>
    simp only [zg8,zgc,zf5,zg5] at hx hy
    subst hx hy
    exact h1
   | succ i =>
    simp only [zgc] at hx hy
    exact h2 i x y (by simp only [zf3] at hi ⊢; omega) hx hy
  ·intro h
   refine ⟨h 0 a b (by simp) rfl rfl,fun i x y hi hx hy=>h (i+1) x y (by simp only [zf3] at hi ⊢; omega) ?_ ?_⟩
   ·simpa using hx
   ·simpa using hy
def fIdx {α:Type} (q:α->Bool) (l:List α):Int:=match l.findIdx? q with
 | some i=>(i:Int)
 | none=>-1
theorem zdj {α:Type} {q:α->Bool} {l:List α} {i:Nat} {x:α} (hx:l[i]?=some x) (hq:q x=true) (ha:(l.take i).findIdx? q=none):fIdx q l=(i:Int):=by
 have h:l.findIdx? q=some i:=by
  rw [zh0]
  obtain ⟨h1,rfl⟩:=zfz.1 hx
  refine ⟨h1,hq,fun j hj=>?_⟩
  have hm:=zij.1 ha (l[j]'(by omega)) (by
   rw [List.mem_iff_getElem]
   exact ⟨j,by simp; omega,by simp⟩)
  simp [hm]
 simp only [fIdx,h]
theorem za8 {α:Type} {q:α->Bool} {l:List α}:decide (0<=fIdx q l)=l.any q:=by
 unfold fIdx
 cases h:l.findIdx? q with
 | none =>
  have:=zij.1 h
  have h2:l.any q=false:=by
   rw [zhv]
   intro x hx
   simp [this x hx]
  simp [h2]
 | some i =>
  obtain ⟨h1,h2,_⟩:=zh0.1 h
  have h3:l.any q=true:=zh5.2 ⟨_,zgt h1,h2⟩
  rw [h3]
  simp only [decide_eq_true_eq]
  omega
section
variable {S:ySM}
theorem at_asc (hS:NoS S) (l:SlOf 1 intc):GivesN S (l.l.length+4) 62 [l.v] (.bool (ascL l.l)):=by
 refine zh (i:=i62) (ns hS (by rfl)) rfl rfl (lb rfl) (l.l.length+3) (by omega) zn fun m hm d out t hfr=>?_
 simp only [V2,Xb,i62] at hfr
 have hlf:=l.few
 simp only [i62,V0,sevalprocAttr,hfr]
 refine zd (fun jj st=>∃ (i:Nat) (O:yLO),l.l.length - i<=jj/\(1<=i/\i<=l.l.length+1)/\ascTo l.l i/\st.own=O/\Slots 20 st.t [(0,l.v),(3,iv i)]) l.l.length (by omega) ⟨1,[],by omega,by omega,fun i x y h _ _=>by omega,rfl,by simp only [V0,sevalprocAttr,hfr,Int.natCast_one]⟩ ?_
 rintro jj ⟨t,own⟩ K ⟨i,O,hjj,hi,ha,ho,hfr⟩ hn he hr
 dsimp only at ho hfr
 subst ho
 simp only [V3] at hfr
 by_cases h:i<l.l.length
 ·obtain ⟨x,hx⟩:=gx (l:=l.l) (i:=i) h
  have h0:i - 1<l.l.length:=by omega
  obtain ⟨y,hy⟩:=gx (l:=l.l) (i:=i - 1) h0
  have hrx:rdN (l.l.flatMap intc) (i*1) 1=some [.int .i64 x]:=zb zk 0 1 hx (by omega)
  have hry:rdN (l.l.flatMap intc) ((i - 1)*1) 1=some [.int .i64 y]:=zb zk 0 1 hy (by omega)
  have hw:wrapI .i64 ((i:Int)+1)=((i+1:Nat):Int):=we
  have hv:wrapI .i64 ((i:Int) - 1)=((i - 1:Nat):Int):=we
  by_cases hb:x<=y
  ·simp only [V0,sevalprocAttr,hfr,h,za l h,za l h0,hrx,hry,hv,ge_iff_le,hb]
   refine ⟨by simp [comm],?_⟩
   simp only [V0,sevalprocAttr,hfr]
   refine hr _ ?_
   have hf:ascL l.l=false:=by
    rw [← zh8]
    intro hc
    have:=Zp.1 hc (i - 1) y x (by omega) hy (by rw [show i - 1+1=i by omega]; exact hx)
    omega
   simp only [V0,sevalprocAttr,hfr,hf]
  ·simp only [V0,sevalprocAttr,hfr,h,za l h,za l h0,hrx,hry,hv,ge_iff_le,hb]
   refine ⟨by simp [comm],?_⟩
   simp only [V0,sevalprocAttr,hfr,hw]
   refine hn _ (l.l.length - (i+1)) (by omega) ⟨i+1,_,by omega,by omega,?_,rfl,by simp only [V0,sevalprocAttr,hfr,hw]⟩
   intro j u v hj hu hv
   by_cases hj2:j+1<i
   ·exact ha j u v hj2 hu hv
   ·have e:j=i - 1:=by omega
    subst e
    rw [show i - 1+1=i by omega] at hv
    rw [hy] at hu
    rw [hx] at hv
    cases hu
    cases hv
    omega
 ·simp only [V0,sevalprocAttr,hfr,h]
  refine he _ _ ?_
  have hf:ascL l.l=true:=Zp.2 fun j u v hj hu hv=>ha j u v (by omega) hu hv
  simp only [V0,sevalprocAttr,hfr,hf]
theorem at_idxI (hS:NoS S) (l:SlOf 1 intc) {α':Type} (q:Int->Bool) (gf:FuncId) (caps:List IV) (Nc:Nat) (hc:∀ m,Nc<=m->∀ d out ownV own id (x:Int),callN Ftab S m d out ownV own id gf (iv x::caps)=some (.r,.bool (q x),own)) :
  GivesN S (Nc+l.l.length+4) 80 [l.v,.fn gf [] caps] (.int .i64 (fIdx q l.l)):=by
 refine zh (i:=i80) (ns hS (by rfl)) rfl rfl (lb rfl) (Nc+l.l.length+3) (by omega) zo fun m hm d out t hfr=>?_
 simp only [V2,Xb,i80] at hfr
 simp only [i80,V0,sevalprocAttr,hfr]
 have hlf:=l.few
 refine zd (fun jj st=>∃ (i:Nat) (O:yLO),l.l.length - i<=jj/\i<=l.l.length/\(l.l.take i).findIdx? q=none/\st.own=O/\Slots 19 st.t [(0,l.v),(1,.fn gf [] caps),(7,iv (l.l.length:Nat)),(8,iv i)]) l.l.length (by omega) ⟨0,[],by omega,by omega,by simp,rfl,by simp only [V0,sevalprocAttr,hfr,zg4]⟩ ?_
 rintro jj ⟨t,own⟩ K ⟨i,O,hjj,hi,ha,ho,hfr⟩ hn he hr
 dsimp only at ho hfr
 subst ho
 simp only [V3] at hfr
 by_cases h:i<l.l.length
 ·obtain ⟨x,hx⟩:=gx (l:=l.l) (i:=i) h
  have hrd:rdN (l.l.flatMap intc) (i*1) 1=some [.int .i64 x]:=zb zk 0 1 hx (by omega)
  have hw:wrapI .i64 ((i:Int)+1)=((i+1:Nat):Int):=we
  have cc:=fun d out ownV own id=>hc m (by omega) d out ownV own id x
  simp only [zf,Pt.c] at cc
  cases hq:q x
  ·simp only [V0,sevalprocAttr,hfr,h,za l h,hrd,cc,hq,hw]
   refine hn _ (l.l.length - (i+1)) (by omega) ⟨i+1,_,by omega,by omega,?_,rfl,by simp only [V0,sevalprocAttr,hfr,cc,hq,hw]⟩
   rw [zhb,hx,zhq,List.findIdx?_append,ha]
   simp [List.findIdx?_cons,hq]
  ·simp only [V0,sevalprocAttr,hfr,h,za l h,hrd,cc,hq]
   refine hr _ ?_
   simp only [V0,sevalprocAttr,hfr,zdj hx hq ha]
 ·simp only [V0,sevalprocAttr,hfr,h]
  refine he _ _ ?_
  have hall:fIdx q l.l=-1:=by
   rw [zgg (by omega)] at ha
   simp only [fIdx,ha]
  simp only [V0,sevalprocAttr,hfr,hall]
theorem at_conI (hS:NoS S) (l:SlOf 1 intc) (q:Int->Bool) (gf:FuncId) (caps:List IV) (Nc:Nat) (hc:∀ m,Nc<=m->∀ d out ownV own id (x:Int),callN Ftab S m d out ownV own id gf (iv x::caps)=some (.r,.bool (q x),own)) :
  GivesN S (Nc+l.l.length+6) 51 [l.v,.fn gf [] caps] (.bool (l.l.any q)):=by
 refine zh (i:=i51) (ns hS (by rfl)) rfl rfl (lb rfl) (Nc+l.l.length+5) (by omega) zn fun m hm d out t hfr=>?_
 simp only [V2,Xb,i51] at hfr
 have cc:=fun d out ownV own id=>at_idxI hS l (α':=Unit) q gf caps Nc hc m (by omega) d out ownV own id
 have hz:decide (0<=fIdx q l.l)=l.l.any q:=za8
 simp only [i51,V0,sevalprocAttr,hfr,cc,ge_iff_le,hz]
theorem at_idxP (hS:NoS S) (l:SlOf 2 Pt.c) {α':Type} (q:Pt->Bool) (gf:FuncId) (caps:List IV) (Nc:Nat) (hc:∀ m,Nc<=m->∀ d out ownV own id (x:Pt),callN Ftab S m d out ownV own id gf (.agg x.c::caps)=some (.r,.bool (q x),own)) :
  GivesN S (Nc+l.l.length+4) 144 [l.v,.fn gf [] caps] (.int .i64 (fIdx q l.l)):=by
 refine zh (i:=i144) (ns hS (by rfl)) rfl rfl (lb rfl) (Nc+l.l.length+3) (by omega) zo fun m hm d out t hfr=>?_
 simp only [V2,Xb,i144] at hfr
 simp only [i144,V0,sevalprocAttr,hfr]
 have hlf:=l.few
 refine zd (fun jj st=>∃ (i:Nat) (O:yLO),l.l.length - i<=jj/\i<=l.l.length/\(l.l.take i).findIdx? q=none/\st.own=O/\Slots 19 st.t [(0,l.v),(1,.fn gf [] caps),(7,iv (l.l.length:Nat)),(8,iv i)]) l.l.length (by omega) ⟨0,[],by omega,by omega,by simp,rfl,by simp only [V0,sevalprocAttr,hfr,zg4]⟩ ?_
 rintro jj ⟨t,own⟩ K ⟨i,O,hjj,hi,ha,ho,hfr⟩ hn he hr
 dsimp only at ho hfr
 subst ho
 simp only [V3] at hfr
 by_cases h:i<l.l.length
 ·obtain ⟨x,hx⟩:=gx (l:=l.l) (i:=i) h
  have hrd:rdN (l.l.flatMap Pt.c) (i*2) 2=some [.int .i64 x.x,.int .i64 x.y]:=(zb (sz:=2) (fun _=>rfl) 0 2 hx (by omega)).trans rfl
  have hw:wrapI .i64 ((i:Int)+1)=((i+1:Nat):Int):=we
  have cc:=fun d out ownV own id=>hc m (by omega) d out ownV own id x
  simp only [zf,Pt.c] at cc
  cases hq:q x
  ·simp only [V0,sevalprocAttr,hfr,h,za l h,hrd,cc,hq,hw]
   refine hn _ (l.l.length - (i+1)) (by omega) ⟨i+1,_,by omega,by omega,?_,rfl,by simp only [V0,sevalprocAttr,hfr,cc,hq,hw]⟩
   rw [zhb,hx,zhq,List.findIdx?_append,ha]
   simp [List.findIdx?_cons,hq]
  ·simp only [V0,sevalprocAttr,hfr,h,za l h,hrd,cc,hq]
   refine hr _ ?_
   simp only [V0,sevalprocAttr,hfr,zdj hx hq ha]
 ·simp only [V0,sevalprocAttr,hfr,h]
  refine he _ _ ?_
  have hall:fIdx q l.l=-1:=by
   rw [zgg (by omega)] at ha
   simp only [fIdx,ha]
  simp only [V0,sevalprocAttr,hfr,hall]
theorem at_conP (hS:NoS S) (l:SlOf 2 Pt.c) (q:Pt->Bool) (gf:FuncId) (caps:List IV) (Nc:Nat) (hc:∀ m,Nc<=m->∀ d out ownV own id (x:Pt),callN Ftab S m d out ownV own id gf (.agg x.c::caps)=some (.r,.bool (q x),own)) :
  GivesN S (Nc+l.l.length+6) 102 [l.v,.fn gf [] caps] (.bool (l.l.any q)):=by
 refine zh (i:=i102) (ns hS (by rfl)) rfl rfl (lb rfl) (Nc+l.l.length+5) (by omega) zn fun m hm d out t hfr=>?_
 simp only [V2,Xb,i102] at hfr
 have cc:=fun d out ownV own id=>at_idxP hS l (α':=Unit) q gf caps Nc hc m (by omega) d out ownV own id
 have hz:decide (0<=fIdx q l.l)=l.l.any q:=za8
 simp only [i102,V0,sevalprocAttr,hfr,cc,ge_iff_le,hz]
def badId (n:Int):Bool:=decide (n<1)||decide (1073741824<n)
theorem at_num1 (hS:NoS S) (x:Int):GivesN S 2 100 [iv x] (.bool (badId x)):=by
 refine zh (i:=i100) (ns hS (by rfl)) rfl rfl (lb rfl) (1) (by omega) zn fun m hm d out t hfr=>?_
 simp only [V2,Xb,i100] at hfr
 unfold badId
 cases h1:decide (x<1)
 ·simp only [i100,V0,sevalprocAttr,hfr,gt_iff_lt,h1,zhm]
 ·simp only [i100,V0,sevalprocAttr,hfr,gt_iff_lt,h1,zhu]
theorem at_num (hS:NoS S) (l:SlOf 1 intc):GivesN S (l.l.length+10) 63 [l.v] (.bool (!(l.l.any badId))):=by
 refine zh (i:=i63) (ns hS (by rfl)) rfl rfl (lb rfl) (l.l.length+9) (by omega) zn fun m hm d out t hfr=>?_
 simp only [V2,Xb,i63] at hfr
 have cc:=fun d out ownV own id=>at_conI hS l badId 100 [] 2 (fun m hm d out ownV own id x=>at_num1 hS x m hm d out ownV own id) m (by omega) d out ownV own id
 simp only [i63,V0,sevalprocAttr,hfr,cc]
def badPt (p:Pt):Bool:=decide (p.x < -1048576)||(decide (1048576<p.x)||(decide (p.y < -1048576)||decide (1048576<p.y)))
theorem zex (hS:NoS S) (p:Pt):GivesN S 2 101 [.agg p.c] (.bool (badPt p)):=by
 refine zh (i:=i101) (ns hS (by rfl)) rfl rfl (lb rfl) (1) (by omega) zn fun m hm d out t hfr=>?_
 simp only [V2,Xb,i101,Pt.c] at hfr
 unfold badPt
 cases h1:decide (p.x < -1048576)
 ·cases h2:decide (1048576<p.x)
  ·cases h3:decide (p.y < -1048576)
   ·simp only [i101,V0,sevalprocAttr,hfr,gt_iff_lt,h1,h2,h3,zhm]
   ·simp only [i101,V0,sevalprocAttr,hfr,gt_iff_lt,h1,h2,h3,zhm,zhu]
  ·simp only [i101,V0,sevalprocAttr,hfr,gt_iff_lt,h1,h2,zhm,zhu]
 ·simp only [i101,V0,sevalprocAttr,hfr,gt_iff_lt,h1,zhu]
end
end
section
section
variable {x y z:IObj} {O R:yLO}
theorem zP:(x::(O++y::R))[O.length+1]?=some y:=by simp
theorem zU:(x::(O++y::R)).set (O.length+1) z=x::(O++z::R):=by simp
end
theorem Zq {α:Type} {l:List α} {q:α->Bool} {i:Nat} {x:α} (hx:l[i]?=some x) (ha:(l.take i).any q=false) (hq:q x=false):(l.take (i+1)).any q=false:=by
 rw [zhb,hx,zhq,List.any_append,ha]
 simp [hq]
theorem Yw {α:Type} {l:List α} {q:α->Bool} {i:Nat} {x:α} (hx:l[i]?=some x) (hq:q x=true):l.any q=true:=zh5.2 ⟨x,zgl hx,hq⟩
section
variable {S:ySM}
theorem at_index (hS:NoS S) (l:SlOf 1 intc) (n:Int):GivesN S (l.l.length+4) 67 [l.v,iv n] (.int .i64 (fIdx (fun x=>n==x) l.l)):=by
 refine zh (i:=i67) (ns hS (by rfl)) rfl rfl (lb rfl) (l.l.length+3) (by omega) zo fun m hm d out t hfr=>?_
 simp only [V2,Xb,i67] at hfr
 simp only [i67,V0,sevalprocAttr,hfr]
 have hlf:=l.few
 refine zd (fun jj st=>∃ (i:Nat) (O:yLO),l.l.length - i<=jj/\i<=l.l.length/\(l.l.take i).findIdx? (fun x=>n==x)=none/\st.own=O/\Slots 19 st.t [(0,l.v),(1,iv n),(7,iv (l.l.length:Nat)),(8,iv i)]) l.l.length (by omega) ⟨0,[],by omega,by omega,by simp,rfl,by simp only [V0,sevalprocAttr,hfr,zg4]⟩ ?_
 rintro jj ⟨t,own⟩ K ⟨i,O,hjj,hi,ha,ho,hfr⟩ hn he hr
 dsimp only at ho hfr
 subst ho
 simp only [V3] at hfr
 by_cases h:i<l.l.length
 ·obtain ⟨x,hx⟩:=gx (l:=l.l) (i:=i) h
  have hrd:rdN (l.l.flatMap intc) (i*1) 1=some [.int .i64 x]:=zb zk 0 1 hx (by omega)
  have hw:wrapI .i64 ((i:Int)+1)=((i+1:Nat):Int):=we
  cases hq:n==x
  ·simp only [V0,sevalprocAttr,hfr,h,za l h,hrd,hq,hw]
   refine hn _ (l.l.length - (i+1)) (by omega) ⟨i+1,_,by omega,by omega,?_,rfl,by simp only [V0,sevalprocAttr,hfr,hq,hw]⟩
   rw [zhb,hx,zhq,List.findIdx?_append,ha]
   simp [List.findIdx?_cons,hq]
  ·simp only [V0,sevalprocAttr,hfr,h,za l h,hrd,hq]
   refine hr _ ?_
   simp only [V0,sevalprocAttr,hfr,zdj (q:=fun x=>n==x) hx hq ha]
 ·simp only [V0,sevalprocAttr,hfr,h]
  refine he _ _ ?_
  have hall:fIdx (fun x=>n==x) l.l=-1:=by
   rw [zgg (by omega)] at ha
   simp only [fIdx,ha]
  simp only [V0,sevalprocAttr,hfr,hall]
theorem zcz (hS:NoS S) (l:SlOf 1 intc) (n:Int):GivesN S (l.l.length+6) 37 [l.v,iv n] (.bool (l.l.any fun x=>n==x)):=by
 refine zh (i:=i37) (ns hS (by rfl)) rfl rfl (lb rfl) (l.l.length+5) (by omega) zn fun m hm d out t hfr=>?_
 simp only [V2,Xb,i37] at hfr
 have cc:=at_index hS l n m (by omega)
 have hz:decide (0<=fIdx (fun x=>n==x) l.l)=l.l.any fun x=>n==x:=za8
 simp only [zf] at cc
 simp only [i37,V0,sevalprocAttr,hfr,cc,ge_iff_le,hz]
def placedB (p:Pn):Bool:=!(p.ns.l.any fun n=>badPt n.at')&&!(p.az.l.any fun a=>a.via.l.any badPt)
theorem at_placed (hS:NoS S) (p:Pn) (V:Nat) (hV:∀ a∈p.az.l,a.via.l.length<=V):GivesN S (p.ns.l.length+p.az.l.length+V+20) 64 [.agg p.c] (.bool (placedB p)):=by
 refine zh (i:=i64) (ns hS (by rfl)) rfl rfl (lb rfl) (p.ns.l.length+p.az.l.length+V+19) (by omega) zn fun m hm d out t hfr=>?_
 simp only [V2,Xb,i64,Pn.c] at hfr
 have hnf:=p.ns.few
 have haf:=p.az.few
 simp only [i64,V0,sevalprocAttr,hfr]
 refine zd (fun jj st=>∃ (i:Nat) (O:yLO),p.ns.l.length - i<=jj/\i<=p.ns.l.length/\(p.ns.l.take i).any (fun n=>badPt n.at')=false/\st.own=.cells [p.ns.v,p.az.v,p.fs.v]::O/\Slots 32 st.t [(1,.ptrM d 0 0),(3,.fn 101 [] []),(9,p.ns.v),(10,iv (p.ns.l.length:Nat)),(11,iv i)]) p.ns.l.length (by omega) ⟨0,[],by omega,by omega,by simp,rfl,by simp only [V0,sevalprocAttr,hfr,zg4]⟩ ?_
 rintro jj ⟨t,own⟩ K ⟨i,O,hjj,hi,ha,ho,hfr⟩ hn he hr
 dsimp only at ho hfr
 subst ho
 simp only [V3] at hfr
 by_cases h:i<p.ns.l.length
 ·obtain ⟨x,hx⟩:=gx (l:=p.ns.l) (i:=i) h
  have hrd:rdN (p.ns.l.flatMap Nd.c) (i*3) 3=some [.int .i64 x.id,.int .i64 x.at'.x,.int .i64 x.at'.y]:=(zb Nd.c_len 0 3 hx (by omega)).trans rfl
  have hw:wrapI .i64 ((i:Int)+1)=((i+1:Nat):Int):=we
  have cc:=fun d out ownV own id=>zex hS x.at' m (by omega) d out ownV own id
  simp only [zf,Pt.c] at cc
  cases hq:badPt x.at'
  ·simp only [V0,sevalprocAttr,hfr,h,za p.ns h,hrd,cc,hq,hw,zP,zU]
   exact hn _ (p.ns.l.length - (i+1)) (by omega) ⟨i+1,_,by omega,by omega,Zq hx ha hq,rfl,by simp only [V0,sevalprocAttr,hfr,cc,hq,hw]⟩
  ·simp only [V0,sevalprocAttr,hfr,h,za p.ns h,hrd,cc,hq,zP,zU]
   refine hr _ ?_
   have hf:placedB p=false:=by
    unfold placedB
    rw [Yw (q:=fun n=>badPt n.at') hx hq]
    rfl
   simp only [V0,sevalprocAttr,hfr,hf]
 ·have h1:p.ns.l.any (fun n=>badPt n.at')=false:=by
   rw [← zgg (l:=p.ns.l) (i:=i) (by omega)]
   exact ha
  simp only [V0,sevalprocAttr,hfr,h]
  refine he _ _ ?_
  simp only [V0,sevalprocAttr,hfr]
  refine zd (fun jj st=>∃ (i:Nat) (O:yLO),p.az.l.length - i<=jj/\i<=p.az.l.length/\(p.az.l.take i).any (fun a=>a.via.l.any badPt)=false/\st.own=.cells [p.ns.v,p.az.v,p.fs.v]::O/\Slots 32 st.t [(1,.ptrM d 0 0),(3,.fn 101 [] []),(21,p.az.v),(22,iv (p.az.l.length:Nat)),(23,iv i)]) p.az.l.length (by omega) ⟨0,O,by omega,by omega,by simp,rfl,by simp only [V0,sevalprocAttr,hfr,zg4]⟩ ?_
  clear ha hfr
  rintro jj ⟨t,own⟩ K2 ⟨i,O,hjj,hi,ha,ho,hfr⟩ hn he hr
  dsimp only at ho hfr
  subst ho
  simp only [V3] at hfr
  by_cases h:i<p.az.l.length
  ·have hx:p.az.l[i]?=some p.az.l[i]:=zf0 h
   have hm0:=hV _ (zgt h)
   generalize p.az.l[i]=x at hx hm0
   have hrd:rdN (p.az.l.flatMap Ac.c) (i*6) 6=some [.int .i64 x.id,.int .i64 x.fr,.int .i64 x.to,x.via.v,.int .i64 x.l,.int .i64 x.r]:=(zb Ac.c_len 0 6 hx (by omega)).trans rfl
   have hw:wrapI .i64 ((i:Int)+1)=((i+1:Nat):Int):=we
   have cc:=fun d out ownV own id=>at_conP hS x.via badPt 101 [] 2 (fun m hm d out ownV own id x=>zex hS x m hm d out ownV own id) m (by omega) d out ownV own id
   cases hq:x.via.l.any badPt
   ·simp only [V0,sevalprocAttr,hfr,h,za p.az h,hrd,cc,hq,hw,zP,zU]
    exact hn _ (p.az.l.length - (i+1)) (by omega) ⟨i+1,_,by omega,by omega,Zq hx ha hq,rfl,by simp only [V0,sevalprocAttr,hfr,cc,hq,hw]⟩
   ·simp only [V0,sevalprocAttr,hfr,h,za p.az h,hrd,cc,hq,zP,zU]
    refine hr _ ?_
    have hf:placedB p=false:=by
     unfold placedB
     rw [Yw (q:=fun a=>a.via.l.any badPt) hx hq]
     simp
    simp only [V0,sevalprocAttr,hfr,hf]
  ·have h2:p.az.l.any (fun a=>a.via.l.any badPt)=false:=by
    rw [← zgg (l:=p.az.l) (i:=i) (by omega)]
    exact ha
   simp only [V0,sevalprocAttr,hfr,h]
   refine he _ _ ?_
   have hf:placedB p=true:=by
    unfold placedB
    rw [h1,h2]
    rfl
   simp only [V0,sevalprocAttr,hfr,hf]
end
end
section
section
variable {x y z w:IObj} {O R Q:yLO}
theorem pk_geti:(O++y::(R++z::Q))[O.length+(R.length+1)]?=some z:=by
 rw [zf4 (by omega),show O.length+(R.length+1) - O.length=R.length+1 by omega,zgc]
 simp
theorem pk_seti:(O++y::(R++z::Q)).set (O.length+(R.length+1)) w=O++y::(R++w::Q):=by
 rw [zie _ _ (by omega),show O.length+(R.length+1) - O.length=R.length+1 by omega,zim]
 simp
theorem pk_get:(x::(O++y::(R++z::Q)))[O.length+(R.length+1)+1]?=some z:=by
 rw [zgc,zf4 (by omega),show O.length+(R.length+1) - O.length=R.length+1 by omega,zgc]
 simp
theorem pk_set:(x::(O++y::(R++z::Q))).set (O.length+(R.length+1)+1) w=x::(O++y::(R++w::Q)):=by
 rw [zim,zie _ _ (by omega),show O.length+(R.length+1) - O.length=R.length+1 by omega,zim]
 simp
end
theorem slice_to {sz:Nat} {α:Type} {g:α->List IV} (hg:∀ a,(g a).length=sz) (q:SlOf sz g) {i:Nat} (h:i<q.l.length):∃ q2:SlOf sz g,q2.l=q.l.take i/\∀ (t:List IV) (x:Opd),ρ t x=.int .i64 (i:Int)->sliceI sz t q.v none (some x) none=some q2.v:=by
 have hh:∀ (cs:List IV) (n:Nat) (v:IV),Sl sz cs n v->i<n->∃ tight,∀ (t:List IV) (x:Opd),ρ t x=.int .i64 (i:Int)->sliceI sz t v none (some x) none=some (.slC (cs.take (i*sz)) i sz tight):=fun cs n v hs hi=>by
  cases hs with
  | nil=>omega
  | row cs n tight hl =>
   refine ⟨tight&&i==n,fun t x hx=>?_⟩
   simp only [sliceI,optI,hx,yb,zc,Option.isSome_none,zgk,if_false]
   rw [if_pos ⟨⟨zf7 _,by omega,Nat.zero_le _⟩,trivial⟩]
   simp
 obtain ⟨tight,h1⟩:=hh _ _ _ q.ok h
 have ht:(q.l.flatMap g).take (i*sz)=(q.l.take i).flatMap g:=by
  conv=>lhs; rw [← zih i q.l,List.flatMap_append]
  rw [List.take_left' (by rw [zq hg,zhx,Nat.min_eq_left (by omega)])]
 have hli:(q.l.take i).length=i:=by rw [zhx,Nat.min_eq_left (by omega)]
 refine ⟨⟨q.l.take i,.slC ((q.l.take i).flatMap g) i sz tight,by
  rw [hli]
  exact .row _ _ _ (by rw [zq hg,hli]),by have:=q.few; omega⟩,rfl,fun t x hx=>?_⟩
 rw [h1 t x hx,ht]
def hasI (l:List Int) (n:Int):Bool:=l.any fun x=>n==x
def dupPt (l:List Nd):Bool:=l.zipIdx.any fun ni=>(l.take ni.2).any fun m=>ptE ni.1.at' m.at'
def loose (nodes:List Int) (a:Ac):Bool:=!hasI nodes a.fr||!hasI nodes a.to
def offSide (fs:List Int) (f:Int):Bool:=f != 0&&!hasI fs f
def connE (p:Pn) (nodes:List Int):Int:=bif dupPt p.ns.l then 8 else bif p.az.l.any (loose nodes) then 7 else bif p.az.l.any (fun a=>offSide p.fs.l a.l||offSide p.fs.l a.r) then 12 else 0
section
variable {S:ySM}
theorem at_conn (hS:NoS S) (p:Pn) (q:SlOf 1 intc):GivesN S (p.ns.l.length+p.az.l.length+p.fs.l.length+q.l.length+20) 65 [.agg p.c,q.v] (.int .i64 (connE p q.l)):=by
 refine zh (i:=i65) (ns hS (by rfl)) rfl rfl (lb rfl) (p.ns.l.length+p.az.l.length+p.fs.l.length+q.l.length+19) (by omega) zo fun m hm d out t hfr=>?_
 simp only [V2,Xb,i65,Pn.c] at hfr
 have hnf:=p.ns.few
 have haf:=p.az.few
 simp only [i65,V0,Xa,Xb,Xc,Xd,Xe,reduceCtorEq,hfr]
 refine zd (fun jj st=>∃ (i:Nat) (O:yLO),p.ns.l.length - i<=jj/\i<=p.ns.l.length/\(p.ns.l.zipIdx.take i).any (fun ni=>(p.ns.l.take ni.2).any fun m=>ptE ni.1.at' m.at')=false/\st.own=.cells [p.ns.v,p.az.v,p.fs.v]::O/\Slots 85 st.t [(1,q.v),(2,.ptrM d 0 0),(16,p.ns.v),(17,iv (p.ns.l.length:Nat)),(18,iv i)]) p.ns.l.length (by omega) ⟨0,[],by omega,by omega,by simp,rfl,by simp only [V0,Xa,Xb,Xc,Xd,Xe,reduceCtorEq,hfr,zg4]⟩ ?_
 rintro jj ⟨t,own⟩ KA ⟨i,O,hjj,hi,ha,ho,hfr⟩ hnA heA hrA
 dsimp only at ho hfr
 subst ho
 simp only [V3] at hfr
 by_cases h:i<p.ns.l.length
 ·obtain ⟨x,hx⟩:=gx (l:=p.ns.l) (i:=i) h
  have hxz:p.ns.l.zipIdx[i]?=some (x,i):=by rw [List.getElem?_zipIdx,hx]; simp
  have hrd:rdN (p.ns.l.flatMap Nd.c) (i*3) 3=some [.int .i64 x.id,.int .i64 x.at'.x,.int .i64 x.at'.y]:=(zb Nd.c_len 0 3 hx (by omega)).trans rfl
  have hw:wrapI .i64 ((i:Int)+1)=((i+1:Nat):Int):=we
  obtain ⟨q2,hq2,hsl⟩:=slice_to Nd.c_len p.ns h
  have hq2l:q2.l.length=i:=by rw [hq2,zhx,Nat.min_eq_left (by omega)]
  simp only [V0,Xa,Xb,Xc,Xd,Xe,reduceCtorEq,hfr,h,za p.ns h,hrd,zP,zU,zaz,hsl]
  refine zd (fun jj st=>∃ (k:Nat) (R:yLO),q2.l.length - k<=jj/\k<=q2.l.length/\(q2.l.take k).any (fun m=>ptE x.at' m.at')=false/\st.own=.cells [p.ns.v,p.az.v,p.fs.v]::(O++.cells [.int .i64 x.id,.int .i64 x.at'.x,.int .i64 x.at'.y]::R)/\Slots 85 st.t [(1,q.v),(2,.ptrM d 0 0),(16,p.ns.v),(17,iv (p.ns.l.length:Nat)),(18,iv i),(6,.ptrM d (O.length+1) 0),(26,q2.v),(27,iv (q2.l.length:Nat)),(28,iv k)]) q2.l.length (by omega) ⟨0,_,by omega,by omega,by simp,rfl,by simp only [V0,Xa,Xb,Xc,Xd,Xe,reduceCtorEq,hfr,zg4,hsl]⟩ ?_
  clear hfr
  rintro jj2 ⟨t,own⟩ KB ⟨k,R,hjk,hk,hb,ho,hfr⟩ hnB heB hrB
  dsimp only at ho hfr
  subst ho
  simp only [V3] at hfr
  by_cases h2:k<q2.l.length
  ·obtain ⟨y,hy⟩:=gx (l:=q2.l) (i:=k) h2
   have hry:rdN (q2.l.flatMap Nd.c) (k*3) 3=some [.int .i64 y.id,.int .i64 y.at'.x,.int .i64 y.at'.y]:=(zb Nd.c_len 0 3 hy (by omega)).trans rfl
   have hwk:wrapI .i64 ((k:Int)+1)=((k+1:Nat):Int):=we
   cases hq:ptE x.at' y.at'
   ·have hq':=hq
    unfold ptE at hq'
    simp only [V0,Xa,Xb,Xc,Xd,Xe,reduceCtorEq,hfr,h2,za q2 h2,hry,zP,zU,pk_get,pk_set,pk_geti,pk_seti,yk,hq',zhh,hwk]
    exact hnB _ (q2.l.length - (k+1)) (by omega) ⟨k+1,_,by omega,by omega,Zq hy hb hq,rfl,by simp only [V0,Xa,Xb,Xc,Xd,Xe,reduceCtorEq,hfr,hwk,hq',zP,pk_get,pk_geti,yk]⟩
   ·have hq':=hq
    unfold ptE at hq'
    simp only [V0,Xa,Xb,Xc,Xd,Xe,reduceCtorEq,hfr,h2,za q2 h2,hry,zP,zU,pk_get,pk_set,pk_geti,pk_seti,yk,hq',zhh]
    refine hrB _ ?_
    simp only [V0,Xa,Xb,Xc,Xd,Xe,reduceCtorEq,hfr]
    refine hrA _ ?_
    have hf:dupPt p.ns.l=true:=by
     refine Yw hxz ?_
     show (p.ns.l.take i).any (fun m=>ptE x.at' m.at')=true
     rw [← hq2]
     exact Yw (q:=fun m=>ptE x.at' m.at') hy hq
    simp only [V0,Xa,Xb,Xc,Xd,Xe,reduceCtorEq,hfr,connE,hf,cond_true]
  ·simp only [V0,Xa,Xb,Xc,Xd,Xe,reduceCtorEq,hfr,h2]
   refine heB _ _ ?_
   simp only [V0,Xa,Xb,Xc,Xd,Xe,reduceCtorEq,hfr,hw]
   have hq0:(p.ns.l.take i).any (fun m=>ptE x.at' m.at')=false:=by
    rw [← hq2,← zgg (l:=q2.l) (i:=k) (by omega)]
    exact hb
   exact hnA _ (p.ns.l.length - (i+1)) (by omega) ⟨i+1,_,by omega,by omega,Zq hxz ha hq0,rfl,by simp only [V0,Xa,Xb,Xc,Xd,Xe,reduceCtorEq,hfr,hw]⟩
 ·have hdup:dupPt p.ns.l=false:=by
   unfold dupPt
   rw [← zgg (l:=p.ns.l.zipIdx) (i:=i) (by rw [List.length_zipIdx]; omega)]
   exact ha
  simp only [V0,Xa,Xb,Xc,Xd,Xe,reduceCtorEq,hfr,h]
  refine heA _ _ ?_
  simp only [V0,Xa,Xb,Xc,Xd,Xe,reduceCtorEq,hfr]
  refine zd (fun jj st=>∃ (i:Nat) (O:yLO),p.az.l.length - i<=jj/\i<=p.az.l.length/\(p.az.l.take i).any (loose q.l)=false/\st.own=.cells [p.ns.v,p.az.v,p.fs.v]::O/\Slots 85 st.t [(1,q.v),(2,.ptrM d 0 0),(40,p.az.v),(41,iv (p.az.l.length:Nat)),(42,iv i)]) p.az.l.length (by omega) ⟨0,O,by omega,by omega,by simp,rfl,by simp only [V0,Xa,Xb,Xc,Xd,Xe,reduceCtorEq,hfr,zg4]⟩ ?_
  clear hfr ha hnA heA hrA
  rintro jj ⟨t,own⟩ KA ⟨i,O,hjj,hi,ha,ho,hfr⟩ hnA heA hrA
  dsimp only at ho hfr
  subst ho
  simp only [V3] at hfr
  by_cases h:i<p.az.l.length
  ·obtain ⟨x,hx⟩:=gx (l:=p.az.l) (i:=i) h
   have hrd:rdN (p.az.l.flatMap Ac.c) (i*6) 6=some [.int .i64 x.id,.int .i64 x.fr,.int .i64 x.to,x.via.v,.int .i64 x.l,.int .i64 x.r]:=(zb Ac.c_len 0 6 hx (by omega)).trans rfl
   have hw:wrapI .i64 ((i:Int)+1)=((i+1:Nat):Int):=we
   have c1:∀ n dd oo ownV own id,callN Ftab S m dd oo ownV own id 37 [q.v,.int .i64 n]=some (.r,.bool (hasI q.l n),own):=fun n dd oo ownV own id=>zcz hS q n m (by omega) dd oo ownV own id
   cases h1:hasI q.l x.fr
   ·simp only [V0,Xa,Xb,Xc,Xd,Xe,reduceCtorEq,hfr,h,za p.az h,hrd,zP,zU,c1,h1]
    refine hrA _ ?_
    have hf:p.az.l.any (loose q.l)=true:=Yw hx (by simp [loose,h1])
    simp only [V0,Xa,Xb,Xc,Xd,Xe,reduceCtorEq,hfr,connE,hdup,hf,cond_true,cond_false]
   ·cases h2:hasI q.l x.to
    ·simp only [V0,Xa,Xb,Xc,Xd,Xe,reduceCtorEq,hfr,h,za p.az h,hrd,zP,zU,c1,h1,h2]
     refine hrA _ ?_
     have hf:p.az.l.any (loose q.l)=true:=Yw hx (by simp [loose,h2])
     simp only [V0,Xa,Xb,Xc,Xd,Xe,reduceCtorEq,hfr,connE,hdup,hf,cond_true,cond_false]
    ·simp only [V0,Xa,Xb,Xc,Xd,Xe,reduceCtorEq,hfr,h,za p.az h,hrd,zP,zU,c1,h1,h2,hw]
     exact hnA _ (p.az.l.length - (i+1)) (by omega) ⟨i+1,_,by omega,by omega,Zq hx ha (by simp [loose,h1,h2]),rfl,by simp only [V0,Xa,Xb,Xc,Xd,Xe,reduceCtorEq,hfr,hw,c1,h1,h2]⟩
  ·have hlo:p.az.l.any (loose q.l)=false:=by
    rw [← zgg (l:=p.az.l) (i:=i) (by omega)]
    exact ha
   simp only [V0,Xa,Xb,Xc,Xd,Xe,reduceCtorEq,hfr,h]
   refine heA _ _ ?_
   simp only [V0,Xa,Xb,Xc,Xd,Xe,reduceCtorEq,hfr]
   refine zd (fun jj st=>∃ (i:Nat) (O:yLO),p.az.l.length - i<=jj/\i<=p.az.l.length/\(p.az.l.take i).any (fun a=>offSide p.fs.l a.l||offSide p.fs.l a.r)=false/\st.own=.cells [p.ns.v,p.az.v,p.fs.v]::O/\Slots 85 st.t [(2,.ptrM d 0 0),(60,p.az.v),(61,iv (p.az.l.length:Nat)),(62,iv i)]) p.az.l.length (by omega) ⟨0,O,by omega,by omega,by simp,rfl,by simp only [V0,Xa,Xb,Xc,Xd,Xe,reduceCtorEq,hfr,zg4]⟩ ?_
   clear hfr ha hnA heA hrA
   rintro jj ⟨t,own⟩ KA ⟨i,O,hjj,hi,ha,ho,hfr⟩ hnA heA hrA
   dsimp only at ho hfr
   subst ho
   simp only [V3] at hfr
   by_cases h:i<p.az.l.length
   ·obtain ⟨x,hx⟩:=gx (l:=p.az.l) (i:=i) h
    have hrd:rdN (p.az.l.flatMap Ac.c) (i*6) 6=some [.int .i64 x.id,.int .i64 x.fr,.int .i64 x.to,x.via.v,.int .i64 x.l,.int .i64 x.r]:=(zb Ac.c_len 0 6 hx (by omega)).trans rfl
    have hw:wrapI .i64 ((i:Int)+1)=((i+1:Nat):Int):=we
    have c1:∀ n dd oo ownV own id,callN Ftab S m dd oo ownV own id 37 [p.fs.v,.int .i64 n]=some (.r,.bool (hasI p.fs.l n),own):=fun n dd oo ownV own id=>zcz hS p.fs n m (by omega) dd oo ownV own id
    have hz2:rep [IV.int .i64 0] 2=[.int .i64 0,.int .i64 0]:=zgr rfl rfl
    simp only [V0,Xa,Xb,Xc,Xd,Xe,reduceCtorEq,hfr,h,za p.az h,hrd,zP,zU]
    refine zd (fun jj st=>∃ (k:Nat) (O:yLO),2 - k<=jj/\k<=2/\(1<=k->offSide p.fs.l x.l=false)/\(2<=k->offSide p.fs.l x.r=false)/\st.own=.cells [p.ns.v,p.az.v,p.fs.v]::O/\Slots 85 st.t [(2,.ptrM d 0 0),(60,p.az.v),(61,iv (p.az.l.length:Nat)),(62,iv i),(70,.agg [.int .i64 x.l,.int .i64 x.r]),(71,iv k)]) 2 (by omega) ⟨0,_,by omega,by omega,by omega,by omega,rfl,by simp only [V0,Xa,Xb,Xc,Xd,Xe,reduceCtorEq,hfr,zg4]⟩ ?_
    clear hfr
    rintro jj2 ⟨t,own⟩ KB ⟨k,R,hjk,hk,hk1,hk2,ho,hfr⟩ hnB heB hrB
    dsimp only at ho hfr
    subst ho
    simp only [V3] at hfr
    have bad:∀ f:Int,f=x.l∨f=x.r->offSide p.fs.l f=true->p.az.l.any (fun a=>offSide p.fs.l a.l||offSide p.fs.l a.r)=true:=fun f hf h=>Yw (q:=fun a=>offSide p.fs.l a.l||offSide p.fs.l a.r) hx (by
     rcases hf with rfl | rfl <;> simp [h])
    have hbne:∀ z:Int,(z != 0)=!(z==0):=fun z=>rfl
    have hcase:k=0∨k=1∨k=2:=by omega
    rcases hcase with rfl | rfl | rfl
    ·have hlt:(((0:Nat):Int)<2)=True:=eq_true (by decide)
     have hw0:wrapI .i64 (((0:Nat):Int)+1)=((1:Nat):Int):=rfl
     have hn0:natI (.int .i64 ((0:Nat):Int))=some 0:=yb
     have h02:(0<2)=True:=eq_true (by decide)
     cases h1:x.l==0
     ·cases h2:hasI p.fs.l x.l
      ·simp only [V0,Xa,Xb,Xc,Xd,Xe,reduceCtorEq,hfr,hlt,zy,e_index,hn0,h02,zhp,hbne,h1,c1,h2]
       refine hrB _ ?_
       simp only [V0,Xa,Xb,Xc,Xd,Xe,reduceCtorEq,hfr]
       refine hrA _ ?_
       simp only [V0,Xa,Xb,Xc,Xd,Xe,reduceCtorEq,hfr,connE,hdup,hlo,bad x.l (.inl rfl) (by simp [offSide,hbne,h1,h2]),cond_true,cond_false]
      ·simp only [V0,Xa,Xb,Xc,Xd,Xe,reduceCtorEq,hfr,hlt,zy,e_index,hn0,h02,zhp,hbne,h1,c1,h2,hw0]
       exact hnB _ 1 (by omega) ⟨1,_,by omega,by omega,fun _=>by simp [offSide,h2],by omega,rfl,by simp only [V0,Xa,Xb,Xc,Xd,Xe,reduceCtorEq,hfr,hlt,hbne,h1,h2,c1,hw0]⟩
     ·simp only [V0,Xa,Xb,Xc,Xd,Xe,reduceCtorEq,hfr,hlt,zy,e_index,hn0,h02,zhp,hbne,h1,c1,hw0]
      exact hnB _ 1 (by omega) ⟨1,_,by omega,by omega,fun _=>by simp [offSide,hbne,h1],by omega,rfl,by simp only [V0,Xa,Xb,Xc,Xd,Xe,reduceCtorEq,hfr,hlt,hbne,h1,c1,hw0]⟩
    ·have hlt:(((1:Nat):Int)<2)=True:=eq_true (by decide)
     have hw0:wrapI .i64 (((1:Nat):Int)+1)=((2:Nat):Int):=rfl
     have hn0:natI (.int .i64 ((1:Nat):Int))=some 1:=yb
     have h02:(1<2)=True:=eq_true (by decide)
     cases h1:x.r==0
     ·cases h2:hasI p.fs.l x.r
      ·simp only [V0,Xa,Xb,Xc,Xd,Xe,reduceCtorEq,hfr,hlt,zy,e_index,hn0,h02,zik,hbne,h1,c1,h2]
       refine hrB _ ?_
       simp only [V0,Xa,Xb,Xc,Xd,Xe,reduceCtorEq,hfr]
       refine hrA _ ?_
       simp only [V0,Xa,Xb,Xc,Xd,Xe,reduceCtorEq,hfr,connE,hdup,hlo,bad x.r (.inr rfl) (by simp [offSide,hbne,h1,h2]),cond_true,cond_false]
      ·simp only [V0,Xa,Xb,Xc,Xd,Xe,reduceCtorEq,hfr,hlt,zy,e_index,hn0,h02,zik,hbne,h1,c1,h2,hw0]
       exact hnB _ 0 (by omega) ⟨2,_,by omega,by omega,fun _=>hk1 (by omega),fun _=>by simp [offSide,h2],rfl,by simp only [V0,Xa,Xb,Xc,Xd,Xe,reduceCtorEq,hfr,hlt,hbne,h1,h2,c1,hw0]⟩
     ·simp only [V0,Xa,Xb,Xc,Xd,Xe,reduceCtorEq,hfr,hlt,zy,e_index,hn0,h02,zik,hbne,h1,c1,hw0]
      exact hnB _ 0 (by omega) ⟨2,_,by omega,by omega,fun _=>hk1 (by omega),fun _=>by simp [offSide,hbne,h1],rfl,by simp only [V0,Xa,Xb,Xc,Xd,Xe,reduceCtorEq,hfr,hlt,hbne,h1,c1,hw0]⟩
    ·have hlt:(((2:Nat):Int)<2)=False:=eq_false (by decide)
     simp only [V0,Xa,Xb,Xc,Xd,Xe,reduceCtorEq,hfr,hlt]
     refine heB _ _ ?_
     simp only [V0,Xa,Xb,Xc,Xd,Xe,reduceCtorEq,hfr,hw]
     exact hnA _ (p.az.l.length - (i+1)) (by omega) ⟨i+1,_,by omega,by omega,Zq hx ha (by simp [hk1 (by omega),hk2 (by omega)]),rfl,by simp only [V0,Xa,Xb,Xc,Xd,Xe,reduceCtorEq,hfr,hw]⟩
   ·have hof:p.az.l.any (fun a=>offSide p.fs.l a.l||offSide p.fs.l a.r)=false:=by
     rw [← zgg (l:=p.az.l) (i:=i) (by omega)]
     exact ha
    simp only [V0,Xa,Xb,Xc,Xd,Xe,reduceCtorEq,hfr,h]
    refine heA _ _ ?_
    simp only [V0,Xa,Xb,Xc,Xd,Xe,reduceCtorEq,hfr,connE,hdup,hlo,hof,cond_false]
end
end
section
theorem yg {S:ySM} {f:FuncId} {i:IFn} {args:List IV} {w:IV} (hS:S f args=none) (hi:Ftab f=some i) (hm:i.mode=0) (hl:args.length<=i.ntmps) (N:Nat)
  (h:∀ m,N<=m->∀ d out t,Slots i.ntmps t (slotsOf 0 args)->Ex (callN Ftab S m) d out m i.body (FinF d out i.res m w) ⟨t,[]⟩):∀ m,N+1<=m->∀ d out ownV own id,callN Ftab S m d out ownV own id f args=some (.r,w,own):=by
 intro m hm1 d out ownV own id
 obtain ⟨m,rfl⟩:∃ q,m=q+1:=⟨m - 1,by omega⟩
 obtain ⟨o,st,h1,h2,v,h3,h4⟩:=h m (by omega) (d+1) (fun l=>if l=d then ownV else out l) (args++List.replicate (i.ntmps - args.length) (.tuple [])) ⟨by simp; omega,fun p hp=>by
  obtain ⟨j,h1,h2⟩:=yp hp
  rw [zI,zf8,h1,zg5,zf1 (zfz.1 h2).1,h2]
  rfl⟩
 have hm0:¬ (0=2):=by decide
 have hm00:¬ (0=3):=by decide
 have hm40:¬ (4<=0):=by decide
 simp only [callN,hS,hi,hm,hm0,hm00,hm40,if_false,zc,h1]
 rcases h2 with rfl | rfl <;> simp [ended,h3,leave,h4]
section
variable {x y z w:IObj} {O R Q J:yLO}
theorem pq_get:(O++(J++x::R))[O.length+J.length]?=some x:=by
 rw [zf4 (by omega),zhw]
 simp
theorem pq_set:(O++(J++x::R)).set (O.length+J.length) w=O++(J++w::R):=by
 rw [zie _ _ (by omega),zhw]
 simp
end
theorem fz_tuple2 {n d:Nat} {own:yLO} {a b a' b':IV} (h1:freeze n d own a=some a') (h2:freeze n d own b=some b'):freeze (n+1) d own (.tuple [a,b])=some (.tuple [a',b']):=by
 simp [freeze,h1,h2]
theorem map_take {α β:Type} {f:α->β} {l:List α} {i:Nat} {x:α} (hx:l[i]?=some x):(l.take (i+1)).map f=(l.take i).map f++[f x]:=by
 rw [zhb,hx]
 simp
section
variable {S:ySM}
theorem Yx {α:Type} {l:List α} {f:α->Int} (h:l.length<=1000000):(l.map f).length<9223372036854775808:=by rw [zgw]; omega
theorem at_ident (hS:NoS S) (p:Pn) (h1:p.ns.l.length<=1000000) (h2:p.az.l.length<=1000000):GivesN S (p.ns.l.length+p.az.l.length+10) 61 [.agg p.c] (.tuple [(rowQ zk (p.ns.l.map Nd.id) (Yx h1)).v,(rowQ zk (p.az.l.map Ac.id) (Yx h2)).v]):=by
 refine yg (i:=i61) (ns hS (by rfl)) rfl rfl (lb rfl) (p.ns.l.length+p.az.l.length+9) fun m hm d out t hfr=>?_
 simp only [V2,Xb,i61,Pn.c] at hfr
 simp only [i61,V0,sevalprocAttr,hfr]
 refine zd (fun jj st=>∃ (i:Nat) (J:yLO) (lv:IV),p.ns.l.length - i<=jj/\i<=p.ns.l.length/\OwnJ intc 1 d 1 J lv ((p.ns.l.take i).map Nd.id)/\st.own=.cells [p.ns.v,p.az.v,p.fs.v]::J/\Slots 36 st.t [(1,.ptrM d 0 0),(2,lv),(3,.nilsl),(9,p.ns.v),(10,iv (p.ns.l.length:Nat)),(11,iv i)]) p.ns.l.length (by omega) ⟨0,[],.nilsl,by omega,by omega,.inl ⟨by simp,rfl⟩,rfl,by simp only [V0,sevalprocAttr,hfr,zg4]⟩ ?_
 clear hfr
 rintro jj ⟨t,own⟩ KA ⟨i,J,lv,hjj,hi,hO,ho,hfr⟩ hnA heA hrA
 dsimp only at ho hfr
 subst ho
 simp only [V3] at hfr
 by_cases h:i<p.ns.l.length
 ·obtain ⟨x,hx⟩:=gx (l:=p.ns.l) (i:=i) h
  have hrd:rdN (p.ns.l.flatMap Nd.c) (i*3) 3=some [.int .i64 x.id,.int .i64 x.at'.x,.int .i64 x.at'.y]:=(zb Nd.c_len 0 3 hx (by omega)).trans rfl
  have hw:wrapI .i64 ((i:Int)+1)=((i+1:Nat):Int):=we
  have hlt:((p.ns.l.take i).map Nd.id).length=i:=by rw [zgw,zhx,Nat.min_eq_left (by omega)]
  obtain ⟨e,lv',J2,happ,hO2⟩:=za7 (Pre:=[.cells [p.ns.v,p.az.v,p.fs.v]]) (n0:=J.length+1+1) (slot:=0) (k:=1) (out:=out) (R:=[.cells [.int .i64 x.id,.int .i64 x.at'.x,.int .i64 x.at'.y],.free]) zk hO (ys:=[x.id]) (by simp) (by simp only [hlt,zf3,zgb]; omega) (by simp only [zf3,zgb]; omega) rfl rfl
  simp only [zgq,zgz,zgj,zh4,intc,zf,zf3,zgb,zhc,zg5] at happ
  rw [← map_take (f:=Nd.id) hx] at hO2
  simp only [V0,sevalprocAttr,hfr,h,za p.ns h,hrd,zP,zU,rep,zt,zJ,zT,yD,happ,hw]
  exact hnA _ (p.ns.l.length - (i+1)) (by omega) ⟨i+1,J2,lv',by omega,by omega,hO2,rfl,by simp only [V0,sevalprocAttr,hfr,hw]⟩
 ·simp only [V0,sevalprocAttr,hfr,h]
  refine heA _ _ ?_
  simp only [V0,sevalprocAttr,hfr]
  have hO1:OwnJ intc 1 d 1 J lv (p.ns.l.map Nd.id):=by
   rw [zgg (by omega)] at hO
   exact hO
  clear hO
  refine zd (fun jj st=>∃ (i:Nat) (J2:yLO) (lw:IV),p.az.l.length - i<=jj/\i<=p.az.l.length/\OwnJ intc 1 d (J.length+1) J2 lw ((p.az.l.take i).map Ac.id)/\st.own=.cells [p.ns.v,p.az.v,p.fs.v]::(J++J2)/\Slots 36 st.t [(2,lv),(3,lw),(22,p.az.v),(23,iv (p.az.l.length:Nat)),(24,iv i)]) p.az.l.length (by omega) ⟨0,[],.nilsl,by omega,by omega,.inl ⟨by simp,rfl⟩,by simp,by simp only [V0,sevalprocAttr,hfr,zg4]⟩ ?_
  clear hfr hnA heA hrA
  rintro jj ⟨t,own⟩ KA ⟨i,J2,lw,hjj,hi,hO,ho,hfr⟩ hnA heA hrA
  dsimp only at ho hfr
  subst ho
  simp only [V3] at hfr
  by_cases h:i<p.az.l.length
  ·obtain ⟨x,hx⟩:=gx (l:=p.az.l) (i:=i) h
   have hrd:rdN (p.az.l.flatMap Ac.c) (i*6) 6=some [.int .i64 x.id,.int .i64 x.fr,.int .i64 x.to,x.via.v,.int .i64 x.l,.int .i64 x.r]:=(zb Ac.c_len 0 6 hx (by omega)).trans rfl
   have hw:wrapI .i64 ((i:Int)+1)=((i+1:Nat):Int):=we
   have hlt:((p.az.l.take i).map Ac.id).length=i:=by rw [zgw,zhx,Nat.min_eq_left (by omega)]
   obtain ⟨e,lv',J3,happ,hO2⟩:=za7 (Pre:=.cells [p.ns.v,p.az.v,p.fs.v]::J) (n0:=J.length+(J2.length+1)+1) (slot:=0) (k:=1) (out:=out) (R:=[.cells [.int .i64 x.id,.int .i64 x.fr,.int .i64 x.to,x.via.v,.int .i64 x.l,.int .i64 x.r],.free]) zk hO (ys:=[x.id]) (by simp) (by simp only [hlt,zf3,zgb]; omega) (by simp only [zf3,zgb]; omega) rfl rfl
   simp only [zgq,zgz,zgj,zh4,intc,zf,zf3,zgb,zhc,zg5] at happ
   rw [← map_take (f:=Ac.id) hx] at hO2
   simp only [V0,sevalprocAttr,hfr,h,za p.az h,hrd,pq_get,pq_set,rep,zt,zJ,zT,yD,happ,hw]
   exact hnA _ (p.az.l.length - (i+1)) (by omega) ⟨i+1,J3,lv',by omega,by omega,hO2,rfl,by simp only [V0,sevalprocAttr,hfr,hw]⟩
  ·simp only [V0,sevalprocAttr,hfr,h]
   refine heA _ _ ?_
   have hO2:OwnJ intc 1 d (J.length+1) J2 lw (p.az.l.map Ac.id):=by
    rw [zgg (by omega)] at hO
    exact hO
   obtain ⟨m,rfl⟩:∃ q,m=q+1:=⟨m - 1,by omega⟩
   have f1:=za6 (Pre:=[.cells [p.ns.v,p.az.v,p.fs.v]]) (m:=m) zk (fun a x hx=>by
    simp only [intc,zgf,zg1,or_false] at hx
    subst hx
    exact zo) (by omega) (Yx h1) (hO1.more J2)
   have f2:=za6 (Pre:=.cells [p.ns.v,p.az.v,p.fs.v]::J) (m:=m) zk (fun a x hx=>by
    simp only [intc,zgf,zg1,or_false] at hx
    subst hx
    exact zo) (by omega) (Yx h2) hO2
   simp only [zgq,zgz] at f1 f2
   simp only [V0,sevalprocAttr,hfr,yo]
   exact ⟨_,rfl,fz_tuple2 f1 f2⟩
end
end
section
def lineC (a:Ac) (path:SlOf 2 Pt.c):List IV:=[.int .i64 a.id,.int .i64 a.fr,.int .i64 a.to,a.via.v,.int .i64 a.l,.int .i64 a.r,path.v]
structure Sg where
 a:Ac
 path:SlOf 2 Pt.c
 k:Nat
 hk:k+1<path.l.length
def Sg.g (s:Sg):List IV:=[.ptrC (lineC s.a s.path) 0,.int .i64 (s.k:Int)]
def Sg.e (s:Sg):IV:=.agg s.g
def Sg.p0 (s:Sg):Pt:=s.path.l[s.k]'(by have:=s.hk; omega)
def Sg.p1 (s:Sg):Pt:=s.path.l[s.k+1]'s.hk
def Sg.w (s:Sg):Int:=mnI s.p0.x s.p1.x
def Sg.ea (s:Sg):Int:=mxI s.p0.x s.p1.x
def cmpI (x y:Int):Int:=if x<y then -1 else if y<x then 1 else 0
theorem sg_elt:Elt Sg.g Sg.e 2 true:=⟨fun _=>rfl,fun _=>rfl,fun _=>rfl,fun _=>rfl⟩
theorem sg_r0 (s:Sg):rdN (s.path.l.flatMap Pt.c) (s.k*2) 2=some [.int .i64 s.p0.x,.int .i64 s.p0.y]:=(zb (sz:=2) (fun _=>rfl) 0 2 (zf0 (by have:=s.hk; omega)) (by omega)).trans rfl
theorem sg_r1 (s:Sg):rdN (s.path.l.flatMap Pt.c) ((s.k+1)*2) 2=some [.int .i64 s.p1.x,.int .i64 s.p1.y]:=(zb (sz:=2) (fun _=>rfl) 0 2 (zf0 s.hk) (by omega)).trans rfl
section
variable {S:ySM}
theorem za9 (hS:NoS S) (s:Sg):GivesN S 4 110 [.agg s.g] (.tuple [.agg s.p0.c,.agg s.p1.c]):=by
 refine yg (i:=i110) (ns hS (by rfl)) rfl rfl (lb rfl) (3) fun m hm d out t hfr=>?_
 simp only [V2,Xb,i110,Sg.g,lineC] at hfr
 have hk:=s.hk
 have h0:s.k<s.path.l.length:=by omega
 have hf:=s.path.few
 have hw:wrapI .i64 ((s.k:Int)+1)=((s.k+1:Nat):Int):=we
 have r0:=sg_r0 s
 have r1:=sg_r1 s
 simp only [i110,V0,sevalprocAttr,hfr,za s.path h0,za s.path hk,r0,r1,hw]
 refine ⟨by simp [comm],?_⟩
 obtain ⟨m,rfl⟩:∃ q,m=q+3:=⟨m - 3,by omega⟩
 simp only [V0,sevalprocAttr,hfr,yo,Pt.c]
 exact ⟨_,rfl,by simp [freeze]⟩
theorem at_first (hS:NoS S) (s:Sg):GivesN S 2 112 [.agg s.g] (.bool ((s.k:Int)==0)):=by
 refine zh (i:=i112) (ns hS (by rfl)) rfl rfl (lb rfl) (1) (by omega) zn fun m hm d out t hfr=>?_
 simp only [V2,Xb,i112,Sg.g,lineC] at hfr
 simp only [i112,V0,sevalprocAttr,hfr]
theorem at_last (hS:NoS S) (s:Sg):GivesN S 2 113 [.agg s.g] (.bool ((s.k:Int)==((s.path.l.length - 2:Nat):Int))):=by
 refine zh (i:=i113) (ns hS (by rfl)) rfl rfl (lb rfl) (1) (by omega) zn fun m hm d out t hfr=>?_
 simp only [V2,Xb,i113,Sg.g,lineC] at hfr
 have hk:=s.hk
 have hf:=s.path.few
 have hw:wrapI .i64 ((s.path.l.length:Int) - 2)=((s.path.l.length - 2:Nat):Int):=we
 simp only [i113,V0,sevalprocAttr,hfr,hw]
 refine ⟨by simp [comm],?_⟩
 simp only [V0,sevalprocAttr,hfr]
theorem at_west (hS:NoS S) (s:Sg):GivesN S 6 107 [.agg s.g] (.int .i64 s.w):=by
 refine zh (i:=i107) (ns hS (by rfl)) rfl rfl (lb rfl) (5) (by omega) zo fun m hm d out t hfr=>?_
 simp only [V2,Xb,i107,Sg.g,lineC] at hfr
 have c0:=za9 hS s m (by omega)
 simp only [Sg.g,lineC,Pt.c,zf] at c0
 have hmn:∀ a b:Int,(if b<a then b else a)=mnI a b:=fun _ _=>rfl
 simp only [i107,V0,sevalprocAttr,hfr,c0,hmn,Sg.w]
theorem at_east (hS:NoS S) (s:Sg):GivesN S 6 108 [.agg s.g] (.int .i64 s.ea):=by
 refine zh (i:=i108) (ns hS (by rfl)) rfl rfl (lb rfl) (5) (by omega) zo fun m hm d out t hfr=>?_
 simp only [V2,Xb,i108,Sg.g,lineC] at hfr
 have c0:=za9 hS s m (by omega)
 simp only [Sg.g,lineC,Pt.c,zf] at c0
 have hmx:∀ a b:Int,(if a<b then b else a)=mxI a b:=fun _ _=>rfl
 simp only [i108,V0,sevalprocAttr,hfr,c0,gt_iff_lt,hmx,Sg.ea]
theorem at_cmp (hS:NoS S) (x y:Int):GivesN S 4 106 [iv x,iv y] (.int .i64 (cmpI x y)):=by
 refine zh (i:=i106) (ns hS (by rfl)) rfl rfl (lb rfl) (3) (by omega) zo fun m hm d out t hfr=>?_
 simp only [V2,Xb,i106] at hfr
 have c0:=fun x d out ownV own i=>gives_nan hS x m (by omega) d out ownV own i
 unfold cmpI
 by_cases h:x<y
 ·rw [if_pos h]
  simp only [i106,V0,sevalprocAttr,hfr,c0,h]
 ·rw [if_neg h]
  by_cases h2:y<x
  ·rw [if_pos h2]
   simp only [i106,V0,sevalprocAttr,hfr,c0,h,gt_iff_lt,h2]
  ·rw [if_neg h2]
   simp only [i106,V0,sevalprocAttr,hfr,c0,h,gt_iff_lt,h2]
theorem at_planar1 (hS:NoS S) (s u:Sg):GivesN S 8 105 [.agg s.g,.agg u.g] (.int .i64 (cmpI s.w u.w)):=by
 refine zh (i:=i105) (ns hS (by rfl)) rfl rfl (lb rfl) (7) (by omega) zo fun m hm d out t hfr=>?_
 simp only [V2,Xb,i105,Sg.g,lineC] at hfr
 have c0:=at_west hS s m (by omega)
 have c1:=at_west hS u m (by omega)
 have c2:=at_cmp hS s.w u.w m (by omega)
 simp only [Sg.g,lineC,zf] at c0 c1 c2
 simp only [i105,V0,sevalprocAttr,hfr,c0,c1,c2]
 refine ⟨by simp [comm],?_⟩
 simp only [V0,sevalprocAttr,hfr]
theorem planar_cmp (hS:NoS S) {d:Nat} {out:yLM} {own0:yLO} {b:Nat}:CmpOK S 8 d out own0 b Sg.e 105 [] (fun s u=>cmpI s.w u.w):=fun m hm ownV own id x y _=>at_planar1 hS x y m hm d out ownV own id
end
end
section
theorem ZT {S:ySM} {f:FuncId} {i:IFn} {args:List IV} {v:IV} (hS:S f args=none) (hi:Ftab f=some i) (hm:i.mode=0) (hl:args.length<=i.ntmps) {N m d:Nat} {out:yLM} {ownV own:yLO} {id:Nat} (hN:1<=N) (hmN:N+1<=m) (hv:Fz 1 v)
  (h:∀ m,N<=m->∀ t,Slots i.ntmps t (slotsOf 0 args)->Ex (callN Ftab S m) (d+1) (fun l=>if l=d then ownV else out l) m i.body (Fin (d+1) (fun l=>if l=d then ownV else out l) i.res v) ⟨t,[]⟩):callN Ftab S m d out ownV own id f args=some (.r,v,own):=by
 obtain ⟨m,rfl⟩:∃ q,m=q+1:=⟨m - 1,by omega⟩
 obtain ⟨o,st,h1,h2,h3⟩:=h m (by omega) (args++List.replicate (i.ntmps - args.length) (.tuple [])) ⟨by simp; omega,fun p hp=>by
  obtain ⟨j,h1,h2⟩:=yp hp
  rw [zI,zf8,h1,zg5,zf1 (zfz.1 h2).1,h2]
  rfl⟩
 have hm0:¬ (0=2):=by decide
 have hm00:¬ (0=3):=by decide
 have hm40:¬ (4<=0):=by decide
 have hf:freeze m (d+1) st.own v=some v:=hv m (by omega) _ _
 simp only [callN,hS,hi,hm,hm0,hm00,hm40,if_false,zc,h1]
 rcases h2 with rfl | rfl <;> simp [ended,h3,leave,hf]
def ptKs (L:List (Int × Pt)):List IV:=L.map fun kv=>.int .i64 kv.1
def ptVs (L:List (Int × Pt)):List IV:=L.map fun kv=>.agg kv.2.c
def lkP (L:List (Int × Pt)) (id:Int):Pt:=((L.find? fun kv=>id==kv.1).map Prod.snd).getD ⟨0,0⟩
theorem YL (id:Int):∀ (L:List (Int × Pt)) (n:Nat),findIx (false,[1]) (.int .i64 id) (ptKs L) n=some ((L.findIdx? fun kv=>id==kv.1).map (n+·))
 | [],n=>rfl
 | kv::L,n=>by
  have ih:=YL id L (n+1)
  have e:eqk (false,[1]) (.int .i64 id) (.int .i64 kv.1)=some (id==kv.1):=by
   have:eqvs [1] [.int .i64 id] [.int .i64 kv.1]=some (id==kv.1):=by
    simp only [eqvs,eqv]
    cases h1:id==kv.1 <;> simp [h1]
   exact this
  show (match eqk (false,[1]) (.int .i64 id) (.int .i64 kv.1) with | some true=>some (some n) | some false=>findIx (false,[1]) (.int .i64 id) (ptKs L) (n+1) | none=>none)=_
  rw [e]
  cases h:id==kv.1
  ·simp only [ih,List.findIdx?_cons,h]
   cases L.findIdx? fun kv=>id==kv.1 with
   | none=>rfl
   | some j=>simp; omega
  ·simp [List.findIdx?_cons,h]
theorem zey (id:Int) (L:List (Int × Pt)):∃ r:Option IV,findK (false,[1]) (.int .i64 id) (ptKs L) (ptVs L)=some r/\r.getD (.agg [.int .i64 0,.int .i64 0])=.agg [.int .i64 (lkP L id).x,.int .i64 (lkP L id).y]:=by
 have h0:(kindB false (IV.int .i64 id)&&(IV.int .i64 id).cells.length==[1].length)=true:=rfl
 unfold findK
 rw [if_pos h0,YL]
 cases h:L.findIdx? fun kv=>id==kv.1 with
 | none =>
  refine ⟨none,rfl,?_⟩
  have h1:(L.find? fun kv=>id==kv.1)=none:=by
   rw [zij] at h
   rw [List.find?_eq_none]
   intro x hx
   simp [h x hx]
  simp [lkP,h1]
 | some j =>
  obtain ⟨hj,hq,hmin⟩:=zh0.1 h
  have h1:(L.find? fun kv=>id==kv.1)=some L[j]:=by
   rw [List.find?_eq_some_iff_getElem]
   exact ⟨hq,j,hj,rfl,fun k hk=>by simpa using hmin k hk⟩
  refine ⟨some (.agg (L[j]).2.c),?_,?_⟩
  ·simp [ptVs,hj]
  ·simp [lkP,h1,Pt.c,zf]
end
section
def sameRes (c:Int) (s u:Sg):Bool:=bif (((s.k+1:Nat):Int)==(u.k:Int))||((s.a.fr==s.a.to)&&(((s.k:Int)==0)&&((u.k:Int)==((u.path.l.length - 2:Nat):Int)))) then c==1 else c==0
section
variable {S:ySM}
theorem comp_same (hS:NoS S) (s u:Sg) (c:Int) {m d:Nat} {out:yLM} (hm:4<=m) {K:yKM} (t:List IV) (O:yLO) (hfr:Slots 137 t [(3,.ptrM d 0 0),(4,.ptrM d 1 0),(11,.int .i64 c)])
  (hK:∀ t' O',Slots 137 t' [(6,.bool (sameRes c s u))]->K .ret ⟨t',O'⟩):Ex (callN Ftab S m) d out m (i109.body.sub [1,1,1,1,0,1,0,1]) K ⟨t,.cells s.g::.cells u.g::O⟩:=by
 simp only [ze,zg] at hfr
 have hk:=s.hk
 have hf:=s.path.few
 have hw:wrapI .i64 ((s.k:Int)+1)=((s.k+1:Nat):Int):=we
 have c1:=at_first hS s m (by omega)
 have c2:=at_last hS u m (by omega)
 simp only [Sg.g,lineC] at c1 c2
 cases h1:((s.k+1:Nat):Int)==(u.k:Int)
 ·cases h2:s.a.fr==s.a.to
  ·simp only [i109,IC.sub,V0,Xa,Xb,Xc,Xd,Xe,reduceCtorEq,hfr,Sg.g,lineC,hw,h1,h2]
   refine ⟨by simp [comm],?_⟩
   simp only [V0,Xa,Xb,Xc,Xd,Xe,reduceCtorEq,hfr]
   exact hK _ _ (by simp only [V0,Xa,Xb,Xc,Xd,Xe,reduceCtorEq,hfr,sameRes,hw,h1,h2,Bool.or_false,zhm,zgo,cond_false])
  ·cases h3:(s.k:Int)==0
   ·simp only [i109,IC.sub,V0,Xa,Xb,Xc,Xd,Xe,reduceCtorEq,hfr,Sg.g,lineC,hw,h1,h2,c1,h3]
    refine ⟨by simp [comm],?_⟩
    simp only [V0,Xa,Xb,Xc,Xd,Xe,reduceCtorEq,hfr]
    exact hK _ _ (by simp only [V0,Xa,Xb,Xc,Xd,Xe,reduceCtorEq,hfr,sameRes,hw,h1,h2,h3,Bool.or_false,zhm,zgo,zh3,cond_false])
   ·cases h4:(u.k:Int)==((u.path.l.length - 2:Nat):Int)
    ·simp only [i109,IC.sub,V0,Xa,Xb,Xc,Xd,Xe,reduceCtorEq,hfr,Sg.g,lineC,hw,h1,h2,c1,c2,h3,h4]
     refine ⟨by simp [comm],?_⟩
     simp only [V0,Xa,Xb,Xc,Xd,Xe,reduceCtorEq,hfr]
     exact hK _ _ (by simp only [V0,Xa,Xb,Xc,Xd,Xe,reduceCtorEq,hfr,sameRes,hw,h1,h2,h3,h4,Bool.or_false,zhm,zgo,zh3,cond_false])
    ·simp only [i109,IC.sub,V0,Xa,Xb,Xc,Xd,Xe,reduceCtorEq,hfr,Sg.g,lineC,hw,h1,h2,c1,c2,h3,h4]
     refine ⟨by simp [comm],?_⟩
     simp only [V0,Xa,Xb,Xc,Xd,Xe,reduceCtorEq,hfr]
     exact hK _ _ (by simp only [V0,Xa,Xb,Xc,Xd,Xe,reduceCtorEq,hfr,sameRes,hw,h1,h2,h3,h4,Bool.or_true,zhm,Bool.and_true,cond_true])
 ·simp only [i109,IC.sub,V0,Xa,Xb,Xc,Xd,Xe,reduceCtorEq,hfr,Sg.g,lineC,hw,h1]
  refine ⟨by simp [comm],?_⟩
  simp only [V0,Xa,Xb,Xc,Xd,Xe,reduceCtorEq,hfr]
  exact hK _ _ (by simp only [V0,Xa,Xb,Xc,Xd,Xe,reduceCtorEq,hfr,sameRes,hw,h1,zhu,cond_true])
noncomputable def atNode (L:List (Int × Pt)) (s u:Sg) (id:Int):Bool:=(id==u.a.fr||id==u.a.to)&&(onI s.p0 s.p1 (lkP L id)&&onI u.p0 u.p1 (lkP L id))
theorem comp_node (hS:NoS S) (s u:Sg) (L:List (Int × Pt)) {m d dm j:Nat} {out:yLM} (hm:12<=m) {bs:List Nat} {ck:Nat} (hdm:dm<d) (hmap:(out dm)[j]?=some (.map (ptKs L) (ptVs L) bs ck)) {K:yKM} (t:List IV) (F1 F2:IObj) (O:yLO)
  (hfr:Slots 137 t [(2,.mapM dm j),(3,.ptrM d 0 0),(4,.ptrM d 1 0),(7,.ptrM d 3 0),(8,.ptrM d 4 0),(9,.ptrM d 6 0),(10,.ptrM d 7 0)])
  (hK:∀ t' O',Slots 137 t' [(6,.bool (atNode L s u s.a.fr||atNode L s u s.a.to))]->K .ret ⟨t',O'⟩) :
  Ex (callN Ftab S m) d out m (i109.body.sub [1,1,1,1,1,1]) K ⟨t,.cells s.g::.cells u.g::F1::.cells s.p0.c::.cells s.p1.c::F2::.cells u.p0.c::.cells u.p1.c::O⟩:=by
 simp only [ze,zg] at hfr
 have hz2:rep [IV.int .i64 0] 2=[.int .i64 0,.int .i64 0]:=zgr rfl rfl
 have co:∀ (u v w:Pt) d out ownV own i,callN Ftab S m d out ownV own i 111 [.agg [.int .i64 u.x,.int .i64 u.y],.agg [.int .i64 v.x,.int .i64 v.y],.agg [.int .i64 w.x,.int .i64 w.y]]=some (.r,.bool (onI u v w),own):=fun u v w d out ownV own i=>at_on hS u v w m (by omega) d out ownV own i
 have hne:¬ (dm=d):=by omega
 simp only [i109,IC.sub,V0,Xa,Xb,Xc,Xd,Xe,reduceCtorEq,hfr,Sg.g,lineC,Pt.c,hz2]
 refine ⟨by simp [comm],?_⟩
 simp only [V0,Xa,Xb,Xc,Xd,Xe,reduceCtorEq,hfr]
 refine zd (fun jj st=>∃ (k:Nat) (O:yLO),2 - k<=jj/\k<=2/\(1<=k->atNode L s u s.a.fr=false)/\(2<=k->atNode L s u s.a.to=false)/\st.own=.cells [.ptrC (lineC s.a s.path) 0,.int .i64 (s.k:Int)]::.cells [.ptrC (lineC u.a u.path) 0,.int .i64 (u.k:Int)]::F1::.cells [.int .i64 s.p0.x,.int .i64 s.p0.y]::.cells [.int .i64 s.p1.x,.int .i64 s.p1.y]::F2::.cells [.int .i64 u.p0.x,.int .i64 u.p0.y]::.cells [.int .i64 u.p1.x,.int .i64 u.p1.y]::O/\Slots 137 st.t [(2,.mapM dm j),(3,.ptrM d 0 0),(4,.ptrM d 1 0),(7,.ptrM d 3 0),(8,.ptrM d 4 0),(9,.ptrM d 6 0),(10,.ptrM d 7 0),(99,.agg [.int .i64 s.a.fr,.int .i64 s.a.to]),(100,iv k)]) 2 (by omega) ⟨0,O,by omega,by omega,by omega,by omega,rfl,by simp only [V0,Xa,Xb,Xc,Xd,Xe,reduceCtorEq,hfr,zg4]⟩ ?_
 clear hfr
 rintro jj ⟨t,own⟩ KB ⟨k,O,hjk,hk,hk1,hk2,ho,hfr⟩ hnB heB hrB
 dsimp only at ho hfr
 subst ho
 simp only [V3] at hfr
 have hcase:k=0∨k=1∨k=2:=by omega
 rcases hcase with rfl | rfl | rfl
 ·have hlt:(((0:Nat):Int)<2)=True:=eq_true (by decide)
  have hw0:wrapI .i64 (((0:Nat):Int)+1)=((1:Nat):Int):=rfl
  have hn0:natI (.int .i64 ((0:Nat):Int))=some 0:=yb
  have h02:(0<2)=True:=eq_true (by decide)
  obtain ⟨r,hr1,hr2⟩:=zey s.a.fr L
  have ev:∀ (C:Call) (n0:Nat) (ownV own:yLO) (t:List IV) (x ix:Opd),ρ t x=.mapM dm j->ρ t ix=.int .i64 s.a.fr->evOp C d out n0 ownV own t (.lookup (.agg [.int .i64 0,.int .i64 0]) (false,[1]) false x ix)=some (.r,.agg [.int .i64 (lkP L s.a.fr).x,.int .i64 (lkP L s.a.fr).y],own):=fun C n0 ownV own t x ix h1 h2=>by
   rw [Zf]
   simp only [e_lookup,h1,h2,look,if_neg hne,if_pos hdm,hmap,hr1,zf2,hr2]
   rfl
  cases a1:s.a.fr==u.a.fr
  ·cases a2:s.a.fr==u.a.to
   ·skip
    have hat:atNode L s u s.a.fr=false:=by simp [atNode,a1,a2]
    simp only [V0,Xa,Xb,Xc,Xd,Xe,reduceCtorEq,hfr,Sg.g,lineC,hlt,zy,e_index,hn0,h02,hw0,zhp,zik,ev,co,a1,a2]
    exact hnB _ 1 (by omega) ⟨1,_,by omega,by omega,fun _=>hat,fun h=>absurd h (by omega),rfl,by simp only [V0,Xa,Xb,Xc,Xd,Xe,reduceCtorEq,hfr,hlt,hw0,ev,a1,a2]⟩
   ·skip
    cases o1:onI s.p0 s.p1 (lkP L s.a.fr)
    ·skip
     have hat:atNode L s u s.a.fr=false:=by simp [atNode,a1,a2,o1]
     simp only [V0,Xa,Xb,Xc,Xd,Xe,reduceCtorEq,hfr,Sg.g,lineC,hlt,zy,e_index,hn0,h02,hw0,zhp,zik,ev,co,a1,a2,o1]
     exact hnB _ 1 (by omega) ⟨1,_,by omega,by omega,fun _=>hat,fun h=>absurd h (by omega),rfl,by simp only [V0,Xa,Xb,Xc,Xd,Xe,reduceCtorEq,hfr,hlt,hw0,ev,a1,a2,o1]⟩
    ·cases o2:onI u.p0 u.p1 (lkP L s.a.fr)
     ·skip
      have hat:atNode L s u s.a.fr=false:=by simp [atNode,a1,a2,o1,o2]
      simp only [V0,Xa,Xb,Xc,Xd,Xe,reduceCtorEq,hfr,Sg.g,lineC,hlt,zy,e_index,hn0,h02,hw0,zhp,zik,ev,co,a1,a2,o1,o2]
      exact hnB _ 1 (by omega) ⟨1,_,by omega,by omega,fun _=>hat,fun h=>absurd h (by omega),rfl,by simp only [V0,Xa,Xb,Xc,Xd,Xe,reduceCtorEq,hfr,hlt,hw0,ev,a1,a2,o1,o2]⟩
     ·skip
      have hat:atNode L s u s.a.fr=true:=by simp [atNode,a1,a2,o1,o2]
      simp only [V0,Xa,Xb,Xc,Xd,Xe,reduceCtorEq,hfr,Sg.g,lineC,hlt,zy,e_index,hn0,h02,zhp,zik,ev,co,a1,a2,o1,o2]
      refine hrB _ ?_
      simp only [V0,Xa,Xb,Xc,Xd,Xe,reduceCtorEq,hfr]
      exact hK _ _ (by simp only [V0,Xa,Xb,Xc,Xd,Xe,reduceCtorEq,hfr,hat,zhu])
  ·skip
   cases o1:onI s.p0 s.p1 (lkP L s.a.fr)
   ·skip
    have hat:atNode L s u s.a.fr=false:=by simp [atNode,a1,o1]
    simp only [V0,Xa,Xb,Xc,Xd,Xe,reduceCtorEq,hfr,Sg.g,lineC,hlt,zy,e_index,hn0,h02,hw0,zhp,zik,ev,co,a1,o1]
    exact hnB _ 1 (by omega) ⟨1,_,by omega,by omega,fun _=>hat,fun h=>absurd h (by omega),rfl,by simp only [V0,Xa,Xb,Xc,Xd,Xe,reduceCtorEq,hfr,hlt,hw0,ev,a1,o1]⟩
   ·cases o2:onI u.p0 u.p1 (lkP L s.a.fr)
    ·skip
     have hat:atNode L s u s.a.fr=false:=by simp [atNode,a1,o1,o2]
     simp only [V0,Xa,Xb,Xc,Xd,Xe,reduceCtorEq,hfr,Sg.g,lineC,hlt,zy,e_index,hn0,h02,hw0,zhp,zik,ev,co,a1,o1,o2]
     exact hnB _ 1 (by omega) ⟨1,_,by omega,by omega,fun _=>hat,fun h=>absurd h (by omega),rfl,by simp only [V0,Xa,Xb,Xc,Xd,Xe,reduceCtorEq,hfr,hlt,hw0,ev,a1,o1,o2]⟩
    ·skip
     have hat:atNode L s u s.a.fr=true:=by simp [atNode,a1,o1,o2]
     simp only [V0,Xa,Xb,Xc,Xd,Xe,reduceCtorEq,hfr,Sg.g,lineC,hlt,zy,e_index,hn0,h02,zhp,zik,ev,co,a1,o1,o2]
     refine hrB _ ?_
     simp only [V0,Xa,Xb,Xc,Xd,Xe,reduceCtorEq,hfr]
     exact hK _ _ (by simp only [V0,Xa,Xb,Xc,Xd,Xe,reduceCtorEq,hfr,hat,zhu])
 ·have hlt:(((1:Nat):Int)<2)=True:=eq_true (by decide)
  have hw0:wrapI .i64 (((1:Nat):Int)+1)=((2:Nat):Int):=rfl
  have hn0:natI (.int .i64 ((1:Nat):Int))=some 1:=yb
  have h02:(1<2)=True:=eq_true (by decide)
  obtain ⟨r,hr1,hr2⟩:=zey s.a.to L
  have ev:∀ (C:Call) (n0:Nat) (ownV own:yLO) (t:List IV) (x ix:Opd),ρ t x=.mapM dm j->ρ t ix=.int .i64 s.a.to->evOp C d out n0 ownV own t (.lookup (.agg [.int .i64 0,.int .i64 0]) (false,[1]) false x ix)=some (.r,.agg [.int .i64 (lkP L s.a.to).x,.int .i64 (lkP L s.a.to).y],own):=fun C n0 ownV own t x ix h1 h2=>by
   rw [Zf]
   simp only [e_lookup,h1,h2,look,if_neg hne,if_pos hdm,hmap,hr1,zf2,hr2]
   rfl
  cases a1:s.a.to==u.a.fr
  ·cases a2:s.a.to==u.a.to
   ·skip
    have hat:atNode L s u s.a.to=false:=by simp [atNode,a1,a2]
    simp only [V0,Xa,Xb,Xc,Xd,Xe,reduceCtorEq,hfr,Sg.g,lineC,hlt,zy,e_index,hn0,h02,hw0,zhp,zik,ev,co,a1,a2]
    exact hnB _ 0 (by omega) ⟨2,_,by omega,by omega,fun _=>hk1 (by omega),fun _=>hat,rfl,by simp only [V0,Xa,Xb,Xc,Xd,Xe,reduceCtorEq,hfr,hlt,hw0,ev,a1,a2]⟩
   ·skip
    cases o1:onI s.p0 s.p1 (lkP L s.a.to)
    ·skip
     have hat:atNode L s u s.a.to=false:=by simp [atNode,a1,a2,o1]
     simp only [V0,Xa,Xb,Xc,Xd,Xe,reduceCtorEq,hfr,Sg.g,lineC,hlt,zy,e_index,hn0,h02,hw0,zhp,zik,ev,co,a1,a2,o1]
     exact hnB _ 0 (by omega) ⟨2,_,by omega,by omega,fun _=>hk1 (by omega),fun _=>hat,rfl,by simp only [V0,Xa,Xb,Xc,Xd,Xe,reduceCtorEq,hfr,hlt,hw0,ev,a1,a2,o1]⟩
    ·cases o2:onI u.p0 u.p1 (lkP L s.a.to)
     ·skip
      have hat:atNode L s u s.a.to=false:=by simp [atNode,a1,a2,o1,o2]
      simp only [V0,Xa,Xb,Xc,Xd,Xe,reduceCtorEq,hfr,Sg.g,lineC,hlt,zy,e_index,hn0,h02,hw0,zhp,zik,ev,co,a1,a2,o1,o2]
      exact hnB _ 0 (by omega) ⟨2,_,by omega,by omega,fun _=>hk1 (by omega),fun _=>hat,rfl,by simp only [V0,Xa,Xb,Xc,Xd,Xe,reduceCtorEq,hfr,hlt,hw0,ev,a1,a2,o1,o2]⟩
     ·skip
      have hat:atNode L s u s.a.to=true:=by simp [atNode,a1,a2,o1,o2]
      simp only [V0,Xa,Xb,Xc,Xd,Xe,reduceCtorEq,hfr,Sg.g,lineC,hlt,zy,e_index,hn0,h02,zhp,zik,ev,co,a1,a2,o1,o2]
      refine hrB _ ?_
      simp only [V0,Xa,Xb,Xc,Xd,Xe,reduceCtorEq,hfr]
      exact hK _ _ (by simp only [V0,Xa,Xb,Xc,Xd,Xe,reduceCtorEq,hfr,hk1 (by omega),hat,Bool.or_true])
  ·skip
   cases o1:onI s.p0 s.p1 (lkP L s.a.to)
   ·skip
    have hat:atNode L s u s.a.to=false:=by simp [atNode,a1,o1]
    simp only [V0,Xa,Xb,Xc,Xd,Xe,reduceCtorEq,hfr,Sg.g,lineC,hlt,zy,e_index,hn0,h02,hw0,zhp,zik,ev,co,a1,o1]
    exact hnB _ 0 (by omega) ⟨2,_,by omega,by omega,fun _=>hk1 (by omega),fun _=>hat,rfl,by simp only [V0,Xa,Xb,Xc,Xd,Xe,reduceCtorEq,hfr,hlt,hw0,ev,a1,o1]⟩
   ·cases o2:onI u.p0 u.p1 (lkP L s.a.to)
    ·skip
     have hat:atNode L s u s.a.to=false:=by simp [atNode,a1,o1,o2]
     simp only [V0,Xa,Xb,Xc,Xd,Xe,reduceCtorEq,hfr,Sg.g,lineC,hlt,zy,e_index,hn0,h02,hw0,zhp,zik,ev,co,a1,o1,o2]
     exact hnB _ 0 (by omega) ⟨2,_,by omega,by omega,fun _=>hk1 (by omega),fun _=>hat,rfl,by simp only [V0,Xa,Xb,Xc,Xd,Xe,reduceCtorEq,hfr,hlt,hw0,ev,a1,o1,o2]⟩
    ·skip
     have hat:atNode L s u s.a.to=true:=by simp [atNode,a1,o1,o2]
     simp only [V0,Xa,Xb,Xc,Xd,Xe,reduceCtorEq,hfr,Sg.g,lineC,hlt,zy,e_index,hn0,h02,zhp,zik,ev,co,a1,o1,o2]
     refine hrB _ ?_
     simp only [V0,Xa,Xb,Xc,Xd,Xe,reduceCtorEq,hfr]
     exact hK _ _ (by simp only [V0,Xa,Xb,Xc,Xd,Xe,reduceCtorEq,hfr,hk1 (by omega),hat,Bool.or_true])
 ·have hlt:(((2:Nat):Int)<2)=False:=eq_false (by decide)
  simp only [V0,Xa,Xb,Xc,Xd,Xe,reduceCtorEq,hfr,hlt]
  refine heB _ _ ?_
  simp only [V0,Xa,Xb,Xc,Xd,Xe,reduceCtorEq,hfr]
  exact hK _ _ (by simp only [V0,Xa,Xb,Xc,Xd,Xe,reduceCtorEq,hfr,hk1 (by omega),hk2 (by omega),Bool.or_self])
end
end
section
noncomputable def Sg.meet (s u:Sg):Int:=meetI s.p0 s.p1 u.p0 u.p1
noncomputable def compB (L:List (Int × Pt)) (s u:Sg):Bool:=bif s.a.id==u.a.id then (bif decide (u.k<s.k) then sameRes (s.meet u) u s else sameRes (s.meet u) s u) else bif s.meet u==1 then atNode L s u s.a.fr||atNode L s u s.a.to else s.meet u==0
section
variable {S:ySM}
theorem at_comp (hS:NoS S) (s u:Sg) (L:List (Int × Pt)) {m d j:Nat} {out:yLM} {ownV own:yLO} {id:Nat} {bs:List Nat} {ck:Nat} (hm:20<=m) (hmap:ownV[j]?=some (.map (ptKs L) (ptVs L) bs ck)) :
  callN Ftab S m d out ownV own id 109 [.agg s.g,.agg u.g,.mapM d j]=some (.r,.bool (compB L s u),own):=by
 refine ZT (i:=i109) (ns hS (by rfl)) rfl rfl (lb rfl) (N:=19) (by omega) hm zn fun m hm t hfr=>?_
 simp only [V2,Xb,i109] at hfr
 have hmap2:((fun l=>if l=d then ownV else out l:yLM) d)[j]?=some (.map (ptKs L) (ptVs L) bs ck):=by simpa using hmap
 generalize (fun l=>if l=d then ownV else out l:yLM)=out2 at hmap2 ⊢
 have hce:=fun dd oo ownV own i=>za9 hS s m (by omega) dd oo ownV own i
 have hcu:=fun dd oo ownV own i=>za9 hS u m (by omega) dd oo ownV own i
 have hcm:=fun dd oo ownV own i=>at_meet hS s.p0 s.p1 u.p0 u.p1 m (by omega) dd oo ownV own i
 simp only [Sg.g,lineC,Pt.c,zf] at hce hcu hcm
 have hA1:=fun (K:yKM) t O=>comp_same hS s u (s.meet u) (m:=m) (d:=d+1) (out:=out2) (by omega) (K:=K) t O
 have hA2:=fun (K:yKM) t O=>comp_same hS u s (s.meet u) (m:=m) (d:=d+1) (out:=out2) (by omega) (K:=K) t O
 have hB1:=fun (K:yKM) t F1 F2 O=>comp_node hS s u L (m:=m) (d:=d+1) (out:=out2) (by omega) (by omega) hmap2 (K:=K) t F1 F2 O
 rw [show i109.body=.seq (i109.body.sub [0]) (.seq (i109.body.sub [1,0]) (.seq (i109.body.sub [1,1,0]) (.seq (i109.body.sub [1,1,1,0]) (.seq (.seq (i109.body.sub [1,1,1,1,0,0]) (.cond (.tmp 42) (.seq (i109.body.sub [1,1,1,1,0,1,0,0]) (i109.body.sub [1,1,1,1,0,1,0,1])) .skip)) (.seq (i109.body.sub [1,1,1,1,1,0]) (i109.body.sub [1,1,1,1,1,1])))))) from rfl]
 generalize i109.body.sub [1,1,1,1,0,1,0,1]=A at hA1 hA2 ⊢
 generalize i109.body.sub [1,1,1,1,1,1]=B at hB1 ⊢
 have hmt:meetI s.p0 s.p1 u.p0 u.p1=s.meet u:=rfl
 rw [hmt] at hcm
 cases h0:s.a.id==u.a.id
 ·cases h1:s.meet u==1
  ·have hbne:∀ z:Int,(z != 1)=!(z==1):=fun z=>rfl
   simp only [i109,IC.sub,V0,sevalprocAttr,hfr,Sg.g,lineC,hce,hcu,hcm]
   refine ⟨by simp [comm],?_⟩
   simp only [V0,sevalprocAttr,hfr,h0,hbne,h1]
   simp only [V0,sevalprocAttr,hfr,compB,h0,h1,cond_false]
  ·have hbne:∀ z:Int,(z != 1)=!(z==1):=fun z=>rfl
   simp only [i109,IC.sub,V0,sevalprocAttr,hfr,Sg.g,lineC,hce,hcu,hcm]
   refine ⟨by simp [comm],?_⟩
   simp only [V0,sevalprocAttr,hfr,h0,hbne,h1]
   refine hB1 _ _ _ _ _ (by simp only [V0,sevalprocAttr,hfr]) fun t' O' ht=>?_
   simp only [ze,zg] at ht
   simp only [V0,sevalprocAttr,ht,compB,h0,h1,cond_true,cond_false]
 ·by_cases h1:(u.k:Int)<(s.k:Int)
  ·have h1':decide (u.k<s.k)=true:=by simp; omega
   simp only [i109,IC.sub,V0,sevalprocAttr,hfr,Sg.g,lineC,hce,hcu,hcm]
   refine ⟨by simp [comm],?_⟩
   simp only [V0,sevalprocAttr,hfr,h0,gt_iff_lt,h1]
   refine hA2 _ _ _ (by simp only [V0,sevalprocAttr,hfr]) fun t' O' ht=>?_
   simp only [ze,zg] at ht
   simp only [V0,sevalprocAttr,ht,compB,h0,h1',cond_true]
  ·have h1':decide (u.k<s.k)=false:=by simp; omega
   simp only [i109,IC.sub,V0,sevalprocAttr,hfr,Sg.g,lineC,hce,hcu,hcm]
   refine ⟨by simp [comm],?_⟩
   simp only [V0,sevalprocAttr,hfr,h0,gt_iff_lt,h1]
   refine hA1 _ _ _ (by simp only [V0,sevalprocAttr,hfr]) fun t' O' ht=>?_
   simp only [ze,zg] at ht
   simp only [V0,sevalprocAttr,ht,compB,h0,h1',cond_true,cond_false]
end
end
section
theorem Yy {S:ySM} {f:FuncId} {i:IFn} {args:List IV} {m d:Nat} {out:yLM} {ownV own:yLO} {id:Nat} {Q:Eff × IV × List IObj->Prop} (hS:S f args=none) (hi:Ftab f=some i) (hm:i.mode≠2/\i.mode≠3/\¬ 4<=i.mode) (hl:args.length<=i.ntmps)
  (h:∀ t,Slots i.ntmps t (slotsOf 0 args)->Ex (callN Ftab S m) (d+1) (fun l=>if l=d then ownV else out l) m i.body (fun o st=>(o=.normal∨o=.ret)/\∃ v r,resultI (d+1) (fun l=>if l=d then ownV else out l) st i.res=some v/\leave m d st.own own id i.mode v=some r/\Q r) ⟨t,[]⟩):∃ r,callN Ftab S (m+1) d out ownV own id f args=some r/\Q r:=by
 obtain ⟨o,st,h1,h2,v,r,h3,h4,h5⟩:=h (args++List.replicate (i.ntmps - args.length) (.tuple [])) ⟨by simp; omega,fun p hp=>by
  obtain ⟨j,h1,h2⟩:=yp hp
  rw [zI,zf8,h1,zg5,zf1 (zfz.1 h2).1,h2]
  rfl⟩
 refine ⟨r,?_,h5⟩
 simp only [callN,hS,hi,if_neg hm.1,if_neg hm.2.1,if_neg hm.2.2,zc,h1]
 rcases h2 with rfl | rfl <;> simp [ended,h3,h4]
theorem zcc {α:Type} {g:α->List IV} {sz:Nat} (hs:∀ a,(g a).length=sz) {d n0 slot k:Nat} {out:yLM} {Pre J R:yLO} {lv:IV} {xs ys:List α} (h:OwnJ g sz d Pre.length J lv xs) (hy:ys.length≠0) (hx:xs.length+ys.length<=1073741824) (hk:n0+slot=Pre.length+(J.length+k)) (hf:R[k]?=some .free)
  (hsc:(ys.flatMap g).all IV.scalar=true) :
  ∃ e lv' J2,appendI d n0 (look d out (Pre++(J++R))) (Pre++(J++R)) sz lv (ys.flatMap g) ys.length slot=some (e,lv',Pre++J2)/\OwnJ g sz d Pre.length J2 lv' (xs++ys)/\∀ j x,j<J.length+k->(J++R)[j]?=some x->(J.length<=j∨x≠.cells (xs.flatMap g))->J2[j]?=some x:=by
 have hkl:k<R.length:=(zfz.1 hf).1
 have hget:(J++R)[J.length+k]?=some .free:=by
  rw [zf4 (by omega),zhw]
  exact hf
 have hlt:J.length+k<(J++R).length:=by rw [zga]; omega
 have hne:xs++ys≠[]:=by
  intro he
  exact hy (by rw [(List.append_eq_nil_iff.1 he).2]; rfl)
 rcases h with ⟨rfl,rfl⟩ | ⟨b,_,rfl,h2⟩
 ·rw [YK hy (by unfold bound; simp at hx; omega)]
  unfold mkAt
  rw [hk,zW,hget]
  simp only [zc]
  rw [ye]
  refine ⟨_,_,_,rfl,.inr ⟨J.length+k,hne,by simp,?_⟩,fun j x hj hx2 _=>?_⟩
  ·rw [zg9 hlt]
   rfl
  ·rw [zg6 (by omega)]
   exact hx2
 ·have hb:b<J.length:=(zfz.1 h2).1
  have hb2:(J++R)[b]?=some (.cells (xs.flatMap g)):=by rw [zf1 hb]; exact h2
  rw [Yu hy hx (zq hs) hsc (by simp only [look,if_true,zW]; exact hb2)]
  unfold killAt
  rw [hk,zW,hget]
  simp only [zc]
  rw [ye,ye]
  refine ⟨_,_,_,rfl,.inr ⟨J.length+k,hne,by simp,?_⟩,fun j x hj hx2 hne2=>?_⟩
  ·rw [zg9 (by rw [zid]; exact hlt)]
   simp
  ·rw [zg6 (by omega)]
   by_cases hjb:j=b
   ·subst hjb
    rw [hb2] at hx2
    cases hx2
    rcases hne2 with h3 | h3
    ·omega
    ·exact absurd rfl h3
   ·rw [zg6 (Ne.symm hjb)]
    exact hx2
def bdG (d:Nat) (sb:Sg × Nat):List IV:=[.ptrM d sb.2 0,.int .i64 (sb.1.k:Int)]
theorem bdG_len (d:Nat) (sb:Sg × Nat):(bdG d sb).length=2:=rfl
def LinesOK (J:yLO) (xs:List (Sg × Nat)):Prop:=∀ sb∈xs,1<=sb.2/\J[sb.2 - 1]?=some (.cells (lineC sb.1.a sb.1.path))
theorem line_ne {d:Nat} {a:Ac} {path:SlOf 2 Pt.c} {xs:List (Sg × Nat)}:(IObj.cells (lineC a path))≠.cells (xs.flatMap (bdG d)):=by
 intro h
 cases xs with
 | nil=>simp [lineC] at h
 | cons x xs=>simp [lineC,bdG] at h
theorem ptC_fz (a:Pt):∀ x∈a.c,Fz 1 x:=by
 intro x hx
 simp only [Pt.c,zgf,zg1,or_false] at hx
 rcases hx with rfl | rfl <;> exact zo
theorem segs_fz {n d:Nat} {own:yLO} (hn:4<=n):∀ {xs:List (Sg × Nat)},(∀ sb∈xs,own[sb.2]?=some (.cells (lineC sb.1.a sb.1.path)))->(xs.flatMap (bdG d)).mapM (freeze n d own)=some ((xs.map Prod.fst).flatMap Sg.g)
 | [],_=>rfl
 | sb::xs,h=>by
  obtain ⟨n,rfl⟩:∃ q,n=q+4:=⟨n - 4,by omega⟩
  have ih:=segs_fz (n:=n+4) (d:=d) hn (xs:=xs) fun x hx=>h x (zgn _ hx)
  have h1:=h sb (zgi ..)
  have f1:freeze (n+4) d own (.ptrM d sb.2 0)=some (.ptrC (lineC sb.1.a sb.1.path) 0):=by
   have hvia:freeze (n+3) d own sb.1.a.via.v=some sb.1.a.via.v:=yK ptC_fz sb.1.a.via (n+3) (by omega) d own
   have hpa:freeze (n+3) d own sb.1.path.v=some sb.1.path.v:=yK ptC_fz sb.1.path (n+3) (by omega) d own
   have hi:∀ z:Int,freeze (n+3) d own (.int .i64 z)=some (.int .i64 z):=fun z=>rfl
   unfold freeze
   simp only [if_true,h1,lineC,zhy,List.mapM_nil,hvia,hpa,hi,zio,zia,zge,zf2]
  have f2:freeze (n+4) d own (.int .i64 (sb.1.k:Int))=some (.int .i64 (sb.1.k:Int)):=rfl
  rw [zgj,zg3,zgj]
  simp only [bdG,Sg.g,zgq,zgz,zhy,f1,f2,zio,zia,zge]
  rw [ih]
  rfl
end
section
theorem LinesOK.keep {J J2:yLO} {xs:List (Sg × Nat)} {d:Nat} (h:LinesOK J xs) (hk:∀ (j:Nat) (x:IObj),J[j]?=some x->x≠IObj.cells (xs.flatMap (bdG d))->J2[j]?=some x):LinesOK J2 xs:=fun sb hs=>⟨(h sb hs).1,hk _ _ (h sb hs).2 line_ne⟩
theorem LinesOK.more {J R:yLO} {xs:List (Sg × Nat)} (h:LinesOK J xs):LinesOK (J++R) xs:=fun sb hs=>⟨(h sb hs).1,by
 have:=(h sb hs).2
 rw [zf1 (zfz.1 this).1]
 exact this⟩
theorem leave_segs {n d bi id:Nat} {own1 own:yLO} {xs:List (Sg × Nat)} {b:Bool} (hn:4<=n) (hb:own1[bi]?=some (.cells (xs.flatMap (bdG (d+1))))) (hl:∀ sb∈xs,own1[sb.2]?=some (.cells (lineC sb.1.a sb.1.path))) (hid:own[id]?=some .free) :
  leave n d own1 own id 1 (.tuple [.slM (d+1) bi 0 xs.length xs.length 2 false,.bool b])=some (.a,.tuple [.slM d id 0 xs.length xs.length 2 false,.bool b],own.set id (.cells ((xs.map Prod.fst).flatMap Sg.g))):=by
 obtain ⟨n,rfl⟩:∃ q,n=q+4:=⟨n - 4,by omega⟩
 have h1:∀ sb∈xs,(own1.set bi .gone)[sb.2]?=some (.cells (lineC sb.1.a sb.1.path)):=fun sb hs=>by
  have hne:bi≠sb.2:=by
   intro he
   have:=hl sb hs
   rw [← he,hb] at this
   exact line_ne (zgy this).symm
  rw [zg6 hne]
  exact hl sb hs
 have hf:=segs_fz (n:=n+4) (d:=d+1) (by omega) h1
 have hseg:seg (xs.flatMap (bdG (d+1))) 0 (xs.length*2)=some (xs.flatMap (bdG (d+1))):=by
  have hlen:(xs.flatMap (bdG (d+1))).length=xs.length*2:=zq (bdG_len (d+1))
  unfold seg
  rw [if_pos (by omega),zc,List.drop_zero,zgg (by omega)]
 have hbool:∀ o,freeze (n+4) (d+1) o (.bool b)=some (.bool b):=fun o=>rfl
 unfold leave
 simp only [if_true,handed,hb,hseg,hf,zhy,List.mapM_nil,hbool,zio,zia,zge,mkAt,hid,zc]
structure Sp where
 (id fr to:Int)
 (k n:Nat)
 (A B:Pt)
def Sg.sp (s:Sg):Sp:=⟨s.a.id,s.a.fr,s.a.to,s.k,s.path.l.length - 1,s.p0,s.p1⟩
def zPt:Pt:=⟨0,0⟩
def spsOf (a:Ac) (l:List Pt):List Sp:=(List.range (l.length - 1)).map fun k=>⟨a.id,a.fr,a.to,k,l.length - 1,l.getD k zPt,l.getD (k+1) zPt⟩
def anyEq (l:List Pt):Bool:=(List.range (l.length - 1)).any fun k=>ptE (l.getD k zPt) (l.getD (k+1) zPt)
def badA (p:Pn) (a:Ac):Bool:=!pathOk p a.id||((a.fr==a.to&&decide ((pathL p a.id).length<4))||anyEq (pathL p a.id))
def spsL (p:Pn):List Sp:=p.az.l.flatMap fun a=>spsOf a (pathL p a.id)
theorem badA_short {p:Pn} {x:Ac} (h:(x.fr==x.to)=true) (h4:(pathL p x.id).length<4):badA p x=true:=by simp [badA,h,h4]
theorem badA_not {p:Pn} {x:Ac} (h:pathOk p x.id=true) (h4:¬ (pathL p x.id).length<4) (he:anyEq (pathL p x.id)=false):badA p x=false:=by simp [badA,h,h4,he]
def SegsR (p:Pn) (d id:Nat) (own:yLO) (r:Eff × IV × yLO):Prop:=(∃ b,r=(.r,.tuple [.nilsl,.bool b],own)/\p.az.l.any (badA p)=!b/\(b=true->spsL p=[]))∨∃ l:List Sg,l≠[]/\l.length<=p.az.l.length*100/\(p.az.l.any (badA p)=false/\l.map Sg.sp=spsL p)/\r=(.a,.tuple [.slM d id 0 l.length l.length 2 false,.bool true],own.set id (.cells (l.flatMap Sg.g)))
section
variable {S:ySM}
theorem st_end2 {l r:yLO} {x y z w:IObj}:(l++x::y::z::r).set (l.length+2) w=l++x::y::w::r:=by
 rw [zie _ _ (by omega),zhw]
 rfl
theorem cells_pm {l i o:Nat}:(IV.ptrM l i o).cells=[.ptrM l i o]:=zgr rfl rfl
theorem rep1 (a b:IV):rep [a,b] 1=[a,b]:=zgr rfl rfl
theorem cellsI_2 {lk:Nat->Nat->Option IObj} {a b:IV} {tight:Bool}:cellsI lk 2 (.slC [a,b] 1 2 tight)=some ([a,b],1):=by
 simp [cellsI,seg,zc]
theorem spsOf_at {a:Ac} {l:List Pt} {k:Nat} {x y:Pt} (hx:l[k]?=some x) (hy:l[k+1]?=some y):(spsOf a l).take (k+1)=(spsOf a l).take k++[⟨a.id,a.fr,a.to,k,l.length - 1,x,y⟩]:=by
 have hl:=(zfz.1 hy).1
 have e:(spsOf a l)[k]?=some ⟨a.id,a.fr,a.to,k,l.length - 1,x,y⟩:=by
  unfold spsOf
  rw [zgd,List.getElem?_range (by omega)]
  simp [zf8,hx,hy]
 rw [zhb,e]
 rfl
theorem spsOf_len {a:Ac} {l:List Pt}:(spsOf a l).length=l.length - 1:=by simp [spsOf]
theorem anyEq_hit {l:List Pt} {k:Nat} {x y:Pt} (hx:l[k]?=some x) (hy:l[k+1]?=some y) (h:ptE x y=true):anyEq l=true:=by
 have hl:=(zfz.1 hy).1
 unfold anyEq
 rw [zh5]
 exact ⟨k,zht.2 (by omega),by simp [zf8,hx,hy,h]⟩
def NoEq (l:List Pt) (k:Nat):Prop:=∀ i,i<k->ptE (l.getD i zPt) (l.getD (i+1) zPt)=false
theorem NoEq.next {l:List Pt} {k:Nat} {x y:Pt} (h0:NoEq l k) (hx:l[k]?=some x) (hy:l[k+1]?=some y) (h:ptE x y=false):NoEq l (k+1):=fun i hi=>by
 by_cases hk:i=k
 ·subst hk
  simp [zf8,hx,hy,h]
 ·exact h0 i (by omega)
theorem NoEq.done {l:List Pt} {k:Nat} (h0:NoEq l k) (hk:l.length - 1<=k):anyEq l=false:=by
 unfold anyEq
 rw [zhv]
 intro i hi
 have:=zht.1 hi
 rw [h0 i (by omega)]
 decide
theorem segs_tail (hS:NoS S) (p:Pn) (x:Ac) (q':SlOf 2 Pt.c) {m D i:Nat} {out:yLM} (hm:q'.l.length+6<=m) (hq:2<=q'.l.length/\q'.l.length<=66) {K:yKM} (t:List IV) (J:yLO) (lv:IV) (xs:List (Sg × Nat)) (hO:OwnJ (bdG D) 2 D 1 J lv xs) (hL:LinesOK J xs) (hxl:xs.length<=100000)
  (hfr:Slots 67 t [(1,.ptrM D 0 0),(2,lv),(3,.bool false),(5,.ptrM D (J.length+1) 0),(6,q'.v),(11,p.az.v),(12,iv (p.az.l.length:Nat)),(13,iv i)])
  (hR:∀ t' O',anyEq q'.l=true->Slots 67 t' [(2,.nilsl),(3,.bool false)]->K .ret ⟨t',O'⟩)
  (hK:∀ t' J' lv' xs',OwnJ (bdG D) 2 D 1 J' lv' xs'->LinesOK J' xs'->xs'.length<=xs.length+66->(anyEq q'.l=false/\xs'.map (fun x=>x.1.sp)=xs.map (fun x=>x.1.sp)++spsOf x q'.l)->Slots 67 t' [(1,.ptrM D 0 0),(2,lv'),(3,.bool false),(11,p.az.v),(12,iv (p.az.l.length:Nat)),(13,iv i)]->K .normal ⟨t',IObj.cells [p.ns.v,p.az.v,p.fs.v]::J'⟩) :
  Ex (callN Ftab S m) D out m (i103.body.sub [1,0,1,0,0,1,1,0,0,1,1,1]) K ⟨t,IObj.cells [p.ns.v,p.az.v,p.fs.v]::(J++[.cells [.int .i64 x.id,.int .i64 x.fr,.int .i64 x.to,x.via.v,.int .i64 x.l,.int .i64 x.r],.free])⟩:=by
 simp only [V3] at hfr
 have hqf:=q'.few
 have e1:wrapI .i64 ((q'.l.length:Int) - 1)=((q'.l.length - 1:Nat):Int):=we
 simp only [i103,IC.sub,V0,sevalprocAttr,hfr,zP,zU,st_end2,za2,e1]
 refine zd (fun jj st=>∃ (k:Nat) (J2:yLO) (lv2:IV) (xs2:List (Sg × Nat)),q'.l.length - 1 - k<=jj/\k<=q'.l.length - 1/\OwnJ (bdG D) 2 D 1 J2 lv2 xs2/\LinesOK J2 xs2/\(xs2.length<=xs.length+k/\NoEq q'.l k/\xs2.map (fun x=>x.1.sp)=xs.map (fun x=>x.1.sp)++(spsOf x q'.l).take k)/\J2[J.length+2]?=some (.cells (lineC x q'))/\st.own=IObj.cells [p.ns.v,p.az.v,p.fs.v]::J2/\Slots 67 st.t [(1,.ptrM D 0 0),(2,lv2),(3,.bool false),(6,q'.v),(8,.ptrM D (J.length+2+1) 0),(11,p.az.v),(12,iv (p.az.l.length:Nat)),(13,iv i),(44,iv (q'.l.length - 1:Nat)),(45,iv k)]) (q'.l.length - 1) (by omega) ⟨0,_,lv,xs,by omega,by omega,hO.more _,hL.more,⟨by omega,fun i hi=>absurd hi (Nat.not_lt_zero _),by simp⟩,za2,rfl,by simp only [V0,sevalprocAttr,hfr,zg4,e1]⟩ ?_
 clear hfr
 rintro jj ⟨t,own1⟩ KB ⟨k,J2,lv2,xs2,hjj,hk,hO2,hL2,⟨hx2,hne0,hsp⟩,hln,ho,hfr⟩ hnB heB hrB
 dsimp only at ho hfr
 subst ho
 simp only [V3] at hfr
 by_cases h:k<q'.l.length - 1
 ·have h0:k<q'.l.length:=by omega
  have h1:k+1<q'.l.length:=by omega
  obtain ⟨y0,hx0⟩:=gx (l:=q'.l) (i:=k) h0
  obtain ⟨y1,hx1⟩:=gx (l:=q'.l) (i:=k+1) h1
  have r0:rdN (q'.l.flatMap Pt.c) (k*2) 2=some [.int .i64 y0.x,.int .i64 y0.y]:=(zb (sz:=2) (fun _=>rfl) 0 2 hx0 (by omega)).trans rfl
  have r1:rdN (q'.l.flatMap Pt.c) ((k+1)*2) 2=some [.int .i64 y1.x,.int .i64 y1.y]:=(zb (sz:=2) (fun _=>rfl) 0 2 hx1 (by omega)).trans rfl
  have hw:wrapI .i64 ((k:Int)+1)=((k+1:Nat):Int):=we
  have hlen3:=hxl
  cases hq1:ptE y0 y1
  ·have hq':=hq1
   unfold ptE at hq'
   obtain ⟨e,lv3,J3,happ,hO3,hkeep⟩:=zcc (Pre:=[IObj.cells [p.ns.v,p.az.v,p.fs.v]]) (n0:=J2.length+1) (slot:=0) (k:=0) (out:=out) (R:=[.free]) (bdG_len D) hO2 (ys:=[(⟨x,q',k,h1⟩,J.length+2+1)]) (by simp) (by simp only [zf3,zgb]; omega) (by simp only [zf3,zgb]; omega) rfl rfl
   simp only [zgq,zgz,zgj,zh4,bdG,zf3,zgb,zhc,zg5] at happ
   simp only [V0,sevalprocAttr,hfr,h,za q' h0,za q' h1,r0,r1,hw,yk,hq',zhh]
   refine ⟨by simp [comm],?_⟩
   simp only [V0,sevalprocAttr,hfr,yk,hq',zhh,cells_pm,rep1,zt,zJ,zT,cellsI_2,happ,hw]
   have keep:∀ (j:Nat) (z:IObj),J2[j]?=some z->z≠IObj.cells (xs2.flatMap (bdG D))->J3[j]?=some z:=fun j z hj hz=>by
    have hlt:=(zfz.1 hj).1
    exact hkeep j z (by omega) (by rw [zf1 hlt]; exact hj) (.inr hz)
   have hln3:=keep _ _ hln line_ne
   refine hnB _ (q'.l.length - 1 - (k+1)) (by omega) ⟨k+1,J3,lv3,_,by omega,by omega,hO3,?_,⟨by simp only [zga,zf3,zgb]; omega,hne0.next hx0 hx1 hq1,?_⟩,hln3,rfl,by simp only [V0,sevalprocAttr,hfr,hw,yk,hq',zhh]⟩
   ·intro sb hsb
    rcases zhf.1 hsb with hsb | hsb
    ·exact (hL2.keep keep) sb hsb
    ·simp only [zgf,zg1,or_false] at hsb
     subst hsb
     exact ⟨by simp,by simpa using hln3⟩
   ·have e0:q'.l[k]'h0=y0:=by rw [zf0 h0] at hx0; exact zgy hx0
    have e1:q'.l[k+1]'h1=y1:=by rw [zf0 h1] at hx1; exact zgy hx1
    have hs1:(⟨x,q',k,h1⟩:Sg).sp=⟨x.id,x.fr,x.to,k,q'.l.length - 1,y0,y1⟩:=by simp [Sg.sp,Sg.p0,Sg.p1,e0,e1]
    rw [zir,hsp,zgu,spsOf_at hx0 hx1,zg3,zh9,hs1]
  ·have hq':=hq1
   unfold ptE at hq'
   simp only [V0,sevalprocAttr,hfr,h,za q' h0,za q' h1,r0,r1,hw,yk,hq',zhh]
   refine ⟨by simp [comm],?_⟩
   simp only [V0,sevalprocAttr,hfr,yk,hq',zhh]
   refine hrB _ ?_
   exact hR _ _ (anyEq_hit hx0 hx1 hq1) (by simp only [V0,sevalprocAttr,hfr])
 ·simp only [V0,sevalprocAttr,hfr,h]
  refine heB _ _ ?_
  simp only [V0,sevalprocAttr,hfr]
  exact hK _ _ _ _ hO2 hL2 (by omega) ⟨hne0.done (by omega),by rw [hsp,zgg (by rw [spsOf_len]; omega)]⟩ (by simp only [V0,sevalprocAttr,hfr])
theorem at_segs (hS:NoS S) (p:Pn) (hv:∀ a∈p.az.l,a.via.l.length<=64) (ha:p.az.l.length<=1000):∃ N,∀ m,N<=m->∀ d out ownV own id,own[id]?=some .free->∃ r,callN Ftab S m d out ownV own id 103 [.agg p.c]=some r/\SegsR p d id own r:=by
 have hfv:FewVia p:=fun a h=>by have:=hv a h; omega
 have hviaD:∀ id,(arcD p id).via.l.length<=64:=fun id=>by
  unfold arcD
  cases hf:arcF p id with
  | none=>simp [zAc,nilS]
  | some a=>exact hv a (List.mem_of_find?_eq_some hf)
 have hpath:∀ a∈p.az.l,∃ N,∀ m,N<=m->∃ q':SlOf 2 Pt.c,(pathOk p a.id=true->q'.l=pathL p a.id)/\∀ d out ownV own id,callN Ftab S m d out ownV own id 38 [.agg p.c,iv a.id]=some (.r,.tuple [q'.v,iv (bif pathOk p a.id then 0 else 7)],own):=fun a _=>by
  obtain ⟨q',h1,N,h2⟩:=Zo hS p a.id hfv
  exact ⟨N,fun m hm=>⟨q',h1,h2 m hm⟩⟩
 obtain ⟨Np,hNp⟩:=Yv p.az.l hpath
 refine ⟨Np+p.az.l.length+100,fun m hm d out ownV own id hid=>?_⟩
 obtain ⟨m,rfl⟩:∃ q,m=q+1:=⟨m - 1,by omega⟩
 refine Yy (i:=i103) (ns hS (by rfl)) rfl (by decide) (lb rfl) fun t hfr=>?_
 simp only [V2,Xb,i103,Pn.c] at hfr
 generalize (fun l=>if l=d then ownV else out l:yLM)=out2
 obtain ⟨m,rfl⟩:∃ q,m=q+6:=⟨m - 6,by omega⟩
 have hnil:∀ (o:yLO) (b:Bool),leave (m+6) d o own id 1 (.tuple [.nilsl,.bool b])=some (.r,.tuple [.nilsl,.bool b],own):=fun o b=>by simp [leave,freeze]
 have haf:=p.az.few
 have hT0:=fun (x:Ac) (q':SlOf 2 Pt.c) {i:Nat}=>@segs_tail S hS p x q' (m+6) (d+1) i out2
 rw [show i103.body=.seq (i103.body.sub [0]) (.seq (.seq (i103.body.sub [1,0,0]) (.block 0 (.loop (.seq (i103.body.sub [1,0,1,0,0,0]) (.seq (i103.body.sub [1,0,1,0,0,1,0]) (.seq (.block 1 (.seq (i103.body.sub [1,0,1,0,0,1,1,0,0,0]) (.seq (i103.body.sub [1,0,1,0,0,1,1,0,0,1,0]) (.seq (i103.body.sub [1,0,1,0,0,1,1,0,0,1,1,0]) (i103.body.sub [1,0,1,0,0,1,1,0,0,1,1,1]))))) (i103.body.sub [1,0,1,0,0,1,1,1]))))))) (i103.body.sub [1,1])) from rfl]
 generalize i103.body.sub [1,0,1,0,0,1,1,0,0,1,1,1]=T at hT0 ⊢
 simp only [i103,IC.sub,V0,sevalprocAttr,hfr]
 refine zd (fun jj st=>∃ (i:Nat) (J:yLO) (lv:IV) (xs:List (Sg × Nat)),p.az.l.length - i<=jj/\i<=p.az.l.length/\OwnJ (bdG (d+1)) 2 (d+1) 1 J lv xs/\LinesOK J xs/\(xs.length<=i*100/\((p.az.l.take i).any (badA p)=false/\xs.map (fun x=>x.1.sp)=(p.az.l.take i).flatMap fun a=>spsOf a (pathL p a.id)))/\st.own=.cells [p.ns.v,p.az.v,p.fs.v]::J/\Slots 67 st.t [(1,.ptrM (d+1) 0 0),(2,lv),(3,.bool false),(11,p.az.v),(12,iv (p.az.l.length:Nat)),(13,iv i)]) p.az.l.length (by omega) ⟨0,[],.nilsl,[],by omega,by omega,.inl ⟨rfl,rfl⟩,fun _ h=>by simp at h,⟨by simp,by simp⟩,rfl,by simp only [V0,sevalprocAttr,hfr,zg4]⟩ ?_
 clear hfr
 rintro jj ⟨t,own1⟩ KA ⟨i,J,lv,xs,hjj,hi,hO,hL,⟨hx1,hbd,hsp⟩,ho,hfr⟩ hnA heA hrA
 dsimp only at ho hfr
 subst ho
 simp only [V3] at hfr
 by_cases h:i<p.az.l.length
 ·have hx:p.az.l[i]?=some p.az.l[i]:=zf0 h
  obtain ⟨q',hq1,hq2⟩:=hNp _ (zgt h) (m+6) (by omega)
  have hmx:p.az.l[i]∈p.az.l:=zgt h
  generalize p.az.l[i]=x at hx hq1 hq2 hmx
  have hbad:badA p x=true->p.az.l.any (badA p)=!false:=fun hb=>zh5.2 ⟨x,hmx,hb⟩
  have hstep:badA p x=false->(p.az.l.take (i+1)).any (badA p)=false:=fun hb=>by
   rw [zhb,hx,zhq,List.any_append,hbd]
   simp [hb]
  have hsstep:(p.az.l.take (i+1)).flatMap (fun a=>spsOf a (pathL p a.id))=(p.az.l.take i).flatMap (fun a=>spsOf a (pathL p a.id))++spsOf x (pathL p x.id):=by
   rw [zhb,hx,zhq,List.flatMap_append]
   simp
  have hrd:rdN (p.az.l.flatMap Ac.c) (i*6) 6=some [.int .i64 x.id,.int .i64 x.fr,.int .i64 x.to,x.via.v,.int .i64 x.l,.int .i64 x.r]:=(zb Ac.c_len 0 6 hx (by omega)).trans rfl
  have hw:wrapI .i64 ((i:Int)+1)=((i+1:Nat):Int):=we
  simp only [zf,Pn.c] at hq2
  have hbne:∀ z:Int,(z != 0)=!(z==0):=fun z=>rfl
  cases hp:pathOk p x.id
  ·have h70:(((7:Int))==0)=false:=by decide
   simp only [hp,cond_false] at hq2
   simp only [V0,sevalprocAttr,hfr,h,za p.az h,hrd,zP,zU,hq2,hbne,h70]
   refine hrA _ ?_
   simp only [V0,sevalprocAttr,hfr]
   exact ⟨by simp,_,_,rfl,hnil _ _,.inl ⟨false,rfl,hbad (by simp [badA,hp]),fun h=>by cases h⟩⟩
  ·have h00:(((0:Int))==0)=true:=by decide
   simp only [hp,cond_true] at hq2
   have hql:=hq1 hp
   have hq3:2<=q'.l.length/\q'.l.length<=66:=by
    rw [hql]
    have:=hviaD x.id
    simp [pathL]
    omega
   have hT:=fun {i:Nat}=>@hT0 x q' i
   cases hft:x.fr==x.to
   ·simp only [V0,sevalprocAttr,hfr,h,za p.az h,hrd,zP,zU,hq2,hbne,h00,hft]
    refine hT (i:=i) (by omega) hq3 _ J lv xs hO hL (by omega) (by simp only [V0,sevalprocAttr,hfr]) (fun t' O' hae ht'=>?_) (fun t' J' lv' xs' hO' hL' hx' hae ht'=>?_)
    ·simp only [ze,zg] at ht'
     simp only [V0,sevalprocAttr,ht']
     refine hrA _ ?_
     simp only [V0,sevalprocAttr,ht']
     exact ⟨by simp,_,_,rfl,hnil _ _,.inl ⟨false,rfl,hbad (by rw [hql] at hae; simp [badA,hae]),fun h=>by cases h⟩⟩
    ·simp only [V3] at ht'
     simp only [V0,sevalprocAttr,ht',hw]
     exact hnA _ (p.az.l.length - (i+1)) (by omega) ⟨i+1,J',lv',xs',by omega,by omega,hO',hL',⟨by omega,hstep (by rw [hql] at hae; simp [badA,hp,hft,hae.1]),by rw [hae.2,hsp,hsstep,hql]⟩,rfl,by simp only [V0,sevalprocAttr,ht',hw]⟩
   ·by_cases h4:(q'.l.length:Int)<4
    ·simp only [V0,sevalprocAttr,hfr,h,za p.az h,hrd,zP,zU,hq2,hbne,h00,hft,h4]
     refine hrA _ ?_
     simp only [V0,sevalprocAttr,hfr]
     exact ⟨by simp,_,_,rfl,hnil _ _,.inl ⟨false,rfl,hbad (badA_short hft (by rw [hql] at h4; omega)),fun h=>by cases h⟩⟩
    ·simp only [V0,sevalprocAttr,hfr,h,za p.az h,hrd,zP,zU,hq2,hbne,h00,hft,h4]
     refine hT (i:=i) (by omega) hq3 _ J lv xs hO hL (by omega) (by simp only [V0,sevalprocAttr,hfr]) (fun t' O' hae ht'=>?_) (fun t' J' lv' xs' hO' hL' hx' hae ht'=>?_)
     ·simp only [ze,zg] at ht'
      simp only [V0,sevalprocAttr,ht']
      refine hrA _ ?_
      simp only [V0,sevalprocAttr,ht']
      exact ⟨by simp,_,_,rfl,hnil _ _,.inl ⟨false,rfl,hbad (by rw [hql] at hae; simp [badA,hae]),fun h=>by cases h⟩⟩
     ·simp only [V3] at ht'
      simp only [V0,sevalprocAttr,ht',hw]
      exact hnA _ (p.az.l.length - (i+1)) (by omega) ⟨i+1,J',lv',xs',by omega,by omega,hO',hL',⟨by omega,hstep (by rw [hql] at h4 hae; exact badA_not hp (by omega) hae.1),by rw [hae.2,hsp,hsstep,hql]⟩,rfl,by simp only [V0,sevalprocAttr,ht',hw]⟩
 ·simp only [V0,sevalprocAttr,hfr,h]
  refine heA _ _ ?_
  have hO2:=hO
  have hil:p.az.l.take i=p.az.l:=zgg (by omega)
  rw [hil] at hbd hsp
  rcases hO with ⟨rfl,rfl⟩ | ⟨b,hne,rfl,hb⟩
  ·simp only [V0,sevalprocAttr,hfr]
   exact ⟨by simp,_,_,rfl,hnil _ _,.inl ⟨true,rfl,hbd,fun _=>hsp.symm⟩⟩
  ·simp only [V0,sevalprocAttr,hfr]
   refine ⟨by simp,_,_,rfl,?_,.inr ⟨xs.map Prod.fst,by simpa using hne,?_,⟨hbd,by rw [List.map_map]; exact hsp⟩,rfl⟩⟩
   ·have hb1:(IObj.cells [p.ns.v,p.az.v,p.fs.v]::J)[1+b]?=some (.cells (xs.flatMap (bdG (d+1)))):=by rw [Nat.add_comm,zgc]; exact hb
    have hl2:∀ sb∈xs,(IObj.cells [p.ns.v,p.az.v,p.fs.v]::J)[sb.2]?=some (.cells (lineC sb.1.a sb.1.path)):=fun sb hs=>by
     obtain ⟨g1,g2⟩:=hL sb hs
     rw [show sb.2=sb.2 - 1+1 by omega,zgc]
     exact g2
    have:=leave_segs (n:=m+6) (b:=true) (by omega) hb1 hl2 hid
    rw [zgw]
    exact this
   ·rw [zgw]
    have:i=p.az.l.length:=by omega
    rw [← this]
    exact hx1
end
end
section
section
variable {B R Q:yLO} {j c i:Nat} {w x:IObj} {vis:List Nat}
theorem zl:(B++(R++Q))[B.length+(R.length+j)]?=Q[j]?:=by
 rw [zf4 (by omega),zhw,zf4 (by omega),zhw]
theorem zi:(B++(R++Q))[B.length+R.length]?=Q[0]?:=zl (j:=0)
theorem zm:(B++(R++Q)).set (B.length+(R.length+j)) w=B++(R++Q.set j w):=by
 rw [zie _ _ (by omega),zhw,zie _ _ (by omega),zhw]
theorem zj:(B++(R++Q)).set (B.length+R.length) w=B++(R++Q.set 0 w):=zm (j:=0)
theorem yz (h:j<c):(hide vis (B.length+(R.length+c)) (B++(R++Q)))[B.length+(R.length+j)]?=Q[j]?:=by
 rw [zw,zl,decide_eq_true (show B.length+(R.length+j)<B.length+(R.length+c) by omega)]
 simp
theorem yq (h:0<c):(hide vis (B.length+(R.length+c)) (B++(R++Q)))[B.length+R.length]?=Q[0]?:=yz (j:=0) h
theorem zc0 (h:B[i]?=some x):(B++R)[i]?=some x:=by
 rw [zf1 (zfz.1 h).1]
 exact h
theorem b_hide (h:B[i]?=some x):(hide vis (B.length+c) (B++R))[i]?=some x:=by
 have hl:=(zfz.1 h).1
 rw [zw,zc0 h,decide_eq_true (show i<B.length+c by omega)]
 simp
end
noncomputable def ndBad (s:Sp) (x:Nd):Bool:=onI s.A s.B x.at'&&(!((s.k:Int)==0&&s.fr==x.id)&&!((s.k:Int)==((s.n - 1:Nat):Int)&&s.to==x.id))
section
variable {S:ySM}
theorem pl_nodes (hS:NoS S) (p:Pn) (s:Sg) {m D si:Nat} {out:yLM} (hm:p.ns.l.length+20<=m) {K:yKM} (t:List IV) (B R:yLO) (lv mp lv2 nn ii:IV) (h0:B[0]?=some (.cells [p.ns.v,p.az.v,p.fs.v])) (hsi:B[si]?=some (.cells s.g))
  (hfr:Slots 117 t [(1,.ptrM D 0 0),(9,.ptrM D si 0),(3,lv),(5,mp),(39,lv2),(40,nn),(41,ii)])
  (hR:∀ t' O',(∃ x∈p.ns.l,ndBad s.sp x=true)->Slots 117 t' [(2,.bool false)]->K .ret ⟨t',O'⟩)
  (hK:∀ t' R',(∀ x∈p.ns.l,ndBad s.sp x=false)->Slots 117 t' [(1,.ptrM D 0 0),(3,lv),(5,mp),(39,lv2),(40,nn),(41,ii)]->K .normal ⟨t',B++R'⟩) :
  Ex (callN Ftab S m) D out m (i66.body.sub [1,1,1,1,1,1,0,1,0,0,1,1,0,0,1,1]) K ⟨t,B++R⟩:=by
 simp only [V3] at hfr
 have hnf:=p.ns.few
 simp only [Sg.g,lineC] at hsi
 have g0:∀ R,(B++R)[0]?=some (.cells [p.ns.v,p.az.v,p.fs.v]):=fun R=>zc0 h0
 have gs:∀ R,(B++R)[si]?=some (.cells [.ptrC [.int .i64 s.a.id,.int .i64 s.a.fr,.int .i64 s.a.to,s.a.via.v,.int .i64 s.a.l,.int .i64 s.a.r,s.path.v] 0,.int .i64 (s.k:Int)]):=fun R=>zc0 hsi
 have gh:∀ vis c R,(hide vis (B.length+c) (B++R))[si]?=some (.cells [.ptrC [.int .i64 s.a.id,.int .i64 s.a.fr,.int .i64 s.a.to,s.a.via.v,.int .i64 s.a.l,.int .i64 s.a.r,s.path.v] 0,.int .i64 (s.k:Int)]):=fun vis c R=>b_hide hsi
 have ce:=za9 hS s m (by omega)
 have cf:=at_first hS s m (by omega)
 have cl:=at_last hS s m (by omega)
 have co:∀ (u v w:Pt) d out ownV own i,callN Ftab S m d out ownV own i 111 [.agg [.int .i64 u.x,.int .i64 u.y],.agg [.int .i64 v.x,.int .i64 v.y],.agg [.int .i64 w.x,.int .i64 w.y]]=some (.r,.bool (onI u v w),own):=fun u v w d out ownV own i=>at_on hS u v w m (by omega) d out ownV own i
 simp only [Sg.g,lineC,Pt.c,zf] at ce cf cl
 simp only [i66,IC.sub,V0,sevalprocAttr,zgs,zl,zi,zm,zj,hfr,g0]
 refine zd (fun jj st=>∃ (k:Nat) (R:yLO),p.ns.l.length - k<=jj/\(k<=p.ns.l.length/\∀ i x,i<k->p.ns.l[i]?=some x->ndBad s.sp x=false)/\st.own=B++R/\Slots 117 st.t [(1,.ptrM D 0 0),(9,.ptrM D si 0),(3,lv),(5,mp),(39,lv2),(40,nn),(41,ii),(67,p.ns.v),(68,iv (p.ns.l.length:Nat)),(69,iv k)]) p.ns.l.length (by omega) ⟨0,_,by omega,⟨by omega,fun i x h=>absurd h (Nat.not_lt_zero _)⟩,rfl,by simp only [V0,sevalprocAttr,zgs,zl,zi,zm,zj,hfr,zg4]⟩ ?_
 clear hfr
 rintro jj ⟨t,own1⟩ KB ⟨k,R,hjj,⟨hk,hbd⟩,ho,hfr⟩ hnB heB hrB
 dsimp only at ho hfr
 subst ho
 simp only [V3] at hfr
 by_cases h:k<p.ns.l.length
 ·obtain ⟨x,hx⟩:=gx (l:=p.ns.l) (i:=k) h
  have hrd:rdN (p.ns.l.flatMap Nd.c) (k*3) 3=some [.int .i64 x.id,.int .i64 x.at'.x,.int .i64 x.at'.y]:=(zb Nd.c_len 0 3 hx (by omega)).trans rfl
  have hw:wrapI .i64 ((k:Int)+1)=((k+1:Nat):Int):=we
  have hm:x∈p.ns.l:=zgl hx
  have hst:ndBad s.sp x=false->∀ i y,i<k+1->p.ns.l[i]?=some y->ndBad s.sp y=false:=fun hb i y hi hy=>by
   by_cases hik:i=k
   ·subst hik
    rw [hx] at hy
    cases hy
    exact hb
   ·exact hbd i y (by omega) hy
  have hn1:s.path.l.length - 1 - 1=s.path.l.length - 2:=by omega
  cases o:onI s.p0 s.p1 x.at'
  ·skip
   simp only [V0,sevalprocAttr,zgs,zl,zi,zm,zj,hfr,h,za p.ns h,hrd,g0,gs,gh,yz,yq,ce,cf,cl,co,o]
   refine ⟨by simp [comm],?_⟩
   simp only [V0,sevalprocAttr,zgs,zl,zi,zm,zj,hfr,hw]
   exact hnB _ (p.ns.l.length - (k+1)) (by omega) ⟨k+1,_,by omega,⟨by omega,hst (by simp [ndBad,Sg.sp,hn1,o])⟩,rfl,by simp only [V0,sevalprocAttr,zgs,zl,zi,zm,zj,hfr,hw,o]⟩
  ·cases f:(s.k:Int)==0
   ·skip
    cases l:(s.k:Int)==((s.path.l.length - 2:Nat):Int)
    ·skip
     simp only [V0,sevalprocAttr,zgs,zl,zi,zm,zj,hfr,h,za p.ns h,hrd,g0,gs,gh,yz,yq,ce,cf,cl,co,o,f,l]
     refine ⟨by simp [comm],?_⟩
     simp only [V0,sevalprocAttr,zgs,zl,zi,zm,zj,hfr]
     refine hrB _ ?_
     exact hR _ _ ⟨x,hm,by simp [ndBad,Sg.sp,hn1,o,f,l]⟩ (by simp only [V0,sevalprocAttr,zgs,zl,zi,zm,zj,hfr])
    ·cases e2:s.a.to==x.id
     ·skip
      simp only [V0,sevalprocAttr,zgs,zl,zi,zm,zj,hfr,h,za p.ns h,hrd,g0,gs,gh,yz,yq,ce,cf,cl,co,o,f,l,e2]
      refine ⟨by simp [comm],?_⟩
      simp only [V0,sevalprocAttr,zgs,zl,zi,zm,zj,hfr]
      refine hrB _ ?_
      exact hR _ _ ⟨x,hm,by simp [ndBad,Sg.sp,hn1,o,f,l,e2]⟩ (by simp only [V0,sevalprocAttr,zgs,zl,zi,zm,zj,hfr])
     ·skip
      simp only [V0,sevalprocAttr,zgs,zl,zi,zm,zj,hfr,h,za p.ns h,hrd,g0,gs,gh,yz,yq,ce,cf,cl,co,o,f,l,e2]
      refine ⟨by simp [comm],?_⟩
      simp only [V0,sevalprocAttr,zgs,zl,zi,zm,zj,hfr,hw]
      exact hnB _ (p.ns.l.length - (k+1)) (by omega) ⟨k+1,_,by omega,⟨by omega,hst (by simp [ndBad,Sg.sp,hn1,o,f,l,e2])⟩,rfl,by simp only [V0,sevalprocAttr,zgs,zl,zi,zm,zj,hfr,hw,o,f,l,e2]⟩
   ·cases e1:s.a.fr==x.id
    ·skip
     cases l:(s.k:Int)==((s.path.l.length - 2:Nat):Int)
     ·skip
      simp only [V0,sevalprocAttr,zgs,zl,zi,zm,zj,hfr,h,za p.ns h,hrd,g0,gs,gh,yz,yq,ce,cf,cl,co,o,f,e1,l]
      refine ⟨by simp [comm],?_⟩
      simp only [V0,sevalprocAttr,zgs,zl,zi,zm,zj,hfr]
      refine hrB _ ?_
      exact hR _ _ ⟨x,hm,by simp [ndBad,Sg.sp,hn1,o,f,e1,l]⟩ (by simp only [V0,sevalprocAttr,zgs,zl,zi,zm,zj,hfr])
     ·cases e2:s.a.to==x.id
      ·skip
       simp only [V0,sevalprocAttr,zgs,zl,zi,zm,zj,hfr,h,za p.ns h,hrd,g0,gs,gh,yz,yq,ce,cf,cl,co,o,f,e1,l,e2]
       refine ⟨by simp [comm],?_⟩
       simp only [V0,sevalprocAttr,zgs,zl,zi,zm,zj,hfr]
       refine hrB _ ?_
       exact hR _ _ ⟨x,hm,by simp [ndBad,Sg.sp,hn1,o,f,e1,l,e2]⟩ (by simp only [V0,sevalprocAttr,zgs,zl,zi,zm,zj,hfr])
      ·skip
       simp only [V0,sevalprocAttr,zgs,zl,zi,zm,zj,hfr,h,za p.ns h,hrd,g0,gs,gh,yz,yq,ce,cf,cl,co,o,f,e1,l,e2]
       refine ⟨by simp [comm],?_⟩
       simp only [V0,sevalprocAttr,zgs,zl,zi,zm,zj,hfr,hw]
       exact hnB _ (p.ns.l.length - (k+1)) (by omega) ⟨k+1,_,by omega,⟨by omega,hst (by simp [ndBad,Sg.sp,hn1,o,f,e1,l,e2])⟩,rfl,by simp only [V0,sevalprocAttr,zgs,zl,zi,zm,zj,hfr,hw,o,f,e1,l,e2]⟩
    ·skip
     simp only [V0,sevalprocAttr,zgs,zl,zi,zm,zj,hfr,h,za p.ns h,hrd,g0,gs,gh,yz,yq,ce,cf,cl,co,o,f,e1]
     refine ⟨by simp [comm],?_⟩
     simp only [V0,sevalprocAttr,zgs,zl,zi,zm,zj,hfr,hw]
     exact hnB _ (p.ns.l.length - (k+1)) (by omega) ⟨k+1,_,by omega,⟨by omega,hst (by simp [ndBad,Sg.sp,hn1,o,f,e1])⟩,rfl,by simp only [V0,sevalprocAttr,zgs,zl,zi,zm,zj,hfr,hw,o,f,e1]⟩
 ·simp only [V0,sevalprocAttr,zgs,zl,zi,zm,zj,hfr,h]
  refine heB _ _ ?_
  simp only [V0,sevalprocAttr,zgs,zl,zi,zm,zj,hfr]
  exact hK _ _ (fun x hx=>by
   obtain ⟨i,hi⟩:=zg7 hx
   exact hbd i x (by have:=(zfz.1 hi).1; omega) hi) (by simp only [V0,sevalprocAttr,zgs,zl,zi,zm,zj,hfr])
end
end
section
section
variable {S:ySM}
theorem slice_from {D n i:Nat} (h:i+1<=n) (t:List IV) (x:Opd) (hx:ρ t x=.int .i64 ((i+1:Nat):Int)):sliceI 2 t (.slM D 1 0 n n 2 false) (some x) none none=some (.slM D 1 ((i+1)*2) (n - (i+1)) (n - (i+1)) 2 false):=by
 simp only [sliceI,optI,hx,yb]
 rw [if_pos ⟨⟨zf7 _,zf7 _,h⟩,trivial⟩]
 simp
def PairsOK (L:List (Int × Pt)) (l:List Sg) (i:Nat) (s:Sg):Prop:=∀ j u,i<j->l[j]?=some u->compB L s u=true∨∃ j' u',i<j'/\j'<=j/\l[j']?=some u'/\s.ea<u'.w
def PairBad (L:List (Int × Pt)) (l:List Sg) (i:Nat) (s:Sg):Prop:=∃ j u,i<j/\l[j]?=some u/\compB L s u=false
theorem pl_pairs (hS:NoS S) (p:Pn) (l:List Sg) (s:Sg) (L:List (Int × Pt)) (bs:List Nat) (ck:Nat) {m D si i:Nat} {out:yLM} (hm:l.length+30<=m) (hl:l.length<65536) (hi:i<l.length) {K:yKM} (t:List IV) (B R:yLO) (lv2 nn ii:IV) (h1:B[1]?=some (.cells (l.flatMap Sg.g))) (h2:B[2]?=some (.map (ptKs L) (ptVs L) bs ck)) (hsi:B[si]?=some (.cells s.g))
  (hfr:Slots 117 t [(1,.ptrM D 0 0),(8,iv i),(9,.ptrM D si 0),(3,.slM D 1 0 l.length l.length 2 false),(5,.mapM D 2),(39,lv2),(40,nn),(41,ii)])
  (hR:∀ t' O',PairBad L l i s->Slots 117 t' [(2,.bool false)]->K .ret ⟨t',O'⟩)
  (hK:∀ t' R',PairsOK L l i s->Slots 117 t' [(1,.ptrM D 0 0),(9,.ptrM D si 0),(3,.slM D 1 0 l.length l.length 2 false),(5,.mapM D 2),(39,lv2),(40,nn),(41,ii)]->K .normal ⟨t',B++R'⟩) :
  Ex (callN Ftab S m) D out m (i66.body.sub [1,1,1,1,1,1,0,1,0,0,1,1,0,0,1,0]) K ⟨t,B++R⟩:=by
 simp only [V3] at hfr
 have c3:∀ (u:Sg) R own id,callN Ftab S m D out (B++R) own id 109 [.agg s.g,.agg u.g,.mapM D 2]=some (.r,.bool (compB L s u),own):=fun u R own id=>at_comp hS s u L (bs:=bs) (ck:=ck) (by omega) (zc0 h2)
 simp only [Sg.g,lineC] at hsi c3
 have g1:∀ R,(B++R)[1]?=some (.cells (l.flatMap Sg.g)):=fun R=>zc0 h1
 have gs:∀ R,(B++R)[si]?=some (.cells [.ptrC [.int .i64 s.a.id,.int .i64 s.a.fr,.int .i64 s.a.to,s.a.via.v,.int .i64 s.a.l,.int .i64 s.a.r,s.path.v] 0,.int .i64 (s.k:Int)]):=fun R=>zc0 hsi
 have gh:∀ vis c R,(hide vis (B.length+c) (B++R))[si]?=some (.cells [.ptrC [.int .i64 s.a.id,.int .i64 s.a.fr,.int .i64 s.a.to,s.a.via.v,.int .i64 s.a.l,.int .i64 s.a.r,s.path.v] 0,.int .i64 (s.k:Int)]):=fun vis c R=>b_hide hsi
 have cw:=fun (u:Sg) d out ownV own i=>at_west hS u m (by omega) d out ownV own i
 have cea:=at_east hS s m (by omega)
 simp only [Sg.g,lineC] at cw cea
 have hwi:wrapI .i64 ((i:Int)+1)=((i+1:Nat):Int):=we
 have hsl:=slice_from (D:=D) (n:=l.length) (i:=i) (by omega)
 simp only [i66,IC.sub,V0,sevalprocAttr,zgs,zl,zi,zm,zj,hfr,hwi,zaz,hsl]
 refine zd (fun jj st=>∃ (k:Nat) (R:yLO),l.length - (i+1) - k<=jj/\(k<=l.length - (i+1)/\∀ j u,i<j->j<i+1+k->l[j]?=some u->compB L s u=true)/\st.own=B++R/\Slots 117 st.t [(1,.ptrM D 0 0),(9,.ptrM D si 0),(3,.slM D 1 0 l.length l.length 2 false),(5,.mapM D 2),(39,lv2),(40,nn),(41,ii),(49,.slM D 1 ((i+1)*2) (l.length - (i+1)) (l.length - (i+1)) 2 false),(50,iv (l.length - (i+1):Nat)),(51,iv k)]) (l.length - (i+1)) (by omega) ⟨0,_,by omega,⟨by omega,fun j u h1 h2=>absurd h2 (by omega)⟩,rfl,by simp only [V0,sevalprocAttr,zgs,zl,zi,zm,zj,hfr,zg4,hwi,hsl]⟩ ?_
 clear hfr
 rintro jj ⟨t,own1⟩ KB ⟨k,R,hjj,⟨hk,hok⟩,ho,hfr⟩ hnB heB hrB
 dsimp only at ho hfr
 subst ho
 simp only [V3] at hfr
 by_cases h:k<l.length - (i+1)
 ·have hx:l[i+1+k]?=some (l[i+1+k]'(by omega)):=zf0 (by omega)
  generalize l[i+1+k]'(by omega)=u at hx
  have ldu:(rdN (l.flatMap Sg.g) ((i+1)*2+k*2) 2).bind (mkv true)=some (.agg [.ptrC [.int .i64 u.a.id,.int .i64 u.a.fr,.int .i64 u.a.to,u.a.via.v,.int .i64 u.a.l,.int .i64 u.a.r,u.path.v] 0,.int .i64 (u.k:Int)]):=by
   have:=sg_elt.ld hx
   rw [Nat.add_mul] at this
   exact this
  have hw:wrapI .i64 ((k:Int)+1)=((k+1:Nat):Int):=we
  have cwu:=cw u
  have ccu:=c3 u
  by_cases hgt:s.ea<u.w
  ·simp only [V0,sevalprocAttr,zgs,zl,zi,zm,zj,hfr,h,zK,g1,ldu]
   simp only [V0,sevalprocAttr,zgs,zl,zi,zm,zj,hfr,gs,gh,yz,yq,cwu,cea,gt_iff_lt,hgt]
   refine ⟨by simp [comm],?_⟩
   simp only [V0,sevalprocAttr,zgs,zl,zi,zm,zj,hfr]
   refine heB _ _ ?_
   simp only [V0,sevalprocAttr,zgs,zl,zi,zm,zj,hfr]
   exact hK _ _ (fun j v h1 hv=>by
    by_cases hj:j<i+1+k
    ·exact .inl (hok j v h1 hj hv)
    ·exact .inr ⟨i+1+k,u,by omega,by omega,hx,hgt⟩) (by simp only [V0,sevalprocAttr,zgs,zl,zi,zm,zj,hfr,gt_iff_lt,hgt,cwu,cea])
  ·cases hcb:compB L s u
   ·simp only [V0,sevalprocAttr,zgs,zl,zi,zm,zj,hfr,h,zK,g1,ldu]
    simp only [V0,sevalprocAttr,zgs,zl,zi,zm,zj,hfr,gs,gh,yz,yq,cwu,cea,gt_iff_lt,hgt]
    refine ⟨by simp [comm],?_⟩
    simp only [V0,sevalprocAttr,zgs,zl,zi,zm,zj,hfr,gs,ccu,hcb]
    refine hrB _ ?_
    exact hR _ _ ⟨i+1+k,u,by omega,hx,hcb⟩ (by simp only [V0,sevalprocAttr,zgs,zl,zi,zm,zj,hfr])
   ·simp only [V0,sevalprocAttr,zgs,zl,zi,zm,zj,hfr,h,zK,g1,ldu]
    simp only [V0,sevalprocAttr,zgs,zl,zi,zm,zj,hfr,gs,gh,yz,yq,cwu,cea,gt_iff_lt,hgt]
    refine ⟨by simp [comm],?_⟩
    simp only [V0,sevalprocAttr,zgs,zl,zi,zm,zj,hfr,gs,ccu,hcb,hw]
    exact hnB _ (l.length - (i+1) - (k+1)) (by omega) ⟨k+1,_,by omega,⟨by omega,fun j v h1 h2 hv=>by
     by_cases hj:j=i+1+k
     ·subst hj
      rw [hx] at hv
      cases hv
      exact hcb
     ·exact hok j v h1 (by omega) hv⟩,rfl,by simp only [V0,sevalprocAttr,zgs,zl,zi,zm,zj,hfr,hw,hcb,cwu,cea,ccu]⟩
 ·simp only [V0,sevalprocAttr,zgs,zl,zi,zm,zj,hfr,h]
  refine heB _ _ ?_
  simp only [V0,sevalprocAttr,zgs,zl,zi,zm,zj,hfr]
  exact hK _ _ (fun j v h1 hv=>.inl (hok j v h1 (by have:=(zfz.1 hv).1; omega) hv)) (by simp only [V0,sevalprocAttr,zgs,zl,zi,zm,zj,hfr])
end
end
section
section
variable {S:ySM}
def PlRes (p:Pn) (L:List (Int × Pt)) (l:List Sg) (v:Bool):Prop:=(v=true->∀ i s,l[i]?=some s->PairsOK L l i s/\∀ x∈p.ns.l,ndBad s.sp x=false)/\(v=false->∃ i s,l[i]?=some s/\(PairBad L l i s∨∃ x∈p.ns.l,ndBad s.sp x=true))
theorem pl_main (hS:NoS S) (p:Pn) (l:List Sg) (L:List (Int × Pt)) (bs:List Nat) (ck:Nat) {m D:Nat} {out:yLM} (hm:l.length+p.ns.l.length+50<=m) (hl:l.length<65536) {K:yKM} (t:List IV) (B R:yLO) (h0:B[0]?=some (.cells [p.ns.v,p.az.v,p.fs.v])) (h1:B[1]?=some (.cells (l.flatMap Sg.g))) (h2:B[2]?=some (.map (ptKs L) (ptVs L) bs ck))
  (hfr:Slots 117 t [(1,.ptrM D 0 0),(3,.slM D 1 0 l.length l.length 2 false),(5,.mapM D 2)])
  (hF:∀ v t' O',PlRes p L l v->Slots 117 t' [(2,.bool v)]->K .ret ⟨t',O'⟩) :
  Ex (callN Ftab S m) D out m (i66.body.sub [1,1,1,1,1,1]) K ⟨t,B++R⟩:=by
 simp only [V3] at hfr
 have hP1:=fun (s:Sg) {si i:Nat}=>@pl_pairs S hS p l s L bs ck m D si i out (by omega) hl
 have hP2:=fun (s:Sg) {si:Nat}=>@pl_nodes S hS p s m D si out (by omega)
 rw [show i66.body.sub [1,1,1,1,1,1]=.seq (.seq (i66.body.sub [1,1,1,1,1,1,0,0]) (.block 2 (.loop (.seq (i66.body.sub [1,1,1,1,1,1,0,1,0,0,0]) (.seq (i66.body.sub [1,1,1,1,1,1,0,1,0,0,1,0]) (.seq (.block 3 (.seq (i66.body.sub [1,1,1,1,1,1,0,1,0,0,1,1,0,0,0]) (.seq (i66.body.sub [1,1,1,1,1,1,0,1,0,0,1,1,0,0,1,0]) (i66.body.sub [1,1,1,1,1,1,0,1,0,0,1,1,0,0,1,1])))) (i66.body.sub [1,1,1,1,1,1,0,1,0,0,1,1,1]))))))) (i66.body.sub [1,1,1,1,1,1,1]) from rfl]
 generalize i66.body.sub [1,1,1,1,1,1,0,1,0,0,1,1,0,0,1,0]=T1 at hP1 ⊢
 generalize i66.body.sub [1,1,1,1,1,1,0,1,0,0,1,1,0,0,1,1]=T2 at hP2 ⊢
 have g1:∀ R,(B++R)[1]?=some (.cells (l.flatMap Sg.g)):=fun R=>zc0 h1
 simp only [i66,IC.sub,V0,sevalprocAttr,zgs,zl,zi,zm,zj,hfr]
 refine zd (fun jj st=>∃ (i:Nat) (R:yLO),l.length - i<=jj/\(i<=l.length/\∀ j u,j<i->l[j]?=some u->PairsOK L l j u/\∀ x∈p.ns.l,ndBad u.sp x=false)/\st.own=B++R/\Slots 117 st.t [(1,.ptrM D 0 0),(3,.slM D 1 0 l.length l.length 2 false),(5,.mapM D 2),(39,.slM D 1 0 l.length l.length 2 false),(40,iv (l.length:Nat)),(41,iv i)]) l.length (by omega) ⟨0,_,by omega,⟨by omega,fun j u h=>absurd h (Nat.not_lt_zero _)⟩,rfl,by simp only [V0,sevalprocAttr,zgs,zl,zi,zm,zj,hfr,zg4]⟩ ?_
 clear hfr
 rintro jj ⟨t,own1⟩ KB ⟨i,R,hjj,⟨hi,hok⟩,ho,hfr⟩ hnB heB hrB
 dsimp only at ho hfr
 subst ho
 simp only [V3] at hfr
 by_cases h:i<l.length
 ·obtain ⟨s,hx⟩:=gx (l:=l) (i:=i) h
  have lds:(rdN (l.flatMap Sg.g) (i*2) 2).bind (mkv true)=some (.agg [.ptrC [.int .i64 s.a.id,.int .i64 s.a.fr,.int .i64 s.a.to,s.a.via.v,.int .i64 s.a.l,.int .i64 s.a.r,s.path.v] 0,.int .i64 (s.k:Int)]):=sg_elt.ld hx
  have hw:wrapI .i64 ((i:Int)+1)=((i+1:Nat):Int):=we
  have hB1:∀ j x,B[j]?=some x->(B++(R++[.cells s.g]))[j]?=some x:=fun j x h=>zc0 h
  have hBs:(B++(R++[.cells s.g]))[B.length+R.length]?=some (.cells s.g):=by rw [zi]; rfl
  simp only [V0,sevalprocAttr,zgs,zl,zi,zm,zj,hfr,h,zK,g1,lds]
  have ho1:(B++(R++[IObj.cells [.ptrC [.int .i64 s.a.id,.int .i64 s.a.fr,.int .i64 s.a.to,s.a.via.v,.int .i64 s.a.l,.int .i64 s.a.r,s.path.v] 0,.int .i64 (s.k:Int)]]))=(B++(R++[.cells s.g]))++[]:=by rw [zhc]; rfl
  rw [ho1]
  refine hP1 s h _ _ [] (.slM D 1 0 l.length l.length 2 false) (.int .i64 (l.length:Nat)) (.int .i64 (i:Nat)) (hB1 1 _ h1) (hB1 2 _ h2) hBs (by simp only [V0,sevalprocAttr,zgs,zl,zi,zm,zj,hfr]) (fun t' O' hbd ht=>?_) fun t' R1 hpk ht=>?_
  ·simp only [ze,zg] at ht
   simp only [V0,sevalprocAttr,ht]
   refine hrB _ ?_
   simp only [V0,sevalprocAttr,ht]
   exact hF false _ _ ⟨fun h=>by (cases h),fun _=>⟨i,s,hx,.inl hbd⟩⟩ (by simp only [V0,sevalprocAttr,ht])
  ·rw [yJ]
   refine hP2 s _ _ R1 (.slM D 1 0 l.length l.length 2 false) (.mapM D 2) (.slM D 1 0 l.length l.length 2 false) (.int .i64 (l.length:Nat)) (.int .i64 (i:Nat)) (hB1 0 _ h0) hBs (by simp only [ze,zg] at ht ⊢; simp only [ht,and_self]) (fun t' O' hnb ht=>?_) fun t' R2 hnk ht=>?_
   ·simp only [ze,zg] at ht
    simp only [V0,sevalprocAttr,ht]
    refine hrB _ ?_
    simp only [V0,sevalprocAttr,ht]
    exact hF false _ _ ⟨fun h=>by (cases h),fun _=>⟨i,s,hx,.inr hnb⟩⟩ (by simp only [V0,sevalprocAttr,ht])
   ·simp only [V3] at ht
    simp only [V0,sevalprocAttr,ht,hw]
    exact hnB _ (l.length - (i+1)) (by omega) ⟨i+1,R++(.cells s.g::R2),by omega,⟨by omega,fun j u hj hu=>by
     by_cases hji:j=i
     ·subst hji
      rw [hx] at hu
      cases hu
      exact ⟨hpk,hnk⟩
     ·exact hok j u (by omega) hu⟩,by simp only [zgu,zgq,zgz],by simp only [V0,sevalprocAttr,ht,hw]⟩
 ·simp only [V0,sevalprocAttr,zgs,zl,zi,zm,zj,hfr,h]
  refine heB _ _ ?_
  simp only [V0,sevalprocAttr,zgs,zl,zi,zm,zj,hfr]
  exact hF true _ _ ⟨fun _ j u hu=>hok j u (by have:=(zfz.1 hu).1; omega) hu,fun h=>by (cases h)⟩ (by simp only [V0,sevalprocAttr,zgs,zl,zi,zm,zj,hfr])
theorem pl_nil {m D:Nat} {out:yLM} (hm:2<=m) {K:yKM} (t:List IV) (own:yLO) (hfr:Slots 117 t [(3,.nilsl)]) (hF:∀ t' O',Slots 117 t' [(2,.bool true)]->K .ret ⟨t',O'⟩) :
  Ex (callN Ftab S m) D out m (i66.body.sub [1,1,1,1,1,1]) K ⟨t,own⟩:=by
 simp only [V3] at hfr
 simp only [i66,IC.sub,V0,sevalprocAttr,zgs,zl,zi,zm,zj,hfr]
 refine zd (fun jj st=>Slots 117 st.t [(40,.int .i64 0),(41,.int .i64 0)]) 0 (by omega) (by simp only [V0,sevalprocAttr,zgs,zl,zi,zm,zj,hfr]) ?_
 clear hfr
 rintro jj ⟨t,own1⟩ KB hfr hnB heB hrB
 dsimp only at hfr
 simp only [V3] at hfr
 have h0:((0:Int)<0)=False:=eq_false (by decide)
 simp only [V0,sevalprocAttr,zgs,zl,zi,zm,zj,hfr,h0]
 refine heB _ _ ?_
 simp only [V0,sevalprocAttr,zgs,zl,zi,zm,zj,hfr]
 exact hF _ _ (by simp only [V0,sevalprocAttr,zgs,zl,zi,zm,zj,hfr])
end
end
end Go.Proofs.YtdacpmgnhkmnkaaGreatDoor
end
section
namespace Go.Proofs.YtdacpmgnhkmnkaaGreatDoor
section
section
variable {α:Type}
def up (r:α->α->Int) (x y:α):Prop:=¬ r y x<0
structure Orders (r:α->α->Int):Prop where
 total:∀ x y,up r x y∨up r y x
 trans:∀ x y z,up r x y->up r y z->up r x z
def Srt (r:α->α->Int) (xs:List α) (a c:Nat):Prop:=∀ i j x y,a<=i->i<j->j<c->xs[i]?=some x->xs[j]?=some y->up r x y
variable {r:α->α->Int}
end
end
end Go.Proofs.YtdacpmgnhkmnkaaGreatDoor
end
section
namespace Go.Proofs.YtdacpmgnhkmnkaaGreatDoor
open Go Go.RowKit
section
theorem zba {α β:Type} {f:α->Option β} {g:α->β}:∀ {l:List α},(∀ x∈l,f x=some (g x))->l.mapM f=some (l.map g)
 | [],_=>rfl
 | x::l,h=>by
  rw [zhy,h x (zgi ..),zba fun y hy=>h y (zgn _ hy)]
  rfl
theorem wrN_all:∀ (xs c p:List IV),xs.length=c.length->wrN (p++c) p.length xs=p++xs
 | [],[],p,_=>rfl
 | x::xs,y::c,p,h=>by
  have e:(p++y::c).set p.length x=(p++[x])++c:=by
   rw [zie _ _ (zf7 _),zit]; simp
  have:=wrN_all xs c (p++[x]) (by simpa using h)
  unfold wrN
  rw [e]
  simpa using this
theorem rowsX_of {own:yLO} {d i n sz cp:Nat} {tg:Bool} {c:List IV} (h:own[i]?=some (.cells c)) (hc:c.length=n*sz) (hs:c.all IV.scalar=true) (h0:n≠0) (hn:n<=bound):rowsX d own sz (.slM d i 0 n cp sz tg)=some (i,0,c,c,n):=by
 show (if d=d/\sz=sz/\n≠0/\n<=bound then _ else _)=_
 rw [if_pos ⟨rfl,rfl,h0,hn⟩,h]
 show (seg c 0 (n*sz)).bind _=_
 unfold seg
 rw [if_pos (by omega),zc,List.drop_zero,zgg (by omega),zge,if_pos hs]
theorem blt_iff (z:Int):ltT.Int.blt' z=decide (z<0):=by cases z <;> simp [ltT.Int.blt'] <;> omega
section
variable {S:ySM} {α:Type} {g:α->List IV} {e:α->IV} {own0:yLO} {b d:Nat} {out:yLM} {n cp:Nat} {tg:Bool} {gf:FuncId} {caps:List IV} {r:α->α->Int} {Nc:Nat}
theorem rest_gone {ownV:yLO} (h:RestOf own0 b ownV):RestOf own0 b (ownV.set b .gone):=fun j h1 h2=>by
 rw [zg6 (Ne.symm h2)]
 exact h j h1 h2
theorem flat_row {sz:Nat} (hg:∀ x,(g x).length=sz) {xs:List α} {j:Nat} {x:α} (hx:xs[j]?=some x):rowAt (xs.flatMap g) sz j=g x:=by
 unfold rowAt
 induction xs generalizing j with
 | nil=>simp at hx
 | cons a l ih =>
  rw [zgj]
  cases j with
  | zero =>
   cases hx
   rw [zhp,List.drop_zero,List.take_append_of_le_length (by rw [hg]; exact zf7 _),zgg (by rw [hg]; exact zf7 _)]
  | succ j =>
   rw [Nat.succ_mul,Nat.add_comm,← List.drop_drop,List.drop_append_of_le_length (by rw [hg]; exact zf7 _),show List.drop sz (g a)=[] from List.drop_eq_nil_of_le (by rw [hg]; exact zf7 _),zgz]
   exact ih (by simpa using hx)
theorem x_sortK {f:FuncId} {sz kd:Nat} {ag:Bool} (hr0:Orders r) (hS:∀ args,S f args=none) (hi:Ftab f=some ⟨sz,[],.skip,kd⟩) (hkd:kd=4/\ag=false∨kd=5/\ag=true) (hz:0<sz) (hb:b<own0.length) (hE:Elt g e sz ag) (hc:CmpOK S Nc d out own0 b e gf caps r) (hn:n<65536) (h0:n≠0) (m:Nat) (hm:Nc+1<=m)
  (ownV:yLO) (xs:List α) (J:yLO) (hV:RestOf own0 b ownV) (hl0:xs.length=n) :
  ∃ xs':List α,(∀ id,callN Ftab S m d out ownV (Bk own0 b (xs.flatMap g)++J) id f [.slM d b 0 n cp sz tg,.fn gf [] caps]=some (.x,.tuple [],Bk own0 b (xs'.flatMap g)++J))/\xs'.Perm xs/\Srt r xs' 0 n:=by
 obtain ⟨m,rfl⟩:∃ q,m=q+1:=⟨m - 1,by omega⟩
 obtain ⟨z0,hz0⟩:∃ z,xs[0]?=some z:=⟨_,zf0 (by omega)⟩
 have hat:∀ j,j<n->xs[j]?=some (xs.getD j z0):=fun j hj=>by
  rw [zf8,zf0 (show j<xs.length by omega)]; rfl
 have hlen:(xs.flatMap g).length=n*sz:=by rw [zq hE.len,hl0]
 have hrow:∀ j,j<n->rowAt (xs.flatMap g) sz j=g (xs.getD j z0):=fun j hj=>flat_row hE.len (hat j hj)
 have hel:∀ j,j<n->elemI kd (rowAt (xs.flatMap g) sz j)=e (xs.getD j z0):=fun j hj=>by
  rw [hrow j hj]
  have hv:=hE.val (xs.getD j z0)
  unfold elemI
  rcases hkd with ⟨rfl,rfl⟩ | ⟨rfl,rfl⟩
  ·rw [if_neg (by decide)]
   unfold mkv at hv
   rw [if_neg (by decide)] at hv
   split at hv
   ·rename_i x hx
    rw [hx]
    exact zgy hv
   ·simp at hv
  ·rw [if_pos rfl]
   unfold mkv at hv
   rw [if_pos rfl] at hv
   exact zgy hv
 have hes:((List.range n).map fun j=>elemI kd (rowAt (xs.flatMap g) sz j))=(List.range n).map fun j=>e (xs.getD j z0):=List.map_congr_left fun j hj=>hel j (zht.1 hj)
 have hcmp:∀ (own:yLO) (id:Nat) (x y:α),cmpQ (callN Ftab S m) d out (ownV.set b .gone) own id gf caps (e x) (e y)=some (r x y):=fun own id x y=>by
  unfold cmpQ
  rw [hc m (by omega) (ownV.set b .gone) own id x y (rest_gone hV)]
 have htb:∀ (own:yLO) (id:Nat),(((List.range n).map fun j=>elemI kd (rowAt (xs.flatMap g) sz j)).mapM fun x=>((List.range n).map fun j=>elemI kd (rowAt (xs.flatMap g) sz j)).mapM fun y=>cmpQ (callN Ftab S m) d out (ownV.set b .gone) own id gf caps x y)=some ((List.range n).map fun i=>(List.range n).map fun j=>r (xs.getD i z0) (xs.getD j z0)):=fun own id=>by
  rw [hes,List.mapM_map]
  refine zba fun i _=>?_
  show List.mapM _ _=_
  rw [List.mapM_map]
  exact zba fun j _=>hcmp own id _ _
 generalize htbe:((List.range n).map fun i=>(List.range n).map fun j=>r (xs.getD i z0) (xs.getD j z0))=tb at htb
 have hlt:∀ i j,i<n->j<n->ltT n tb i j=decide (r (xs.getD i z0) (xs.getD j z0)<0):=fun i j hi hj=>by
  unfold ltT
  rw [Nat.mod_eq_of_lt hi,Nat.mod_eq_of_lt hj,← htbe,blt_iff]
  simp [zf8,hi,hj]
 have hsw:swoB n (ltT n tb)=true:=by
  unfold swoB
  rw [zhg]
  intro i hi
  rw [zf6,zhg]
  have hi:=zht.1 hi
  have tot:=hr0.total
  have tr:=hr0.trans
  unfold up at tot tr
  refine ⟨?_,fun j hj=>zhg.2 fun k hk=>?_⟩
  ·rw [hlt i i hi hi]
   have:=tot (xs.getD i z0) (xs.getD i z0)
   simpa using this
  ·have hj:=zht.1 hj
   have hk:=zht.1 hk
   rw [hlt i j hi hj,hlt j k hj hk,hlt i k hi hk]
   generalize xs.getD i z0=x at *
   generalize xs.getD j z0=y at *
   generalize xs.getD k z0=z at *
   have t1:=tot x y
   have t2:=tot y z
   have t3:=tr x y z
   have t4:=tr z y x
   have t5:=tr z x y
   have t6:=tr y z x
   have t7:=tot x z
   simp only [zf6,zha,zhs,decide_eq_true_eq,decide_eq_false_iff_not,Bool.and_eq_false_iff]
   by_cases c1:r x y<0 <;> by_cases c2:r y z<0 <;> by_cases c3:r x z<0 <;> simp_all
 obtain ⟨p1,p2⟩:=zb1 (zed h0 hsw) n
 have hlt2:∀ j∈pdqX (ltT n tb) n,j<n:=fun j hj=>zht.1 (p1.mem_iff.1 hj)
 refine ⟨(pdqX (ltT n tb) n).map fun j=>xs.getD j z0,fun id=>?_,?_,fun i j x y _ hij hj hx hy=>?_⟩
 ·have hk2:¬ kd=2:=by omega
  have hk3:¬ kd=3:=by omega
  have hk4:4<=kd:=by omega
  have hk6:¬ kd=6:=by omega
  have hrw:rowsX d (Bk own0 b (xs.flatMap g)++J) sz (.slM d b 0 n cp sz tg)=some (b,0,xs.flatMap g,xs.flatMap g,n):=by
   refine rowsX_of (bk_get hb) hlen (zhg.2 ?_) h0 (by unfold bound; omega)
   intro x hx
   obtain ⟨a,_,ha⟩:=zh1.1 hx
   exact zhg.1 (hE.scal a) x ha
  have hfl:∀ l:List Nat,(∀ j∈l,j<n)->(l.flatMap fun j=>rowAt (xs.flatMap g) sz j)=(l.map fun j=>xs.getD j z0).flatMap g:=fun l hl=>by
   induction l with
   | nil=>rfl
   | cons a l ih=>rw [zgj,zg3,zgj,hrow a (hl a (zgi ..)),ih fun q hq=>hl q (zgn _ hq)]
  simp only [callN,hS,hi,if_neg hk2,if_neg hk3,if_pos hk4]
  rw [zb9 (by simp),if_neg hk6,hrw,zge]
  simp only
  rw [htb,zge,if_pos hsw,hfl _ hlt2]
  unfold laidX
  have hw:=wrN_all (((pdqX (ltT n tb) n).map fun j=>xs.getD j z0).flatMap g) (xs.flatMap g) [] (by rw [zq hE.len,hlen,zgw,p1.length_eq,List.length_range])
  simp only [zgz,zgb] at hw
  rw [zc,zc,hw,bk_set hb]
 ·refine (p1.map _).trans (List.Perm.of_eq ?_)
  apply ziu
  intro j
  rw [zgd]
  by_cases hj:j<n
  ·rw [List.getElem?_range hj,zf2,hat j hj]
  ·rw [zig (by simp; omega),zig (by omega)]; rfl
 ·rw [zgd] at hx hy
  obtain ⟨i',hi',rfl⟩:=Option.map_eq_some_iff.1 hx
  obtain ⟨j',hj',rfl⟩:=Option.map_eq_some_iff.1 hy
  have h1:=p2 i j i' j' hij hi' hj'
  rw [hlt j' i' (hlt2 _ (zgl hj')) (hlt2 _ (zgl hi'))] at h1
  unfold up
  simpa using h1
theorem sort_nil {f:FuncId} {sz kd:Nat} (hS:∀ args,S f args=none) (hi:Ftab f=some ⟨sz,[],.skip,kd⟩) (hkd:kd=4∨kd=5) {fv:IV} {m:Nat} (hm:1<=m) {ownV own:yLO}:∃ J':yLO,∀ id,callN Ftab S m d out ownV own id f [.nilsl,fv]=some (.x,.tuple [],own++J'):=by
 obtain ⟨m,rfl⟩:∃ q,m=q+1:=⟨m - 1,by omega⟩
 have hk2:¬ kd=2:=by omega
 have hk3:¬ kd=3:=by omega
 have hk4:4<=kd:=by omega
 have hk6:¬ kd=6:=by omega
 refine ⟨[],fun id=>?_⟩
 simp only [callN,hS,hi,if_neg hk2,if_neg hk3,if_pos hk4,sortX,if_neg hk6,zhc]
end
theorem q_sortS {S:ySM} {α:Type} {g:α->List IV} {e:α->IV} {own0:yLO} {b d:Nat} {out:yLM} {n cp:Nat} {tg:Bool} {gf:FuncId} {caps:List IV} {r:α->α->Int} {Nc:Nat} (hr0:Orders r) (hS:NoS S) (hb:b<own0.length) (hE:Elt g e 1 false) (hc:CmpOK S Nc d out own0 b e gf caps r) (hn:n<65536) (h0:n≠0) (m:Nat) (hm:Nc+1<=m) (ownV:yLO) (xs:List α) (J:yLO) (hV:RestOf own0 b ownV) (hl0:xs.length=n) :
  ∃ xs':List α,(∀ id,callN Ftab S m d out ownV (Bk own0 b (xs.flatMap g)++J) id 152 [.slM d b 0 n cp 1 tg,.fn gf [] caps]=some (.x,.tuple [],Bk own0 b (xs'.flatMap g)++J))/\xs'.Perm xs/\Srt r xs' 0 n :=
 x_sortK hr0 (fun _=>ns hS (by rfl)) rfl (.inl ⟨rfl,rfl⟩) Nat.one_pos hb hE hc hn h0 m hm ownV xs J hV hl0
theorem u_sortS {S:ySM} {α:Type} {g:α->List IV} {e:α->IV} {own0:yLO} {b d:Nat} {out:yLM} {n cp:Nat} {tg:Bool} {gf:FuncId} {caps:List IV} {r:α->α->Int} {Nc:Nat} (hr0:Orders r) (hS:NoS S) (hb:b<own0.length) (hE:Elt g e 2 true) (hc:CmpOK S Nc d out own0 b e gf caps r) (hn:n<65536) (h0:n≠0) (m:Nat) (hm:Nc+1<=m) (ownV:yLO) (xs:List α) (J:yLO) (hV:RestOf own0 b ownV) (hl0:xs.length=n) :
  ∃ xs':List α,(∀ id,callN Ftab S m d out ownV (Bk own0 b (xs.flatMap g)++J) id 104 [.slM d b 0 n cp 2 tg,.fn gf [] caps]=some (.x,.tuple [],Bk own0 b (xs'.flatMap g)++J))/\xs'.Perm xs/\Srt r xs' 0 n :=
 x_sortK hr0 (fun _=>ns hS (by rfl)) rfl (.inr ⟨rfl,rfl⟩) (by decide) hb hE hc hn h0 m hm ownV xs J hV hl0
theorem qsort_nil {S:ySM} (hS:NoS S) {m d:Nat} {out:yLM} {ownV own:yLO} {fv:IV} (hm:1<=m):∃ J':yLO,∀ id,callN Ftab S m d out ownV own id 152 [.nilsl,fv]=some (.x,.tuple [],own++J') :=
 sort_nil (fun _=>ns hS (by rfl)) rfl (.inl rfl) hm
theorem usort_nil {S:ySM} (hS:NoS S) {m d:Nat} {out:yLM} {ownV own:yLO} {fv:IV} (hm:1<=m):∃ J':yLO,∀ id,callN Ftab S m d out ownV own id 104 [.nilsl,fv]=some (.x,.tuple [],own++J') :=
 sort_nil (fun _=>ns hS (by rfl)) rfl (.inr rfl) hm
section
variable {S:ySM} {own0:yLO} {b d m:Nat} {out:yLM} {n cp:Nat} {tg:Bool}
theorem osort_nil (hS:NoS S) {ownV own:yLO} (hm:1<=m):∃ J':yLO,∀ id,callN Ftab S m d out ownV own id 117 [.nilsl]=some (.x,.tuple [],own++J'):=by
 obtain ⟨m,rfl⟩:∃ q,m=q+1:=⟨m - 1,by omega⟩
 have h:=hS 117 [.nilsl] (by decide) (by decide) (by decide) (by decide)
 have hi:Ftab 117=some ⟨1,[],.skip,6⟩:=rfl
 have hk2:¬ (6=2):=by decide
 have hk3:¬ (6=3):=by decide
 have hk4:4<=6:=by decide
 refine ⟨[],fun id=>?_⟩
 simp only [callN,h,hi,if_neg hk2,if_neg hk3,if_pos hk4,sortX,if_true,zhc]
theorem o_sortS (hS:NoS S) (hb:b<own0.length) (xs:List Int) (hn:xs.length<65536) (h0:xs.length≠0) (hm:1<=m) (ownV:yLO) (J:yLO) (id:Nat) :
  callN Ftab S m d out ownV (Bk own0 b (xs.flatMap intc)++J) id 117 [.slM d b 0 xs.length cp 1 tg]=some (.x,.tuple [],Bk own0 b ((sortZ xs).flatMap intc)++J):=by
 obtain ⟨m,rfl⟩:∃ q,m=q+1:=⟨m - 1,by omega⟩
 have h:=hS 117 [.slM d b 0 xs.length cp 1 tg] (by decide) (by decide) (by decide) (by decide)
 have hi:Ftab 117=some ⟨1,[],.skip,6⟩:=rfl
 have hk2:¬ (6=2):=by decide
 have hk3:¬ (6=3):=by decide
 have hk4:4<=6:=by decide
 have hfm:∀ l:List Int,l.flatMap intc=l.map (IV.int .i64):=fun l=>by induction l <;> simp_all [intc,zf]
 have hrw:rowsX d (Bk own0 b (xs.map (IV.int .i64))++J) 1 (.slM d b 0 xs.length cp 1 tg)=some (b,0,xs.map (IV.int .i64),xs.map (IV.int .i64),xs.length):=by
  refine rowsX_of (bk_get hb) (by simp) (zhg.2 ?_) h0 (by unfold bound; omega)
  intro x hx
  obtain ⟨a,_,rfl⟩:=zgx.1 hx
  rfl
 rw [hfm,hfm]
 simp only [callN,h,hi,if_neg hk2,if_neg hk3,if_pos hk4]
 rw [zb8 (by simp),if_pos rfl,hrw,zge]
 simp only
 rw [List.mapM_map,zba (f:=i64I ∘ IV.int .i64) (g:=fun z:Int=>z) (fun z _=>rfl),show xs.map (fun z:Int=>z)=xs from List.map_id _,zf2]
 unfold laidX
 have hw:=wrN_all ((sortZ xs).map (IV.int .i64)) (xs.map (IV.int .i64)) [] (by simp [(Zl xs).length_eq])
 simp only [zgz,zgb] at hw
 rw [zc,zc,hw,bk_set hb]
end
end
section
theorem lkP_app {L:List (Int × Pt)} {id:Int} {y:Pt} (h:L.findIdx? (fun kv=>id==kv.1)=none) (id':Int):lkP (L++[(id,y)]) id'=if id'=id then y else lkP L id':=by
 unfold lkP
 rw [List.find?_append]
 rw [zij] at h
 by_cases he:id'=id
 ·subst he
  have:L.find? (fun kv=>id'==kv.1)=none:=List.find?_eq_none.2 fun x hx=>by rw [h x hx]; decide
  simp [this]
 ·rw [if_neg he]
  have:[(id,y)].find? (fun kv=>id'==kv.1)=none:=by simp [he]
  rw [this,Option.or_none]
theorem lkP_set {id:Int} {y:Pt} (id':Int):∀ {L:List (Int × Pt)} {i:Nat} (hi:i<L.length),L.findIdx? (fun kv=>id==kv.1)=some i->lkP (L.set i (L[i].1,y)) id'=if id'=id then y else lkP L id'
 | kv::L,i,hi,h=>by
  rw [List.findIdx?_cons] at h
  cases hk:id==kv.1
  ·rw [hk] at h
   simp only [zgk,if_false,Option.map_eq_some_iff] at h
   obtain ⟨j,hj,rfl⟩:=h
   have ih:=lkP_set (y:=y) id' (by simpa using hi) hj
   have e:∀ (z:Int × Pt) (M:List (Int × Pt)),lkP (z::M) id'=if id'==z.1 then z.2 else lkP M id':=fun z M=>by
    unfold lkP
    rw [List.find?_cons]
    cases id'==z.1 <;> rfl
   have hne:id≠kv.1:=by simpa using hk
   simp only [zim,List.getElem_cons_succ,e]
   rw [ih]
   by_cases he:id'=id
   ·subst he
    rw [if_neg (by simpa using hk),if_pos rfl,if_pos rfl]
   ·rw [if_neg he,if_neg he]
  ·rw [hk] at h
   simp only [if_true,zf5] at h
   subst h
   have hke:id=kv.1:=by simpa using hk
   subst hke
   unfold lkP
   simp only [List.set_cons_zero,List.getElem_cons_zero,List.find?_cons]
   by_cases he:id'=kv.1
   ·subst he
    simp
   ·rw [if_neg he,show (id'==kv.1)=false by simpa using he]
def lastP (l:List Nd) (id:Int):Pt:=((l.reverse.find? fun x=>id==x.id).map Nd.at').getD ⟨0,0⟩
theorem lastP_snoc (l:List Nd) (x:Nd) (id:Int):lastP (l++[x]) id=if id=x.id then x.at' else lastP l id:=by
 unfold lastP
 rw [List.reverse_append]
 simp only [List.reverse_cons,List.reverse_nil,zgz,zgq,List.find?_cons]
 by_cases h:id=x.id
 ·rw [show (id==x.id)=true by simpa using h,if_pos h]
  rfl
 ·rw [show (id==x.id)=false by simpa using h,if_neg h]
theorem map_upd (L:List (Int × Pt)) (bs:List Nat) (ck:Nat) (id:Int) (y:Pt):∃ (L':List (Int × Pt)) (bs':List Nat) (ck':Nat),(∀ id',lkP L' id'=if id'=id then y else lkP L id')/\∀ (C:Call) (D:Nat) (out:yLM) (n0 j:Nat) (ownV own:yLO) (t:List IV) (a b c:Opd),ρ t a=.mapM D j->ρ t b=.int .i64 id->ρ t c=.agg [.int .i64 y.x,.int .i64 y.y]->own[j]?=some (.map (ptKs L) (ptVs L) bs ck) ->
  evOp C D out n0 ownV own t (.mapupd (false,[1]) a b c)=some (.x,.tuple [],own.set j (.map (ptKs L') (ptVs L') bs' ck')):=by
 have hk:(kindB false (IV.int .i64 id)&&(IV.int .i64 id).cells.length==[1].length)=true:=rfl
 cases h:L.findIdx? fun kv=>id==kv.1 with
 | none =>
  refine ⟨L++[(id,y)],bs++[ck],ck+1,lkP_app h,fun C D out n0 j ownV own t a b c h1 h2 h3 h4=>?_⟩
  rw [ZR]
  simp only [e_mapupd,h1,h2,h3,h4,hk,and_self,if_true,YL,h,zg2,zc]
  simp [ptKs,ptVs,Pt.c,zf]
 | some i =>
  obtain ⟨hi,hq,_⟩:=zh0.1 h
  have he:id=L[i].1:=by simpa using hq
  refine ⟨L.set i (L[i].1,y),bs,ck,fun id'=>lkP_set id' hi h,fun C D out n0 j ownV own t a b c h1 h2 h3 h4=>?_⟩
  rw [ZR]
  simp only [e_mapupd,h1,h2,h3,h4,hk,and_self,if_true,YL,h,zf2,zg5,zc]
  have hks:ptKs (L.set i (L[i].1,y))=ptKs L:=by
   unfold ptKs
   rw [List.map_set]
   refine ziu fun k=>?_
   by_cases hki:i=k
   ·subst hki
    rw [zg9 (by rw [zgw]; exact hi)]
    simp [hi]
   ·rw [zg6 hki]
  have hvs:ptVs (L.set i (L[i].1,y))=(ptVs L).set i (.agg [.int .i64 y.x,.int .i64 y.y]):=by
   unfold ptVs
   rw [List.map_set]
   rfl
  rw [hks,hvs]
section
variable {S:ySM}
theorem pl_map (p:Pn) {m D:Nat} {out:yLM} (hm:p.ns.l.length+4<=m) {K:yKM} (t:List IV) (X:IObj) (L:List (Int × Pt)) (bs:List Nat) (ck:Nat) (O:yLO) (lv:IV) (hL0:∀ id,lkP L id=⟨0,0⟩)
  (hfr:Slots 117 t [(1,.ptrM D 0 0),(3,lv),(5,.mapM D 2)])
  (hK:∀ t' L' bs' ck' O',(∀ id,lkP L' id=lastP p.ns.l id)->Slots 117 t' [(1,.ptrM D 0 0),(3,lv),(5,.mapM D 2)]->K .normal ⟨t',.cells [p.ns.v,p.az.v,p.fs.v]::X::.map (ptKs L') (ptVs L') bs' ck'::O'⟩) :
  Ex (callN Ftab S m) D out m (i66.body.sub [1,1,1,1,0]) K ⟨t,.cells [p.ns.v,p.az.v,p.fs.v]::X::.map (ptKs L) (ptVs L) bs ck::O⟩:=by
 simp only [V3] at hfr
 have hnf:=p.ns.few
 simp only [i66,IC.sub,V0,sevalprocAttr,hfr]
 refine zd (fun jj st=>∃ (i:Nat) (L:List (Int × Pt)) (bs:List Nat) (ck:Nat) (O:yLO),p.ns.l.length - i<=jj/\(i<=p.ns.l.length/\∀ id,lkP L id=lastP (p.ns.l.take i) id)/\st.own=.cells [p.ns.v,p.az.v,p.fs.v]::X::.map (ptKs L) (ptVs L) bs ck::O/\Slots 117 st.t [(1,.ptrM D 0 0),(3,lv),(5,.mapM D 2),(25,p.ns.v),(26,iv (p.ns.l.length:Nat)),(27,iv i)]) p.ns.l.length (by omega) ⟨0,L,bs,ck,O,by omega,⟨by omega,fun id=>by rw [hL0]; rfl⟩,rfl,by simp only [V0,sevalprocAttr,hfr,zg4]⟩ ?_
 clear hfr
 rintro jj ⟨t,own1⟩ KB ⟨i,L,bs,ck,O,hjj,⟨hi,hlk⟩,ho,hfr⟩ hnB heB hrB
 dsimp only at ho hfr
 subst ho
 simp only [V3] at hfr
 by_cases h:i<p.ns.l.length
 ·obtain ⟨x,hx⟩:=gx (l:=p.ns.l) (i:=i) h
  have hrd:rdN (p.ns.l.flatMap Nd.c) (i*3) 3=some [.int .i64 x.id,.int .i64 x.at'.x,.int .i64 x.at'.y]:=(zb Nd.c_len 0 3 hx (by omega)).trans rfl
  have hw:wrapI .i64 ((i:Int)+1)=((i+1:Nat):Int):=we
  obtain ⟨L',bs',ck',hlk',hup⟩:=map_upd L bs ck x.id x.at'
  have hup2:=fun C n0 ownV own t a b c=>hup C D out n0 2 ownV own t a b c
  simp only [V0,sevalprocAttr,hfr,h,za p.ns h,hrd,hup2,hw]
  exact hnB _ (p.ns.l.length - (i+1)) (by omega) ⟨i+1,L',bs',ck',_,by omega,⟨by omega,fun id=>by rw [hlk',hlk,zhb,hx,zhq,lastP_snoc]⟩,rfl,by simp only [V0,sevalprocAttr,hfr,hw]⟩
 ·simp only [V0,sevalprocAttr,hfr,h]
  refine heB _ _ ?_
  simp only [V0,sevalprocAttr,hfr]
  exact hK _ _ _ _ _ (fun id=>by rw [hlk,zgg (by omega)]) (by simp only [V0,sevalprocAttr,hfr])
end
end
section
def sh (k:Nat):IV->IV
 | .ptrM l i o=>.ptrM (l+k) i o
 | .ptrC cs o=>.ptrC (cs.map (sh k)) o
 | .slM l i off len cap sz t=>.slM (l+k) i off len cap sz t
 | .slC cs len sz t=>.slC (cs.map (sh k)) len sz t
 | .mapM l i=>.mapM (l+k) i
 | .mapC ks vs=>.mapC (ks.map (sh k)) (vs.map (sh k))
 | .fn f a b=>.fn f (a.map (sh k)) (b.map (sh k))
 | .agg cs=>.agg (cs.map (sh k))
 | .tuple cs=>.tuple (cs.map (sh k))
 | .bool b=>.bool b
 | .int kd n=>.int kd n
 | .str s=>.str s
 | .nilptr=>.nilptr
 | .nilsl=>.nilsl
 | .nilmap=>.nilmap
 | .nilfn=>.nilfn
def shO (k:Nat):IObj->IObj
 | .cells c=>.cells (c.map (sh k))
 | .map ks vs bs ck=>.map (ks.map (sh k)) (vs.map (sh k)) bs ck
 | .free=>.free
 | .gone=>.gone
def shE (k:Nat):Eff->Eff
 | .rl l i o n=>.rl (l+k) i o n
 | .w l i o n=>.w (l+k) i o n
 | e=>e
def shR (k:Nat) (r:Eff × IV × yLO):Eff × IV × yLO:=(shE k r.1,sh k r.2.1,r.2.2.map (shO k))
def clF:Nat->IV->Bool
 | 0,_=>false
 | n+1,v=>match v with
  | .ptrM ..=>false
  | .ptrC cs _=>cs.all (clF n)
  | .slM ..=>false
  | .slC cs _ _ _=>cs.all (clF n)
  | .mapM ..=>false
  | .mapC ks vs=>ks.all (clF n)&&vs.all (clF n)
  | .fn _ a b=>a.all (clF n)&&b.all (clF n)
  | .agg cs=>cs.all (clF n)
  | .tuple cs=>cs.all (clF n)
  | _=>true
def clI (v:IV):Bool:=clF 5 v
section
variable {k:Nat}
theorem Zr (v:IV):(sh k v).cells=v.cells.map (sh k):=by cases v <;> simp [sh,IV.cells]
theorem sh_scalar (v:IV):(sh k v).scalar=v.scalar:=by cases v <;> simp [sh,IV.scalar]
theorem z6 (l:List IV):(l.map (sh k)).all IV.scalar=l.all IV.scalar:=by
 rw [List.all_map]
 congr 1
 funext v
 exact sh_scalar v
theorem getK_sh (t:List IV) (i:Nat):getK (.tuple []) (t.map (sh k)) i=sh k (getK (.tuple []) t i):=by
 rw [zI,zI,zf8,zf8,zgd]
 cases t[i]? with
 | none=>simp [sh]
 | some v=>rfl
theorem put_sh (t:List IV) (dst:Option Nat) (v:IV):put (t.map (sh k)) dst (sh k v)=(put t dst v).map (sh k):=by
 cases dst with
 | none=>rfl
 | some i=>rw [zN,zN,List.map_set]
theorem zcd:∀ (n:Nat) (c:List IV) (off:Nat),rdN (c.map (sh k)) off n=(rdN c off n).map (List.map (sh k))
 | 0,_,_=>rfl
 | n+1,c,off=>by
  unfold rdN
  rw [zgd]
  cases c[off]? with
  | none=>rfl
  | some x =>
   simp only [zf2,zcd n c (off+1)]
   cases rdN c (off+1) n <;> rfl
theorem zez (agg:Bool) (xs:List IV):mkv agg (xs.map (sh k))=(mkv agg xs).map (sh k):=by
 unfold mkv
 cases agg
 ·cases xs with
  | nil=>rfl
  | cons x xs=>cases xs <;> rfl
 ·simp [sh]
theorem zce:∀ (xs c:List IV) (off:Nat),wrN (c.map (sh k)) off (xs.map (sh k))=(wrN c off xs).map (sh k)
 | [],_,_=>rfl
 | x::xs,c,off=>by
  simp only [zg3,wrN]
  rw [← List.map_set,zce xs]
theorem Yz (c:List IV) (off n:Nat):seg (c.map (sh k)) off n=(seg c off n).map (List.map (sh k)):=by
 unfold seg
 simp only [zgw,zc]
 split
 ·simp [List.map_take,List.map_drop]
 ·rfl
theorem zcf (z:List IV):∀ n,rep (z.map (sh k)) n=(rep z n).map (sh k)
 | 0=>rfl
 | n+1=>by simp only [rep,zir,zcf z n]
end
theorem ze0 {f:IV->IV} {cs:List IV} (h:∀ c∈cs,f c=c):cs.map f=cs:=by
 conv=>rhs; rw [← List.map_id cs]
 exact List.map_congr_left h
theorem clF_sh {k:Nat}:∀ {n:Nat} {v:IV},clF n v=true->sh k v=v
 | 0,v,h=>by simp [clF] at h
 | n+1,v,h=>by
  have ih:∀ {cs:List IV},cs.all (clF n)=true->cs.map (sh k)=cs:=fun h=>ze0 fun c hc=>clF_sh (zhg.1 h c hc)
  cases v <;> simp only [clF,zf6,zgk] at h <;> simp only [sh] <;> first | rfl | (rw [ih h]) | (rw [ih h.1,ih h.2])
theorem ze1 {k:Nat} {v:IV} (h:clI v=true):sh k v=v:=clF_sh h
theorem Y7 {k:Nat} {cs:List IV} (h:cs.all clI=true):cs.map (sh k)=cs:=ze0 fun c hc=>ze1 (zhg.1 h c hc)
def clX:Opd->Bool
 | .const v=>clI v
 | _=>true
def clXo:Option Opd->Bool
 | some x=>clX x
 | none=>true
def clOp:IOp->Bool
 | .mov x=>clX x
 | .nilchk x=>clX x
 | .pick c a b=>clX c&&clX a&&clX b
 | .newv cs _=>cs.all clI
 | .box x _=>clX x
 | .build z ps=>z.all clI&&ps.all fun p=>clX p.2.2
 | .bslice z _ _ ps=>z.all clI&&ps.all fun p=>clX p.2.2
 | .mslice z _ _ ps _=>z.all clI&&ps.all fun p=>clX p.2.2
 | .load _ _ x=>clX x
 | .store _ x v=>clX x&&clX v
 | .bin _ x y=>clX x&&clX y
 | .eqagg _ _ x y=>clX x&&clX y
 | .eqb _ x y=>clX x&&clX y
 | .eqp _ x y=>clX x&&clX y
 | .eqs _ x y=>clX x&&clX y
 | .un _ x=>clX x
 | .conv _ x=>clX x
 | .cstr x=>clX x
 | .mkfn _ a b=>a.all clX&&b.all clX
 | .mkmap _=>true
 | .slice _ x lo hi mx=>clX x&&clXo lo&&clXo hi&&clXo mx
 | .sliceS x lo hi=>clX x&&clXo lo&&clXo hi
 | .faddr _ x=>clX x
 | .field _ _ _ x=>clX x
 | .iaddr _ x y=>clX x&&clX y
 | .iaddrA _ _ x y=>clX x&&clX y
 | .index _ _ _ x y=>clX x&&clX y
 | .indexS x y=>clX x&&clX y
 | .lookup z _ _ x y=>clI z&&clX x&&clX y
 | .mapupd _ m a b=>clX m&&clX a&&clX b
 | .extract x _=>clX x
 | .call f az _=>clX f&&az.all clX
 | .append z _ _ a b _=>z.all clI&&clX a&&clX b
 | .len _ x=>clX x
 | .mx _ x y=>clX x&&clX y
 | .cap x=>clX x
 | .clr z _ x=>z.all clI&&clX x
 | .cpy _ x y=>clX x&&clX y
 | .mks z _ x y _=>z.all clI&&clX x&&clX y
 | .fail=>true
def clIC:IC->Bool
 | .seq a b=>clIC a&&clIC b
 | .cond c a b=>clX c&&clIC a&&clIC b
 | .block _ a=>clIC a
 | .loop a=>clIC a
 | .region _ _ ops _=>ops.all fun o=>clOp o.op
 | _=>true
section
variable {k:Nat} {t:List IV}
theorem ρ_sh {x:Opd} (h:clX x=true):ρ (t.map (sh k)) x=sh k (ρ t x):=by
 cases x with
 | tmp i=>exact getK_sh t i
 | const v=>exact (ze1 h).symm
theorem ρs_sh {l:List Opd} (h:l.all clX=true):l.map (ρ (t.map (sh k)))=(l.map (ρ t)).map (sh k):=by
 rw [List.map_map]
 exact List.map_congr_left fun x hx=>ρ_sh (zhg.1 h x hx)
theorem ZD (v:IV):natI (sh k v)=natI v:=by cases v <;> simp [sh,natI]
theorem zbb {x:Option Opd} (n:Nat) (h:clXo x=true):optI (t.map (sh k)) n x=optI t n x:=by
 cases x with
 | none=>rfl
 | some x=>simp only [optI]; rw [ρ_sh h,ZD]
theorem zbc:∀ {ps:List (Nat × Nat × Opd)} {c:List IV},(ps.all fun p=>clX p.2.2)=true->fillI (t.map (sh k)) (c.map (sh k)) ps=(fillI t c ps).map (List.map (sh k))
 | [],_,_=>rfl
 | (off,n,x)::ps,c,h=>by
  simp only [zhr,zf6] at h
  simp only [fillI,ρ_sh h.1,Zr,zgw,zc]
  split
  ·rw [zce,zbc h.2]
  ·rfl
theorem binI_sh (op:BinOp) (x y:IV):binI op (sh k x) (sh k y)=(binI op x y).map (sh k):=by
 have hi:∀ (r:Option IV),(∀ v,r=some v->sh k v=v)->r=r.map (sh k):=fun r h=>by
  cases r with
  | none=>rfl
  | some v=>simp [h v rfl]
 have hb:∀ v,binI op x y=some v->sh k v=v:=by
  intro v hv
  cases x <;> cases y <;> simp only [binI] at hv <;> try (exact absurd hv (by simp))
  ·rename_i k1 n1 k2 n2
   split at hv
   ·unfold shiftI at hv
    split at hv
    ·simp at hv
    ·cases op <;> simp at hv <;> subst hv <;> simp [sh]
   ·split at hv
    ·cases op <;> simp [intBin] at hv <;> first | (obtain ⟨_,rfl⟩:=hv; simp [sh]) | (subst hv; simp [sh])
    ·simp at hv
  ·cases op <;> simp [strBin] at hv <;> subst hv <;> simp [sh]
 refine zgr ?_ (hi _ hb)
 cases x <;> cases y <;> simp [sh,binI]
theorem eqv_sh (n:Nat) (x y:IV):eqv n (sh k x) (sh k y)=eqv n x y:=by cases x <;> cases y <;> simp [sh,eqv]
theorem eqvs_sh:∀ (ks:List Nat) (xs ys:List IV),eqvs ks (xs.map (sh k)) (ys.map (sh k))=eqvs ks xs ys
 | [],[],[]=>rfl
 | n::ks,x::xs,y::ys=>by simp only [zg3,eqvs,eqv_sh,eqvs_sh ks xs ys]
 | [],[],_::_=>rfl
 | [],_::_,_=>rfl
 | _::_,[],_=>rfl
 | _::_,_::_,[]=>rfl
theorem zbd (ag:Bool) (v:IV):kindB ag (sh k v)=kindB ag v:=by
 unfold kindB
 rw [sh_scalar]
 cases v <;> simp [sh]
theorem eqk_sh (kt:Bool × List Nat) (x y:IV):eqk kt (sh k x) (sh k y)=eqk kt x y:=by
 unfold eqk
 rw [zbd,zbd,Zr,Zr,eqvs_sh]
theorem zcg (kt:Bool × List Nat) (key:IV):∀ (ks:List IV) (i:Nat),findIx kt (sh k key) (ks.map (sh k)) i=findIx kt key ks i
 | [],_=>rfl
 | x::ks,i=>by simp only [zg3,findIx,eqk_sh,zcg kt key ks (i+1)]
theorem ze2 (kt:Bool × List Nat) (key:IV) (ks vs:List IV):findK kt (sh k key) (ks.map (sh k)) (vs.map (sh k))=(findK kt key ks vs).map (Option.map (sh k)):=by
 unfold findK
 rw [zbd,Zr,zgw,zcg]
 split
 ·split
  ·rename_i j _
   rw [zgd]
   cases vs[j]? <;> rfl
  ·rfl
  ·rfl
 ·rfl
end
end
section
def ShC (k:Nat) (C:Call):Prop:=∀ (d:Nat) (out out':yLM) (ownV own:yLO) (id:Nat) (f:FuncId) (args:List IV),(∀ l,l<d->out' (l+k)=(out l).map (shO k))->C (d+k) out' (ownV.map (shO k)) (own.map (shO k)) id f (args.map (sh k))=(C d out ownV own id f args).map (shR k)
section
variable {k d n0:Nat} {out out':yLM} {own ownV:yLO} {t:List IV}
theorem YM (ho:∀ l,l<d->out' (l+k)=(out l).map (shO k)) (l i:Nat):look (d+k) out' (own.map (shO k)) (l+k) i=(look d out own l i).map (shO k):=by
 unfold look
 by_cases h1:l=d
 ·rw [if_pos (by omega),if_pos h1,zgd]
 ·rw [if_neg (by omega),if_neg h1]
  by_cases h2:l<d
  ·rw [if_pos (by omega),if_pos h2,ho l h2,zgd]
  ·rw [if_neg (by omega),if_neg h2]
   rfl
theorem ZE (id:Nat) (o:IObj) (v:IV):mkAt (own.map (shO k)) id (shO k o) (sh k v)=(mkAt own id o v).map (shR k):=by
 unfold mkAt
 rw [zgd]
 cases h:own[id]? with
 | none=>rfl
 | some x=>cases x <;> simp [shO,shR,shE,zc,List.map_set]
theorem killAt_sh (i id:Nat) (o:IObj) (v:IV):killAt (own.map (shO k)) i id (shO k o) (sh k v)=(killAt own i id o v).map (shR k):=by
 unfold killAt
 rw [zgd]
 cases h:own[id]? with
 | none=>rfl
 | some x=>cases x <;> simp [shO,shR,shE,zc,List.map_set]
theorem nilchk_sh {x:Opd} (hx:clX x=true):e_nilchk (own.map (shO k)) (t.map (sh k)) x=(e_nilchk own t x).map (shR k):=by
 unfold e_nilchk
 rw [ρ_sh hx]
 cases ρ t x <;> simp [sh,shR,shE]
theorem pick_sh {c a b:Opd} (hc:clX c=true) (ha:clX a=true) (hb:clX b=true):e_pick (own.map (shO k)) (t.map (sh k)) c a b=(e_pick own t c a b).map (shR k):=by
 unfold e_pick
 rw [ρ_sh hc,ρ_sh ha,ρ_sh hb]
 cases ρ t c <;> simp [sh]
 rename_i b
 cases b <;> simp [shR,shE]
theorem box_sh {x:Opd} {slot:Nat} (hx:clX x=true):e_box (d+k) n0 (own.map (shO k)) (t.map (sh k)) x slot=(e_box d n0 own t x slot).map (shR k):=by
 unfold e_box
 rw [ρ_sh hx,Zr,z6]
 split
 ·rw [← ZE]
  simp [shO,sh]
 ·rfl
theorem bslice_sh {z:List IV} {sz len:Nat} {ps:List (Nat × Nat × Opd)} (hz:z.all clI=true) (hp:(ps.all fun p=>clX p.2.2)=true):e_bslice (own.map (shO k)) (t.map (sh k)) z sz len ps=(e_bslice own t z sz len ps).map (shR k):=by
 unfold e_bslice
 conv=>lhs; rw [← Y7 (k:=k) hz]
 rw [zcf,zbc hp]
 cases fillI t (rep z len) ps <;> simp [shR,shE,sh]
theorem mslice_sh {z:List IV} {sz len slot:Nat} {ps:List (Nat × Nat × Opd)} (hz:z.all clI=true) (hp:(ps.all fun p=>clX p.2.2)=true):e_mslice (d+k) n0 (own.map (shO k)) (t.map (sh k)) z sz len ps slot=(e_mslice d n0 own t z sz len ps slot).map (shR k):=by
 unfold e_mslice
 conv=>lhs; rw [← Y7 (k:=k) hz]
 rw [zcf,zbc hp]
 cases fillI t (rep z len) ps with
 | none=>rfl
 | some c =>
  simp only [zf2,z6]
  split
  ·rw [← ZE]
   simp [shO,sh]
  ·rfl
theorem load_sh (ho:∀ l,l<d->out' (l+k)=(out l).map (shO k)) {x:Opd} {agg:Bool} {n:Nat} (hx:clX x=true):e_load (d+k) out' (ownV.map (shO k)) (own.map (shO k)) (t.map (sh k)) agg n x=(e_load d out ownV own t agg n x).map (shR k):=by
 unfold e_load
 rw [ρ_sh hx]
 cases ρ t x <;> simp only [sh,zg2]
 ·rename_i l i off
  rw [YM ho]
  cases look d out ownV l i with
  | none=>rfl
  | some o =>
   cases o <;> simp only [zf2,shO,zg2]
   rename_i c
   rw [zcd]
   cases rdN c off n with
   | none=>rfl
   | some xs =>
    simp only [zf2,zge,zez]
    cases mkv agg xs <;> simp [shR,shE]
 ·rename_i cs off
  rw [zcd]
  cases rdN cs off n with
  | none=>rfl
  | some xs =>
   simp only [zf2,zge,zez]
   cases mkv agg xs <;> simp [shR,shE]
theorem store_sh {n:Nat} {x v:Opd} (hx:clX x=true) (hv:clX v=true):e_store (d+k) (own.map (shO k)) (t.map (sh k)) n x v=(e_store d own t n x v).map (shR k):=by
 unfold e_store
 rw [ρ_sh hx,ρ_sh hv]
 cases ρ t x <;> simp only [sh,zg2]
 rename_i l i off
 rw [zgd]
 cases own[i]? with
 | none=>rfl
 | some o =>
  cases o <;> simp only [zf2,shO,zg2]
  rename_i c
  rw [Zr,zgw,zgw,z6]
  by_cases hc:l=d/\(ρ t v).cells.length=n/\off+n<=c.length/\(ρ t v).cells.all IV.scalar=true
  ·rw [if_pos hc,if_pos ⟨by omega,hc.2⟩]
   simp [shR,shE,sh,zc,List.map_set,shO,zce]
  ·rw [if_neg hc,if_neg (fun h=>hc ⟨by omega,h.2⟩)]
   rfl
theorem eqagg_sh {neg:Bool} {ks:List Nat} {x y:Opd} (hx:clX x=true) (hy:clX y=true):e_eqagg (own.map (shO k)) (t.map (sh k)) neg ks x y=(e_eqagg own t neg ks x y).map (shR k):=by
 unfold e_eqagg
 rw [ρ_sh hx,ρ_sh hy]
 cases ρ t x <;> cases ρ t y <;> simp only [sh,zg2]
 rw [eqvs_sh]
 rename_i a b
 cases eqvs ks a b <;> simp [shR,shE,sh]
theorem eqb_sh {neg:Bool} {x y:Opd} (hx:clX x=true) (hy:clX y=true):e_eqb (own.map (shO k)) (t.map (sh k)) neg x y=(e_eqb own t neg x y).map (shR k):=by
 unfold e_eqb
 rw [ρ_sh hx,ρ_sh hy]
 cases ρ t x <;> cases ρ t y <;> simp [sh,eqbI,shR,shE]
theorem eqp_sh {neg:Bool} {x y:Opd} (hx:clX x=true) (hy:clX y=true):e_eqp (own.map (shO k)) (t.map (sh k)) neg x y=(e_eqp own t neg x y).map (shR k):=by
 unfold e_eqp
 rw [ρ_sh hx,ρ_sh hy]
 cases ρ t x <;> cases ρ t y <;> simp [sh,eqpI,shR,shE]
theorem eqs_sh {neg:Bool} {x y:Opd} (hx:clX x=true) (hy:clX y=true):e_eqs (own.map (shO k)) (t.map (sh k)) neg x y=(e_eqs own t neg x y).map (shR k):=by
 unfold e_eqs
 rw [ρ_sh hx,ρ_sh hy]
 cases ρ t x <;> cases ρ t y <;> simp [sh,eqsI,shR,shE]
theorem un_sh (op:UnOp) (x:IV):unI op (sh k x)=(unI op x).map (sh k):=by
 cases op <;> cases x <;> simp [sh,unI]
theorem cstr_sh {x:Opd} (hx:clX x=true):e_cstr (own.map (shO k)) (t.map (sh k)) x=(e_cstr own t x).map (shR k):=by
 unfold e_cstr
 rw [ρ_sh hx]
 cases ρ t x <;> simp [sh,shR,shE]
theorem conv_sh {kd:IntKind} {x:Opd} (hx:clX x=true):e_conv (own.map (shO k)) (t.map (sh k)) kd x=(e_conv own t kd x).map (shR k):=by
 unfold e_conv
 rw [ρ_sh hx]
 cases ρ t x <;> simp [sh,shR,shE]
theorem faddr_sh {off:Nat} {x:Opd} (hx:clX x=true):e_faddr (own.map (shO k)) (t.map (sh k)) off x=(e_faddr own t off x).map (shR k):=by
 unfold e_faddr
 rw [ρ_sh hx]
 cases ρ t x <;> simp [sh,shR,shE]
theorem field_sh {agg:Bool} {off n:Nat} {x:Opd} (hx:clX x=true):e_field (own.map (shO k)) (t.map (sh k)) agg off n x=(e_field own t agg off n x).map (shR k):=by
 unfold e_field
 rw [ρ_sh hx]
 cases ρ t x <;> simp only [sh,zg2]
 rename_i cs
 rw [zcd]
 cases rdN cs off n with
 | none=>rfl
 | some xs =>
  simp only [zf2,zge,zez]
  cases mkv agg xs <;> simp [shR,shE]
theorem iaddr_sh {sz:Nat} {x y:Opd} (hx:clX x=true) (hy:clX y=true):e_iaddr (own.map (shO k)) (t.map (sh k)) sz x y=(e_iaddr own t sz x y).map (shR k):=by
 unfold e_iaddr
 rw [ρ_sh hx,ρ_sh hy,ZD]
 cases natI (ρ t y) <;> cases ρ t x <;> simp only [sh,zg2] <;> split <;> simp [sh,shR,shE]
theorem iaddrA_sh {sz len:Nat} {x y:Opd} (hx:clX x=true) (hy:clX y=true):e_iaddrA (own.map (shO k)) (t.map (sh k)) sz len x y=(e_iaddrA own t sz len x y).map (shR k):=by
 unfold e_iaddrA
 rw [ρ_sh hx,ρ_sh hy,ZD]
 cases natI (ρ t y) <;> cases ρ t x <;> simp only [sh,zg2] <;> split <;> simp [sh,shR,shE]
theorem index_sh {agg:Bool} {sz len:Nat} {x y:Opd} (hx:clX x=true) (hy:clX y=true):e_index (own.map (shO k)) (t.map (sh k)) agg sz len x y=(e_index own t agg sz len x y).map (shR k):=by
 unfold e_index
 rw [ρ_sh hx,ρ_sh hy,ZD]
 cases natI (ρ t y) <;> cases ρ t x <;> simp only [sh,zg2]
 rename_i j cs
 split
 ·rw [zcd]
  cases rdN cs (j*sz) sz with
  | none=>rfl
  | some xs =>
   simp only [zf2,zge,zez]
   cases mkv agg xs <;> simp [shR,shE]
 ·rfl
theorem indexS_sh {x y:Opd} (hx:clX x=true) (hy:clX y=true):e_indexS (own.map (shO k)) (t.map (sh k)) x y=(e_indexS own t x y).map (shR k):=by
 unfold e_indexS
 rw [ρ_sh hx,ρ_sh hy,ZD]
 cases natI (ρ t y) <;> cases ρ t x <;> simp only [sh,zg2]
 rename_i j s
 cases s[j]? <;> simp [sh,shR,shE]
theorem lookup_sh (ho:∀ l,l<d->out' (l+k)=(out l).map (shO k)) {z:IV} {kt:Bool × List Nat} {ok:Bool} {x y:Opd} (hz:clI z=true) (hx:clX x=true) (hy:clX y=true):e_lookup (d+k) out' (ownV.map (shO k)) (own.map (shO k)) (t.map (sh k)) z kt ok x y=(e_lookup d out ownV own t z kt ok x y).map (shR k):=by
 have key:∀ (e:Eff) (he:shE k e=e) (r:Option (Option IV)),((r.map (Option.map (sh k))).map (e,·)).map (fun x:Eff × Option IV=>(x.1,if ok then IV.tuple [x.2.getD z,.bool x.2.isSome] else x.2.getD z,own.map (shO k)))=(((r.map (e,·)).map (fun x:Eff × Option IV=>(x.1,if ok then IV.tuple [x.2.getD z,.bool x.2.isSome] else x.2.getD z,own))).map (shR k)):=fun e he r=>by
  have hzs:=ze1 (k:=k) hz
  cases r with
  | none=>rfl
  | some r=>cases r <;> cases ok <;> simp [shR,he,sh,hzs]
 unfold e_lookup
 rw [ρ_sh hx,ρ_sh hy]
 cases ρ t x <;> simp only [sh,zg2]
 ·have:=key .p rfl (findK kt (ρ t y) [] [])
  rw [← ze2] at this
  exact this
 ·rename_i l i
  rw [YM ho]
  cases look d out ownV l i with
  | none=>rfl
  | some o =>
   cases o <;> simp only [zf2,shO,zg2]
   rename_i ks vs bs ck
   have:=key .r rfl (findK kt (ρ t y) ks vs)
   rw [← ze2] at this
   exact this
 ·rename_i ks vs
  have:=key .p rfl (findK kt (ρ t y) ks vs)
  rw [← ze2] at this
  exact this
theorem mapupd_sh {kt:Bool × List Nat} {m a b:Opd} (hm:clX m=true) (ha:clX a=true) (hb:clX b=true):e_mapupd (d+k) (own.map (shO k)) (t.map (sh k)) kt m a b=(e_mapupd d own t kt m a b).map (shR k):=by
 unfold e_mapupd
 rw [ρ_sh hm,ρ_sh ha,ρ_sh hb]
 cases ρ t m <;> simp only [sh,zg2]
 rename_i l i
 rw [zgd]
 cases own[i]? with
 | none=>rfl
 | some o =>
  cases o <;> simp only [zf2,shO,zg2]
  rename_i ks vs bs ck
  rw [zbd,Zr,zgw,zcg]
  by_cases hc:l=d/\(kindB kt.1 (ρ t a)&&(ρ t a).cells.length==kt.2.length)=true
  ·rw [if_pos hc,if_pos ⟨by omega,hc.2⟩]
   cases findIx kt (ρ t a) ks 0 with
   | none=>rfl
   | some r=>cases r <;> simp [shR,shE,sh,zc,List.map_set,shO]
  ·rw [if_neg hc,if_neg (fun h=>hc ⟨by omega,h.2⟩)]
   rfl
theorem extract_sh {x:Opd} {i:Nat} (hx:clX x=true):e_extract (own.map (shO k)) (t.map (sh k)) x i=(e_extract own t x i).map (shR k):=by
 unfold e_extract
 rw [ρ_sh hx]
 cases ρ t x <;> simp only [sh,zg2]
 rename_i vs
 rw [zgd]
 cases vs[i]? <;> simp [shR,shE]
theorem call_sh {C:Call} (hC:ShC k C) (ho:∀ l,l<d->out' (l+k)=(out l).map (shO k)) {f:Opd} {az:List Opd} {slot:Nat} (hf:clX f=true) (ha:az.all clX=true):e_call C (d+k) out' n0 (ownV.map (shO k)) (own.map (shO k)) (t.map (sh k)) f az slot=(e_call C d out n0 ownV own t f az slot).map (shR k):=by
 unfold e_call
 rw [ρ_sh hf]
 cases ρ t f <;> simp only [sh,zg2]
 rename_i g first cap
 rw [ρs_sh ha,← zir,← zir]
 exact hC d out out' ownV own _ _ _ ho
theorem len_sh (ho:∀ l,l<d->out' (l+k)=(out l).map (shO k)) {n:Nat} {x:Opd} (hx:clX x=true):e_len (d+k) out' (ownV.map (shO k)) (own.map (shO k)) (t.map (sh k)) n x=(e_len d out ownV own t n x).map (shR k):=by
 unfold e_len
 rw [ρ_sh hx]
 cases ρ t x <;> simp only [sh,zg2] <;> try (split <;> simp [shR,shE,sh])
 rename_i l i
 split
 ·rw [YM ho]
  cases look d out ownV l i with
  | none=>rfl
  | some o=>cases o <;> simp [shO,shR,shE,sh]
 ·rfl
theorem mx_sh {m:Bool} {x y:Opd} (hx:clX x=true) (hy:clX y=true):e_mx (own.map (shO k)) (t.map (sh k)) m x y=(e_mx own t m x y).map (shR k):=by
 unfold e_mx
 rw [ρ_sh hx,ρ_sh hy]
 cases ρ t x <;> cases ρ t y <;> simp [sh,shR,shE]
theorem cap_sh {x:Opd} (hx:clX x=true):e_cap (own.map (shO k)) (t.map (sh k)) x=(e_cap own t x).map (shR k):=by
 unfold e_cap
 rw [ρ_sh hx]
 cases ρ t x <;> simp [sh,shR,shE]
 rename_i l i off len cap sz tight
 cases tight <;> simp [sh,shR,shE]
end
end
section
section
variable {k d n0:Nat} {out out':yLM} {own ownV:yLO} {t:List IV}
theorem slice_sh {sz:Nat} {v:IV} {lo hi mx:Option Opd} (h1:clXo lo=true) (h2:clXo hi=true) (h3:clXo mx=true):sliceI sz (t.map (sh k)) (sh k v) lo hi mx=(sliceI sz t v lo hi mx).map (sh k):=by
 unfold sliceI
 cases v <;> simp only [sh,zg2] <;> rw [zbb _ h1,zbb _ h2,zbb _ h3] <;> split <;> first | rfl | (split <;> simp [sh,zc,List.map_take,List.map_drop]) | skip
theorem sliceS_sh {v:IV} {lo hi:Option Opd} (h1:clXo lo=true) (h2:clXo hi=true):sliceStr (t.map (sh k)) (sh k v) lo hi=(sliceStr t v lo hi).map (sh k):=by
 unfold sliceStr
 cases v <;> simp only [sh,zg2]
 rw [zbb _ h1,zbb _ h2]
 split
 ·split <;> simp [sh]
 ·rfl
theorem cellsI_sh (ho:∀ l,l<d->out' (l+k)=(out l).map (shO k)) (sz:Nat) (v:IV):cellsI (look (d+k) out' (ownV.map (shO k))) sz (sh k v)=(cellsI (look d out ownV) sz v).map fun r=>(r.1.map (sh k),r.2):=by
 unfold cellsI
 cases v <;> simp only [sh,zg2]
 ·rfl
 ·rename_i l i off len cap sz0 tight
  rw [YM ho]
  cases look d out ownV l i with
  | none=>rfl
  | some o =>
   cases o <;> simp only [zf2,shO,zg2]
   rename_i c
   rw [Yz]
   cases seg c off (len*sz) <;> rfl
 ·rename_i cs len sz0 tight
  rw [Yz]
  cases seg cs 0 (len*sz) <;> rfl
theorem ze3 (ho:∀ l,l<d->out' (l+k)=(out l).map (shO k)) (sz:Nat) (s:IV) (new:List IV) (n slot:Nat):appendI (d+k) n0 (look (d+k) out' (ownV.map (shO k))) (own.map (shO k)) sz (sh k s) (new.map (sh k)) n slot=(appendI d n0 (look d out ownV) own sz s new n slot).map (shR k):=by
 have hmk:∀ (id:Nat) (c:List IV) (v:IV),mkAt (own.map (shO k)) id (.cells (c.map (sh k))) (sh k v)=(mkAt own id (.cells c) v).map (shR k):=fun id c v=>ZE (k:=k) id (.cells c) v
 have hkl:∀ (i id:Nat) (c:List IV) (v:IV),killAt (own.map (shO k)) i id (.cells (c.map (sh k))) (sh k v)=(killAt own i id (.cells c) v).map (shR k):=fun i id c v=>killAt_sh (k:=k) i id (.cells c) v
 unfold appendI
 by_cases hn:n=0
 ·rw [if_pos hn,if_pos hn]
  cases s <;> simp [sh,shR,shE]
 ·rw [if_neg hn,if_neg hn]
  cases s <;> simp only [sh,zg2]
  ·split
   ·refine zgr ?_ (hmk _ _ (.slM d (n0+slot) 0 n n sz false))
    simp only [sh]
   ·rfl
  ·rename_i l i off len cap sz0 tight
   split
   ·rw [YM ho]
    cases look d out ownV l i with
    | none=>rfl
    | some o =>
     cases o <;> simp only [zf2,shO,zg2]
     rename_i c
     split
     ·rw [zgw,z6]
      by_cases hc:l=d/\off+(len+n)*sz<=c.length/\new.all IV.scalar=true
      ·rw [if_pos hc,if_pos ⟨by omega,hc.2⟩]
       simp [shR,shE,sh,zc,List.map_set,shO,zce]
      ·rw [if_neg hc,if_neg (fun h=>hc ⟨by omega,h.2⟩)]
       rfl
     ·rw [Yz]
      cases seg c off (len*sz) with
      | none=>rfl
      | some old =>
       simp only [zf2,z6,zc]
       split
       ·rw [← zir]
        refine zgr ?_ (hmk _ _ (.slM d (n0+slot) 0 (len+n) (len+n) sz false))
        simp only [sh]
       ·by_cases hc:l=d/\new.all IV.scalar=true
        ·rw [if_pos hc,if_pos ⟨by omega,hc.2⟩,← zir]
         refine zgr ?_ (hkl _ _ _ (.slM d (n0+slot) 0 (len+n) (len+n) sz false))
         simp only [sh]
        ·rw [if_neg hc,if_neg (fun h=>hc ⟨by omega,h.2⟩)]
         rfl
   ·rfl
  ·rename_i cs len sz0 tight
   split
   ·rw [Yz]
    cases seg cs 0 (len*sz) with
    | none=>rfl
    | some old =>
     simp only [zf2,zc]
     rw [← zir]
     refine zgr ?_ (hmk _ _ (.slM d (n0+slot) 0 (len+n) (len+n) sz false))
     simp only [sh]
   ·rfl
theorem append_sh (ho:∀ l,l<d->out' (l+k)=(out l).map (shO k)) {z:List IV} {sz:Nat} {zeros:Bool} {s x:Opd} {slot:Nat} (hz:z.all clI=true) (hs:clX s=true) (hx:clX x=true):e_append (d+k) out' n0 (ownV.map (shO k)) (own.map (shO k)) (t.map (sh k)) z sz zeros s x slot=(e_append d out n0 ownV own t z sz zeros s x slot).map (shR k):=by
 unfold e_append
 rw [ρ_sh hs,ρ_sh hx,ZD,cellsI_sh ho]
 cases zeros
 ·simp only [zgk,if_false]
  cases cellsI (look d out ownV) sz (ρ t x) with
  | none=>rfl
  | some r=>exact ze3 ho _ _ _ _ _
 ·simp only [if_true]
  cases natI (ρ t x) with
  | none=>rfl
  | some n =>
   simp only [zge]
   by_cases hb:n<=bound
   ·rw [if_pos hb]
    have:=ze3 (n0:=n0) (own:=own) (ownV:=ownV) ho sz (ρ t s) (rep z n) n slot
    rw [← zcf,Y7 hz] at this
    exact this
   ·rw [if_neg hb]
    rfl
theorem fillAt_sh (l i off:Nat) (xs:List IV) (u:IV):fillAt (d+k) (own.map (shO k)) (l+k) i off (xs.map (sh k)) (sh k u)=(fillAt d own l i off xs u).map (shR k):=by
 unfold fillAt
 rw [zgd]
 cases own[i]? with
 | none=>rfl
 | some o =>
  cases o <;> simp only [zf2,shO,zg2]
  rename_i c
  rw [zgw,zgw,z6]
  by_cases hc:l=d/\off+xs.length<=c.length/\xs.all IV.scalar=true
  ·rw [if_pos hc,if_pos ⟨by omega,hc.2⟩]
   simp [shR,shE,zc,List.map_set,shO,zce]
  ·rw [if_neg hc,if_neg (fun h=>hc ⟨by omega,h.2⟩)]
   rfl
theorem clr_sh {z:List IV} {sz:Nat} {x:Opd} (hz:z.all clI=true) (hx:clX x=true):e_clr (d+k) (own.map (shO k)) (t.map (sh k)) z sz x=(e_clr d own t z sz x).map (shR k):=by
 unfold e_clr
 rw [ρ_sh hx]
 cases ρ t x <;> simp only [sh,zg2]
 ·simp [shR,shE,sh]
 ·rename_i l i off len cap sz0 tight
  split
  ·simp [shR,shE,sh]
  ·split
   ·have:=fillAt_sh (k:=k) (d:=d) (own:=own) l i off (rep z len) (.tuple [])
    rw [← zcf,Y7 hz] at this
    simpa [sh] using this
   ·rfl
theorem cpy_sh (ho:∀ l,l<d->out' (l+k)=(out l).map (shO k)) {sz:Nat} {x y:Opd} (hx:clX x=true) (hy:clX y=true):e_cpy (d+k) out' (ownV.map (shO k)) (own.map (shO k)) (t.map (sh k)) sz x y=(e_cpy d out ownV own t sz x y).map (shR k):=by
 unfold e_cpy
 rw [ρ_sh hx,ρ_sh hy,cellsI_sh ho]
 cases ρ t x <;> simp only [sh,zg2]
 rename_i l i off len cap sz0 tight
 cases cellsI (look d out ownV) sz (ρ t y) with
 | none=>rfl
 | some r =>
  obtain ⟨xs,n⟩:=r
  simp only [zf2]
  split
  ·split
   ·simp [shR,shE,sh]
   ·have:=fillAt_sh (k:=k) (d:=d) (own:=own) l i off xs (.int .i64 n)
    simpa [sh] using this
  ·rfl
theorem mks_sh {z:List IV} {sz slot:Nat} {x y:Opd} (hz:z.all clI=true) (hx:clX x=true) (hy:clX y=true):e_mks (d+k) n0 (own.map (shO k)) (t.map (sh k)) z sz x y slot=(e_mks d n0 own t z sz x y slot).map (shR k):=by
 unfold e_mks
 rw [ρ_sh hx,ρ_sh hy,ZD,ZD]
 cases natI (ρ t x) with
 | none=>rfl
 | some a =>
  cases natI (ρ t y) with
  | none=>rfl
  | some b =>
   simp only
   split
   ·have:=ZE (k:=k) (own:=own) (n0+slot) (.cells (lit (rep z a))) (.slM d (n0+slot) 0 a a sz false)
    simp only [shO,sh,zc,← zcf,Y7 hz] at this
    rw [zc]
    exact this
   ·rfl
theorem map_p {o:Option IV}:(o.map fun v=>(Eff.p,sh k v,own.map (shO k)))=(o.map fun v=>(Eff.p,v,own)).map (shR k):=by cases o <;> rfl
theorem evOp_sh {C:Call} (hC:ShC k C) (ho:∀ l,l<d->out' (l+k)=(out l).map (shO k)) {op:IOp} (hc:clOp op=true):evOp C (d+k) out' n0 (ownV.map (shO k)) (own.map (shO k)) (t.map (sh k)) op=(evOp C d out n0 ownV own t op).map (shR k):=by
 cases op <;> simp only [clOp,zf6] at hc <;> simp only [evOp]
 ·rw [ρ_sh hc]; rfl
 ·exact nilchk_sh hc
 ·exact pick_sh hc.1.1 hc.1.2 hc.2
 ·rename_i cs slot
  unfold e_newv
  have:=ZE (k:=k) (own:=own) (n0+slot) (.cells cs) (.ptrM d (n0+slot) 0)
  simp only [shO,sh,Y7 hc] at this
  exact this
 ·exact box_sh hc
 ·rename_i z ps
  conv=>lhs; rw [← Y7 (k:=k) hc.1]
  rw [zbc hc.2]
  cases fillI t z ps <;> simp [shR,shE,sh]
 ·exact bslice_sh hc.1 hc.2
 ·exact mslice_sh hc.1 hc.2
 ·exact load_sh ho hc
 ·exact store_sh hc.1 hc.2
 ·rw [ρ_sh hc.1,ρ_sh hc.2,binI_sh,zgm]
  exact map_p
 ·exact eqagg_sh hc.1 hc.2
 ·exact eqb_sh hc.1 hc.2
 ·exact eqp_sh hc.1 hc.2
 ·exact eqs_sh hc.1 hc.2
 ·rw [ρ_sh hc,un_sh,zgm]
  exact map_p
 ·exact conv_sh hc
 ·exact cstr_sh hc
 ·rw [ρs_sh hc.1,ρs_sh hc.2]
  simp [shR,shE,sh]
 ·rename_i slot
  unfold e_mkmap
  have:=ZE (k:=k) (own:=own) (n0+slot) (.map [] [] [] 0) (.mapM d (n0+slot))
  simp only [shO,sh,zh9] at this
  exact this
 ·rw [ρ_sh hc.1.1.1,slice_sh hc.1.1.2 hc.1.2 hc.2,zgm]
  exact map_p
 ·rw [ρ_sh hc.1.1,sliceS_sh hc.1.2 hc.2,zgm]
  exact map_p
 ·exact faddr_sh hc
 ·exact field_sh hc
 ·exact iaddr_sh hc.1 hc.2
 ·exact iaddrA_sh hc.1 hc.2
 ·exact index_sh hc.1 hc.2
 ·exact indexS_sh hc.1 hc.2
 ·exact lookup_sh ho hc.1.1 hc.1.2 hc.2
 ·exact mapupd_sh hc.1.1 hc.1.2 hc.2
 ·exact extract_sh hc
 ·exact call_sh hC ho hc.1 hc.2
 ·exact append_sh ho hc.1.1 hc.1.2 hc.2
 ·exact len_sh ho hc
 ·exact mx_sh hc.1 hc.2
 ·exact cap_sh hc
 ·exact clr_sh hc.1 hc.2
 ·exact cpy_sh ho hc.1 hc.2
 ·exact mks_sh hc.1.1 hc.1.2 hc.2
 ·rfl
theorem hide_sh (vis:List Nat):hide vis n0 (own.map (shO k))=(hide vis n0 own).map (shO k):=by
 unfold hide
 rw [zc,zc]
 refine ziu fun i=>?_
 simp only [List.getElem?_mapIdx,zgd]
 cases own[i]? with
 | none=>rfl
 | some o=>simp only [zf2]; split <;> rfl
theorem wanted_sh (g:Option (Nat × Bool)):wantedI (t.map (sh k)) g=wantedI t g:=by
 cases g with
 | none=>rfl
 | some g =>
  simp only [wantedI,zgd]
  cases t[g.1]? with
  | none=>rfl
  | some v=>cases v <;> simp [sh]
def shS (k:Nat) (st:St):St:=⟨st.t.map (sh k),st.own.map (shO k)⟩
theorem stepR_sh {C:Call} (hC:ShC k C) (ho:∀ l,l<d->out' (l+k)=(out l).map (shO k)) {dr:Bool} {o:IOpR} (hc:clOp o.op=true) (st:St):stepR C (d+k) out' dr n0 o (shS k st)=(stepR C d out dr n0 o st).map fun r=>(shE k r.1,shS k r.2):=by
 unfold stepR
 simp only [shS,wanted_sh]
 have hv:(if dr=true then hide o.vis n0 (st.own.map (shO k)) else st.own.map (shO k))=(if dr=true then hide o.vis n0 st.own else st.own).map (shO k):=by
  split
  ·exact hide_sh _
  ·rfl
 rw [hv,evOp_sh hC ho hc]
 split
 ·cases evOp C d out n0 (if dr=true then hide o.vis n0 st.own else st.own) st.own st.t o.op with
  | none=>rfl
  | some r=>simp [shR,put_sh]
 ·have h0:sh k (.tuple [])=.tuple []:=by simp [sh]
  have h1:=put_sh (k:=k) st.t o.dst (.tuple [])
  rw [h0] at h1
  simp [shE,h1]
theorem runR_sh {C:Call} (hC:ShC k C) (ho:∀ l,l<d->out' (l+k)=(out l).map (shO k)) {dr:Bool}:∀ {ops:List IOpR},(ops.all fun o=>clOp o.op)=true->∀ st,runR C (d+k) out' dr n0 ops (shS k st)=(runR C d out dr n0 ops st).map fun r=>(r.1.map (shE k),shS k r.2)
 | [],_,_=>rfl
 | o::ops,hc,st=>by
  simp only [zhr,zf6] at hc
  simp only [runR,stepR_sh hC ho hc.1]
  cases stepR C d out dr n0 o st with
  | none=>rfl
  | some r =>
   simp only [zf2,runR_sh hC ho hc.2]
   cases runR C d out dr n0 ops r.2 <;> rfl
theorem comm_sh (e1 e2:Eff):comm (shE k e1) (shE k e2)=comm e1 e2:=by
 have h:∀ l l':Nat,(l+k==l'+k)=(l==l'):=fun l l'=>by
  rw [zhi,beq_iff_eq,beq_iff_eq]
  omega
 cases e1 <;> cases e2 <;> simp [shE,comm,h]
theorem free_sh (fr:List (Nat × Nat)) (es:List Eff):fr.all (fun ji=>comm ((es.map (shE k)).getD ji.1 .x) ((es.map (shE k)).getD ji.2 .x))=fr.all (fun ji=>comm (es.getD ji.1 .x) (es.getD ji.2 .x)):=by
 have hg:∀ i,(es.map (shE k)).getD i .x=shE k (es.getD i .x):=fun i=>by
  rw [zf8,zf8,zgd]
  cases es[i]? <;> rfl
 congr 1
 funext ji
 rw [hg,hg,comm_sh]
theorem iter_sh {f f':St->Option (Out × St)} (h:∀ st,f' (shS k st)=(f st).map fun r=>(r.1,shS k r.2)):∀ (n:Nat) (st:St),iter f' n (shS k st)=(iter f n st).map fun r=>(r.1,shS k r.2)
 | 0,_=>rfl
 | n+1,st=>by
  simp only [iter,h]
  cases f st with
  | none=>rfl
  | some r =>
   obtain ⟨o,st1⟩:=r
   cases o <;> simp only [zf2]
   exact iter_sh h n st1
theorem Zd {C:Call} (hC:ShC k C) (ho:∀ l,l<d->out' (l+k)=(out l).map (shO k)) {n:Nat}:∀ {c:IC},clIC c=true->∀ st,exec C (d+k) out' n c (shS k st)=(exec C d out n c st).map fun r=>(r.1,shS k r.2)
 | .skip,_,_=>rfl
 | .ret,_,_=>rfl
 | .exit _,_,_=>rfl
 | .seq a b,hc,st=>by
  simp only [clIC,zf6] at hc
  simp only [exec,Zd hC ho hc.1]
  unfold seqX
  cases exec C d out n a st with
  | none=>rfl
  | some r =>
   obtain ⟨o,st1⟩:=r
   cases o <;> simp only [zf2]
   exact Zd hC ho hc.2 st1
 | .cond x a b,hc,st=>by
  simp only [clIC,zf6] at hc
  simp only [exec,Zd hC ho hc.1.2,Zd hC ho hc.2]
  have hx:ρ (shS k st).t x=sh k (ρ st.t x):=ρ_sh hc.1.1
  rw [hx]
  cases ρ st.t x <;> simp [sh,condX]
  rename_i b
  cases b <;> rfl
 | .block id a,hc,st=>by
  simp only [clIC] at hc
  simp only [exec,Zd hC ho hc]
  unfold blockX
  cases exec C d out n a st with
  | none=>rfl
  | some r =>
   obtain ⟨o,st1⟩:=r
   cases o <;> simp only [zf2]
   split <;> rfl
 | .loop a,hc,st=>by
  simp only [clIC] at hc
  simp only [exec]
  exact iter_sh (fun st=>Zd hC ho hc st) n st
 | .region dr s ops fr,hc,st=>by
  simp only [clIC] at hc
  simp only [exec,regionX,zc]
  have h1:(⟨(shS k st).t,(shS k st).own++List.replicate s .free⟩:St)=shS k ⟨st.t,st.own++List.replicate s .free⟩:=by
   simp [shS,shO]
  have h2:(shS k st).own.length=st.own.length:=by simp [shS]
  rw [h1,h2,runR_sh hC ho hc]
  cases runR C d out dr st.own.length ops ⟨st.t,st.own++List.replicate s .free⟩ with
  | none=>rfl
  | some r =>
   simp only [zf2,free_sh]
   split <;> rfl
end
end
section
section
variable {k:Nat}
theorem mapM_sh {f f':IV->Option IV} (h:∀ c,f' (sh k c)=(f c).map (sh k)):∀ (cs:List IV),(cs.map (sh k)).mapM f'=(cs.mapM f).map (List.map (sh k))
 | []=>rfl
 | c::cs=>by
  simp only [zg3,zhy,h,mapM_sh h cs,zio,zia]
  cases f c with
  | none=>rfl
  | some v=>cases cs.mapM f <;> rfl
theorem ZU:∀ (n lv:Nat) (own:yLO) (v:IV),freeze n (lv+k) (own.map (shO k)) (sh k v)=(freeze n lv own v).map (sh k)
 | 0,_,_,_=>rfl
 | n+1,lv,own,v=>by
  have hm:=fun cs=>mapM_sh (k:=k) (f:=freeze n lv own) (f':=freeze n (lv+k) (own.map (shO k))) (ZU n lv own) cs
  cases v <;> simp only [sh,freeze,zf2]
  ·rename_i l i off
   by_cases hl:l=lv
   ·rw [if_pos (by omega),if_pos hl,zgd]
    cases own[i]? with
    | none=>rfl
    | some o =>
     cases o <;> simp only [zf2,shO,zg2]
     rename_i c
     rw [hm]
     cases c.mapM (freeze n lv own) <;> simp [sh]
   ·rw [if_neg (by omega),if_neg hl]
    simp [sh]
  ·rename_i cs off
   rw [hm]
   cases cs.mapM (freeze n lv own) <;> simp [sh]
  ·rename_i l i off len cap sz tight
   by_cases hl:l=lv
   ·rw [if_pos (by omega),if_pos hl,zgd]
    cases own[i]? with
    | none=>rfl
    | some o =>
     cases o <;> simp only [zf2,shO,zg2]
     rename_i c
     rw [Yz]
     cases seg c off (len*sz) with
     | none=>rfl
     | some s =>
      simp only [zf2,zge,hm]
      cases s.mapM (freeze n lv own) <;> simp [sh]
   ·rw [if_neg (by omega),if_neg hl]
    simp [sh]
  ·rename_i cs len sz tight
   rw [hm]
   cases cs.mapM (freeze n lv own) <;> simp [sh]
  ·rename_i l i
   by_cases hl:l=lv
   ·rw [if_pos (by omega),if_pos hl,zgd]
    cases own[i]? with
    | none=>rfl
    | some o =>
     cases o <;> simp only [zf2,shO,zg2]
     rename_i ks vs bs ck
     rw [hm,hm]
     cases ks.mapM (freeze n lv own) <;> cases vs.mapM (freeze n lv own) <;> simp [sh]
   ·rw [if_neg (by omega),if_neg hl]
    simp [sh]
  ·rename_i ks vs
   rw [hm,hm]
   cases ks.mapM (freeze n lv own) <;> cases vs.mapM (freeze n lv own) <;> simp [sh]
  ·rename_i f a b
   rw [hm,hm]
   cases a.mapM (freeze n lv own) <;> cases b.mapM (freeze n lv own) <;> simp [sh]
  ·rename_i cs
   rw [hm]
   cases cs.mapM (freeze n lv own) <;> simp [sh]
  ·rename_i cs
   rw [hm]
   cases cs.mapM (freeze n lv own) <;> simp [sh]
theorem handed_sh (n d:Nat) (own ownC:yLO) (id i off len cap sz:Nat) (tight:Bool) (rest:Option (List IV)):handed n (d+k) (own.map (shO k)) (ownC.map (shO k)) id i off len cap sz tight (rest.map (List.map (sh k)))=(handed n d own ownC id i off len cap sz tight rest).map (shR k):=by
 unfold handed
 have hs:(own.map (shO k)).set i .gone=(own.set i .gone).map (shO k):=by rw [List.map_set]; rfl
 have hd:d+k+1=d+1+k:=by omega
 rw [zgd,hs,hd]
 have hm:=fun cs=>mapM_sh (k:=k) (f:=freeze n (d+1) (own.set i .gone)) (f':=freeze n (d+1+k) ((own.set i .gone).map (shO k))) (ZU n (d+1) (own.set i .gone)) cs
 cases own[i]? with
 | none=>rfl
 | some o =>
  cases o <;> simp only [zf2,shO,zg2]
  rename_i c
  rw [Yz]
  cases seg c off (cap*sz) with
  | none=>rfl
  | some s =>
   simp only [zf2,hm]
   cases s.mapM (freeze n (d+1) (own.set i .gone)) with
   | none=>rfl
   | some c' =>
    simp only [zf2]
    cases rest with
    | none =>
     have:=ZE (k:=k) (own:=ownC) id (.cells c') (.slM d id 0 len cap sz tight)
     simp only [shO,sh] at this
     exact this
    | some r =>
     simp only [zf2,hm]
     cases r.mapM (freeze n (d+1) (own.set i .gone)) with
     | none=>rfl
     | some r' =>
      have:=ZE (k:=k) (own:=ownC) id (.cells c') (.tuple (.slM d id 0 len cap sz tight::r'))
      simp only [shO,sh,zg3] at this
      exact this
theorem leave_sh (n d:Nat) (own ownC:yLO) (id mode:Nat) (v:IV):leave n (d+k) (own.map (shO k)) (ownC.map (shO k)) id mode (sh k v)=(leave n d own ownC id mode v).map (shR k):=by
 have hd:d+k+1=d+1+k:=by omega
 have hfz:∀ w:IV,((freeze n (d+k+1) (own.map (shO k)) (sh k w)).map fun v'=>(Eff.r,v',ownC.map (shO k)))=((freeze n (d+1) own w).map fun v'=>(Eff.r,v',ownC)).map (shR k):=fun w=>by
  rw [hd,ZU]
  cases freeze n (d+1) own w <;> rfl
 by_cases hm:mode=1
 ·subst hm
  have key:∀ w:IV,(∀ D o oC,leave n D o oC id 1 w=(freeze n (D+1) o w).map fun v'=>(Eff.r,v',oC))->(∀ D o oC,leave n D o oC id 1 (sh k w)=(freeze n (D+1) o (sh k w)).map fun v'=>(Eff.r,v',oC))->leave n (d+k) (own.map (shO k)) (ownC.map (shO k)) id 1 (sh k w)=(leave n d own ownC id 1 w).map (shR k):=fun w h1 h2=>by
   rw [h1,h2]
   exact hfz w
  cases v with
  | slM l i off len cap sz tight =>
   have h0:=hfz (.slM l i off len cap sz tight)
   simp only [sh] at h0
   unfold leave
   simp only [sh,if_true]
   by_cases hl:l=d+1
   ·rw [if_pos (by omega),if_pos hl]
    exact handed_sh n d own ownC id i off len cap sz tight none
   ·rw [if_neg (by omega),if_neg hl]
    exact h0
  | tuple vs =>
   have h0:=hfz (.tuple vs)
   cases vs with
   | nil =>
    simp only [sh,zh9] at h0
    unfold leave
    simp only [sh,zh9,if_true]
    exact h0
   | cons w r =>
    cases w with
    | slM l i off len cap sz tight =>
     simp only [sh,zg3] at h0
     unfold leave
     simp only [sh,zg3,if_true]
     by_cases hl:l=d+1
     ·rw [if_pos (by omega),if_pos hl]
      exact handed_sh n d own ownC id i off len cap sz tight (some r)
     ·rw [if_neg (by omega),if_neg hl]
      exact h0
    | _ =>
     simp only [sh,zg3] at h0
     unfold leave
     simp only [sh,zg3,if_true]
     exact h0
  | _=>exact key _ (fun _ _ _=>rfl) (fun _ _ _=>by simp only [sh]; rfl)
 ·unfold leave
  rw [if_neg hm,if_neg hm]
  exact hfz v
theorem resI_sh {d:Nat} {out out':yLM} (ho:∀ l,l<d->out' (l+k)=(out l).map (shO k)) (st:St) (r:IRes):resI (d+k) out' (shS k st) r=(resI d out st r).map (sh k):=by
 have hg:∀ t,(shS k st).t.getD t (.tuple [])=sh k (st.t.getD t (.tuple [])):=fun t=>by
  have:=getK_sh (k:=k) st.t t
  rw [zI,zI] at this
  exact this
 cases r with
 | tmp t=>simp only [resI,hg,zf2]
 | cell agg n t =>
  simp only [resI,hg]
  cases st.t.getD t (.tuple []) <;> simp only [sh,zg2]
  rename_i l i off
  have hl:=YM (k:=k) (own:=st.own) ho l i
  show (match look (d+k) out' (st.own.map (shO k)) (l+k) i with | some (.cells c)=>(rdN c off n).bind (mkv agg) | _=>none)=_
  rw [hl]
  cases look d out st.own l i with
  | none=>rfl
  | some o =>
   cases o <;> simp only [zf2,shO,zg2]
   rename_i c
   rw [zcd]
   cases rdN c off n with
   | none=>rfl
   | some xs=>exact zez agg xs
theorem Y8 {d:Nat} {out out':yLM} (ho:∀ l,l<d->out' (l+k)=(out l).map (shO k)) (st:St) (rs:List IRes):resultI (d+k) out' (shS k st) rs=(resultI d out st rs).map (sh k):=by
 have hm:rs.mapM (resI (d+k) out' (shS k st))=(rs.mapM (resI d out st)).map (List.map (sh k)):=by
  induction rs with
  | nil=>rfl
  | cons r rs ih =>
   simp only [zhy,resI_sh ho,ih,zio,zia]
   cases resI d out st r with
   | none=>rfl
   | some v=>cases rs.mapM (resI d out st) <;> rfl
 unfold resultI
 rw [hm]
 cases rs.mapM (resI d out st) with
 | none=>rfl
 | some vs =>
  cases vs with
  | nil=>simp [sh]
  | cons v vs=>cases vs <;> simp [sh]
def TabCl (F:FuncId->Option IFn):Prop:=∀ f i,F f=some i->clIC i.body=true
def SumCl (S:ySM):Prop:=∀ k f args,S f (args.map (sh k))=(S f args).map (sh k)
theorem ze4 {k:Nat}:∀ (n lv:Nat) (own:yLO) (v:IV),freezeA n (lv+k) (own.map (shO k)) (sh k v)=freezeA n lv own v
 | 0,_,_,_=>rfl
 | n+1,lv,own,v=>by
  have hs:∀ cs:List IV,(cs.map (sh k)).mapM (freezeA n (lv+k) (own.map (shO k)))=cs.mapM (freezeA n lv own):=fun cs=>by
   induction cs with
   | nil=>rfl
   | cons c cs ih=>rw [zg3,zhy,zhy,ze4 n lv own c,ih]
  cases v with
  | slM l i off len cap sz tight =>
   simp only [sh,freezeA]
   by_cases hl:l=lv
   ·rw [if_pos hl,if_pos (by omega),zgd]
    cases own[i]? with
    | none=>rfl
    | some o =>
     cases o with
     | cells c =>
      simp only [zf2,shO]
      have hseg:seg (c.map (sh k)) off (len*sz)=(seg c off (len*sz)).map (List.map (sh k)):=Yz c off (len*sz)
      rw [hseg]
      cases seg c off (len*sz) with
      | none=>rfl
      | some s=>simp only [zf2,zge,hs]
     | _=>simp [shO]
   ·rw [if_neg hl,if_neg (by omega)]
  | slC cs len sz tight=>simp only [sh,freezeA,hs]
  | agg cs=>simp only [sh,freezeA,hs]
  | _=>simp only [sh,freezeA]
theorem freezeAs_sh {k:Nat} (n lv:Nat) (own:yLO) (cs:List IV):(cs.map (sh k)).mapM (freezeA n (lv+k) (own.map (shO k)))=cs.mapM (freezeA n lv own):=by
 induction cs with
 | nil=>rfl
 | cons c cs ih=>rw [zg3,zhy,zhy,ze4 n lv own c,ih]
theorem ze5 {α β γ:Type} {f:α->β} {g:α->Option γ} {g':β->Option γ} (h:∀ x,g' (f x)=g x) (l:List α):(l.map f).mapM g'=l.mapM g:=by
 induction l with
 | nil=>rfl
 | cons x l ih=>rw [zg3,zhy,zhy,h,ih]
section
variable {d:Nat} {out out':yLM} {ownV own:yLO} {id i:Nat}
theorem cmpQ_sh {C:Call} (hC:ShC k C) (ho:∀ l,l<d->out' (l+k)=(out l).map (shO k)) (g:FuncId) (cap:List IV) (x y:IV):cmpQ C (d+k) out' ((ownV.map (shO k)).set i .gone) ((own.map (shO k)).set i .gone) id g (cap.map (sh k)) (sh k x) (sh k y)=cmpQ C d out (ownV.set i .gone) (own.set i .gone) id g cap x y:=by
 have hm:∀ o:yLO,(o.map (shO k)).set i .gone=(o.set i .gone).map (shO k):=fun o=>by rw [List.map_set]; rfl
 have h:=hC d out out' (ownV.set i .gone) (own.set i .gone) id g (x::y::cap) ho
 simp only [zg3] at h
 unfold cmpQ
 rw [hm,hm,h]
 cases C d out (ownV.set i .gone) (own.set i .gone) id g (x::y::cap) with
 | none=>rfl
 | some q =>
  obtain ⟨e,v,o⟩:=q
  simp only [zf2,shR]
  cases e <;> simp only [shE]
  cases v <;> simp only [sh]
  rename_i kd n
  cases kd <;> rfl
theorem rowsX_sh (sz:Nat) (s:IV):rowsX (d+k) (own.map (shO k)) sz (sh k s)=(rowsX d own sz s).map fun q=>(q.1,q.2.1,q.2.2.1.map (sh k),q.2.2.2.1.map (sh k),q.2.2.2.2):=by
 cases s <;> simp only [sh,rowsX,zg2]
 rename_i l i off len cap sz' t
 by_cases hc:l=d/\sz'=sz/\len≠0/\len<=bound
 ·rw [if_pos hc,if_pos ⟨by omega,hc.2⟩,zgd]
  cases own[i]? with
  | none=>rfl
  | some o =>
   cases o with
   | cells c =>
    simp only [zf2,shO,Yz]
    cases seg c off (len*sz) with
    | none=>rfl
    | some r =>
     simp only [zf2,zge,z6]
     split <;> rfl
   | _=>rfl
 ·rw [if_neg hc,if_neg (fun h=>hc ⟨by omega,h.2⟩)]
  rfl
theorem laidX_sh (off:Nat) (c r:List IV):laidX (own.map (shO k)) i off (c.map (sh k)) (r.map (sh k))=shR k (laidX own i off c r):=by
 simp only [laidX,zc,zce,shR,shE,sh,zh9,List.map_set,shO]
theorem rowAt_sh (r:List IV) (sz j:Nat):rowAt (r.map (sh k)) sz j=(rowAt r sz j).map (sh k):=by
 unfold rowAt
 rw [List.map_take,List.map_drop]
theorem elemI_sh (kind:Nat) (r:List IV):elemI kind (r.map (sh k))=sh k (elemI kind r):=by
 unfold elemI
 split
 ·simp [sh]
 ·cases r <;> simp [sh]
theorem sh_nil {s:IV} (h:s≠.nilsl):sh k s≠.nilsl:=by cases s <;> simp [sh] at h ⊢
theorem sortX_bad {C:Call} {kind sz:Nat} {s t:IV} (h:s≠.nilsl) (ht:∀ g cap,t≠.fn g [] cap):sortX C d out ownV own id kind sz [s,t]=none:=by
 cases t with
 | fn g a cap =>
  cases a with
  | nil=>exact absurd rfl (ht g cap)
  | cons _ _=>cases s <;> first | rfl | exact absurd rfl h
 | _=>cases s <;> first | rfl | exact absurd rfl h
theorem sortX_sh {C:Call} (hC:ShC k C) (ho:∀ l,l<d->out' (l+k)=(out l).map (shO k)) (kind sz:Nat) (args:List IV):sortX C (d+k) out' (ownV.map (shO k)) (own.map (shO k)) id kind sz (args.map (sh k))=(sortX C d out ownV own id kind sz args).map (shR k):=by
 have h1:∀ s:IV,((rowsX (d+k) (own.map (shO k)) sz (sh k s)).bind fun (i,off,c,r,_)=>(r.mapM i64I).map fun zs=>laidX (own.map (shO k)) i off c ((sortZ zs).map (.int .i64)))=((rowsX d own sz s).bind fun (i,off,c,r,_)=>(r.mapM i64I).map fun zs=>laidX own i off c ((sortZ zs).map (.int .i64))).map (shR k):=fun s=>by
  rw [rowsX_sh]
  cases rowsX d own sz s with
  | none=>rfl
  | some q =>
   obtain ⟨i,off,c,r,n⟩:=q
   simp only [zf2,zge]
   rw [ze5 (g:=i64I) (fun x=>by cases x <;> simp [sh,i64I])]
   cases r.mapM i64I with
   | none=>rfl
   | some zs =>
    simp only [zf2]
    have e:((sortZ zs).map (IV.int .i64)).map (sh k)=(sortZ zs).map (IV.int .i64):=by
     rw [List.map_map]
     exact List.map_congr_left fun z _=>by simp [sh]
    rw [← laidX_sh,e]
 have h2:∀ (s:IV) (g:FuncId) (cap:List IV),((rowsX (d+k) (own.map (shO k)) sz (sh k s)).bind fun (i,off,c,r,n) =>
   (((List.range n).map fun j=>elemI kind (rowAt r sz j)).mapM fun x=>((List.range n).map fun j=>elemI kind (rowAt r sz j)).mapM fun y=>cmpQ C (d+k) out' ((ownV.map (shO k)).set i .gone) ((own.map (shO k)).set i .gone) id g (cap.map (sh k)) x y).bind fun tb =>
    if swoB n (ltT n tb)=true then some (laidX (own.map (shO k)) i off c ((pdqX (ltT n tb) n).flatMap fun j=>rowAt r sz j)) else none) =
   ((rowsX d own sz s).bind fun (i,off,c,r,n) =>
   (((List.range n).map fun j=>elemI kind (rowAt r sz j)).mapM fun x=>((List.range n).map fun j=>elemI kind (rowAt r sz j)).mapM fun y=>cmpQ C d out (ownV.set i .gone) (own.set i .gone) id g cap x y).bind fun tb =>
    if swoB n (ltT n tb)=true then some (laidX own i off c ((pdqX (ltT n tb) n).flatMap fun j=>rowAt r sz j)) else none).map (shR k):=fun s g cap=>by
  rw [rowsX_sh]
  cases rowsX d own sz s with
  | none=>rfl
  | some q =>
   obtain ⟨i,off,c,r,n⟩:=q
   simp only [zf2,zge]
   have he:((List.range n).map fun j=>elemI kind (rowAt (r.map (sh k)) sz j))=((List.range n).map fun j=>elemI kind (rowAt r sz j)).map (sh k):=by
    rw [List.map_map]
    refine List.map_congr_left fun j _=>?_
    rw [rowAt_sh,elemI_sh]; rfl
   rw [he,ze5 (g:=fun x=>((List.range n).map fun j=>elemI kind (rowAt r sz j)).mapM fun y=>cmpQ C d out (ownV.set i .gone) (own.set i .gone) id g cap x y) (fun x=>ze5 (fun y=>cmpQ_sh hC ho g cap x y) _)]
   cases (((List.range n).map fun j=>elemI kind (rowAt r sz j)).mapM fun x=>((List.range n).map fun j=>elemI kind (rowAt r sz j)).mapM fun y=>cmpQ C d out (ownV.set i .gone) (own.set i .gone) id g cap x y) with
   | none=>rfl
   | some tb =>
    simp only [zge]
    split
    ·simp only [zf2,zf5]
     rw [← laidX_sh,List.map_flatMap]
     simp only [rowAt_sh]
    ·rfl
 match args with
 | []=>rfl
 | [s] =>
  by_cases hs:s=.nilsl
  ·subst hs
   simp only [zg3,zh9,sh,sortX]
   split <;> simp [shR,shE,sh]
  ·rw [zb8 hs,zg3,zh9,zb8 (sh_nil hs)]
   split
   ·exact h1 s
   ·rfl
 | [s,t] =>
  by_cases hs:s=.nilsl
  ·subst hs
   simp only [zg3,zh9,sh,sortX]
   split <;> simp [shR,shE,sh]
  ·rw [zg3,zg3,zh9]
   by_cases ht:∃ g cap,t=.fn g [] cap
   ·obtain ⟨g,cap,rfl⟩:=ht
    rw [zb9 hs,show sh k (.fn g [] cap)=.fn g [] (cap.map (sh k)) by simp [sh],zb9 (sh_nil hs)]
    split
    ·rfl
    ·exact h2 s g cap
   ·rw [sortX_bad hs (fun g cap e=>ht ⟨g,cap,e⟩),sortX_bad (sh_nil hs) (fun g cap e=>ht (by
     cases t <;> simp only [sh] at e <;> try (cases e)
     rename_i f a b
     injection e with e1 e2 e3
     cases a with
     | nil=>exact ⟨_,_,rfl⟩
     | cons _ _=>simp at e2))]
    rfl
 | a::b::c::l=>simp [sortX]
end
theorem callN_sh {F:FuncId->Option IFn} {S:ySM} (hF:TabCl F) (hS:SumCl S):∀ n,ShC k (callN F S n)
 | 0=>fun _ _ _ _ _ _ _ _ _=>rfl
 | n+1=>fun d out out' ownV own id f args ho=>by
  have hC:=callN_sh hF hS n
  simp only [callN,hS k]
  cases S f args with
  | some v=>simp [shR,shE]
  | none =>
   simp only [zg2]
   cases hi:F f with
   | none=>rfl
   | some i =>
    simp only
    have ht:(args.map (sh k))++List.replicate (i.ntmps - args.length) (IV.tuple [])=(args++List.replicate (i.ntmps - args.length) (IV.tuple [])).map (sh k):=by simp [sh]
    rw [zgw,zc,zc,ht]
    by_cases hm:i.mode=2
    ·rw [if_pos hm,if_pos hm]
     have he:=Zd hC ho (n:=n) (hF f i hi) ⟨args++List.replicate (i.ntmps - args.length) (.tuple []),own⟩
     simp only [shS] at he
     rw [he]
     cases exec (callN F S n) d out n i.body ⟨args++List.replicate (i.ntmps - args.length) (.tuple []),own⟩ with
     | none=>rfl
     | some r =>
      obtain ⟨o,st⟩:=r
      have hr:=Y8 (k:=k) ho st i.res
      simp only [shS] at hr
      cases o <;> simp only [zf2,ended,zg2,hr] <;> cases resultI d out st i.res <;> simp [shR,shE]
    ·rw [if_neg hm,if_neg hm]
     by_cases h3:i.mode=3
     ·rw [if_pos h3,if_pos h3]
      rw [show (args.map (sh k)).mapM (freezeA 12 (d+k) (ownV.map (shO k)))=args.mapM (freezeA 12 d ownV) from freezeAs_sh 12 d ownV args]
      cases args.mapM (freezeA 12 d ownV) with
      | none=>rfl
      | some az =>
       simp only [zge]
       cases exec (callN F S n) 0 (fun _=>[]) n i.body ⟨lit (az++List.replicate (i.ntmps - az.length) (.tuple [])),[]⟩ with
       | none=>rfl
       | some r =>
        obtain ⟨o,st⟩:=r
        cases o <;> simp only [ended,zg2] <;> cases resultI 0 (fun _=>[]) st i.res with
        | none=>rfl
        | some w=>cases w <;> simp [scalarR,shR,shE,sh]
     rw [if_neg h3,if_neg h3]
     by_cases h4:4<=i.mode
     ·rw [if_pos h4,if_pos h4]
      exact sortX_sh hC ho _ _ _
     rw [if_neg h4,if_neg h4]
     have ho2:∀ l,l<d+1->(fun l=>if l=d+k then ownV.map (shO k) else out' l) (l+k)=((fun l=>if l=d then ownV else out l) l).map (shO k):=fun l hl=>by
      by_cases h:l=d
      ·simp [h]
      ·have h2:l<d:=by omega
       simp only [if_neg h,if_neg (show ¬ (l+k=d+k) by omega),ho l h2]
     have hd:d+k+1=d+1+k:=by omega
     have he:=Zd (d:=d+1) (out:=fun l=>if l=d then ownV else out l) (out':=fun l=>if l=d+k then ownV.map (shO k) else out' l) hC ho2 (n:=n) (hF f i hi) ⟨args++List.replicate (i.ntmps - args.length) (.tuple []),[]⟩
     simp only [shS,zh9] at he
     rw [hd,he]
     cases exec (callN F S n) (d+1) (fun l=>if l=d then ownV else out l) n i.body ⟨args++List.replicate (i.ntmps - args.length) (.tuple []),[]⟩ with
     | none=>rfl
     | some r =>
      obtain ⟨o,st⟩:=r
      have hr:=Y8 (k:=k) (d:=d+1) (out:=fun l=>if l=d then ownV else out l) (out':=fun l=>if l=d+k then ownV.map (shO k) else out' l) ho2 st i.res
      simp only [shS] at hr
      have hlv:∀ v,leave n (d+k) (st.own.map (shO k)) (own.map (shO k)) id i.mode (sh k v)=(leave n d st.own own id i.mode v).map (shR k):=leave_sh n d st.own own id i.mode
      cases o <;> simp only [zf2,ended,zg2,hr] <;> cases resultI (d+1) (fun l=>if l=d then ownV else out l) st i.res <;> simp [hlv]
end
end
section
def LeC (C C':Call):Prop:=∀ d out ownV own id f args r,C d out ownV own id f args=some r->C' d out ownV own id f args=some r
section
variable {C C':Call} {d n0:Nat} {out:yLM} {own ownV:yLO} {t:List IV}
theorem evOp_le (hC:LeC C C') {op:IOp} {r:Eff × IV × yLO} (h:evOp C d out n0 ownV own t op=some r):evOp C' d out n0 ownV own t op=some r:=by
 cases op <;> first | exact h | skip
 rename_i f az slot
 simp only [evOp,e_call] at h ⊢
 cases hf:ρ t f <;> rw [hf] at h <;> simp only at h ⊢ <;> first | exact h | exact hC _ _ _ _ _ _ _ _ h
theorem stepR_le (hC:LeC C C') {dr:Bool} {o:IOpR} {st:St} {r:Eff × St} (h:stepR C d out dr n0 o st=some r):stepR C' d out dr n0 o st=some r:=by
 unfold stepR at h ⊢
 split
 ·rename_i hw
  rw [if_pos hw] at h
  cases he:evOp C d out n0 (if dr=true then hide o.vis n0 st.own else st.own) st.own st.t o.op with
  | none=>rw [he] at h; simp at h
  | some x =>
   rw [he] at h
   rw [evOp_le hC he]
   exact h
 ·rename_i hw
  rw [if_neg hw] at h
  exact h
theorem runR_le (hC:LeC C C') {dr:Bool}:∀ {ops:List IOpR} {st:St} {r:List Eff × St},runR C d out dr n0 ops st=some r->runR C' d out dr n0 ops st=some r
 | [],_,_,h=>h
 | o::ops,st,r,h=>by
  simp only [runR] at h ⊢
  cases he:stepR C d out dr n0 o st with
  | none=>rw [he] at h; simp at h
  | some x =>
   rw [he] at h
   rw [stepR_le hC he]
   simp only at h ⊢
   cases hr:runR C d out dr n0 ops x.2 with
   | none=>rw [hr] at h; simp at h
   | some y =>
    rw [hr] at h
    rw [runR_le hC hr]
    exact h
theorem iter_le {f f':St->Option (Out × St)} (hf:∀ st r,f st=some r->f' st=some r):∀ {n n':Nat} {st:St} {r:Out × St},n<=n'->iter f n st=some r->iter f' n' st=some r
 | 0,_,_,_,_,h=>by simp [iter] at h
 | n+1,n',st,r,hn,h=>by
  obtain ⟨n',rfl⟩:∃ q,n'=q+1:=⟨n' - 1,by omega⟩
  simp only [iter] at h ⊢
  cases he:f st with
  | none=>rw [he] at h; simp at h
  | some x =>
   rw [he] at h
   rw [hf _ _ he]
   obtain ⟨o,st1⟩:=x
   cases o <;> simp only at h ⊢
   ·exact iter_le hf (by omega) h
   ·exact h
   ·exact h
theorem yZ (hC:LeC C C') {n n':Nat} (hn:n<=n'):∀ {c:IC} {st:St} {r:Out × St},exec C d out n c st=some r->exec C' d out n' c st=some r
 | .skip,_,_,h=>h
 | .ret,_,_,h=>h
 | .exit _,_,_,h=>h
 | .seq a b,st,r,h=>by
  simp only [exec] at h ⊢
  unfold seqX at h ⊢
  cases he:exec C d out n a st with
  | none=>rw [he] at h; simp at h
  | some x =>
   rw [he] at h
   rw [yZ hC hn he]
   obtain ⟨o,st1⟩:=x
   cases o <;> simp only at h ⊢
   ·exact yZ hC hn h
   ·exact h
   ·exact h
 | .cond x a b,st,r,h=>by
  simp only [exec] at h ⊢
  unfold condX at h ⊢
  split at h
  ·exact yZ hC hn h
  ·exact yZ hC hn h
  ·simp at h
 | .block id a,st,r,h=>by
  simp only [exec] at h ⊢
  unfold blockX at h ⊢
  cases he:exec C d out n a st with
  | none=>rw [he] at h; simp at h
  | some x =>
   rw [he] at h
   rw [yZ hC hn he]
   exact h
 | .loop a,st,r,h=>by
  simp only [exec] at h ⊢
  exact iter_le (fun st r h=>yZ hC hn h) hn h
 | .region dr s ops fr,st,r,h=>by
  simp only [exec,regionX] at h ⊢
  cases he:runR C d out dr st.own.length ops ⟨st.t,lit (st.own++List.replicate s .free)⟩ with
  | none=>rw [he] at h; simp at h
  | some x =>
   rw [he] at h
   rw [runR_le hC he]
   exact h
end
theorem mapM_le {f f':IV->Option IV} (h:∀ c r,f c=some r->f' c=some r):∀ {cs rs:List IV},cs.mapM f=some rs->cs.mapM f'=some rs
 | [],_,hr=>hr
 | c::cs,rs,hr=>by
  simp only [zhy,zio,zia] at hr ⊢
  cases hc:f c with
  | none=>rw [hc] at hr; simp at hr
  | some v =>
   rw [hc] at hr
   rw [h _ _ hc]
   simp only [zge] at hr ⊢
   cases hm:cs.mapM f with
   | none=>rw [hm] at hr; simp at hr
   | some vs =>
    rw [hm] at hr
    rw [mapM_le h hm]
    exact hr
theorem YN:∀ {n n' lv:Nat} {own:yLO} {v r:IV},n<=n'->freeze n lv own v=some r->freeze n' lv own v=some r
 | 0,_,_,_,_,_,_,h=>by simp [freeze] at h
 | n+1,n',lv,own,v,r,hn,h=>by
  obtain ⟨n',rfl⟩:∃ q,n'=q+1:=⟨n' - 1,by omega⟩
  have hm:∀ {cs rs:List IV},cs.mapM (freeze n lv own)=some rs->cs.mapM (freeze n' lv own)=some rs:=fun h=>mapM_le (fun c r hc=>YN (by omega) hc) h
  have h1:∀ {cs:List IV} {F:List IV->IV} ,(cs.mapM (freeze n lv own)).map F=some r->(cs.mapM (freeze n' lv own)).map F=some r:=fun {cs F} h=>by
   cases hc:cs.mapM (freeze n lv own) with
   | none=>rw [hc] at h; simp at h
   | some x=>rw [hc] at h; rw [hm hc]; exact h
  cases v <;> simp only [freeze] at h ⊢ <;> first | exact h | exact h1 h | skip
  ·split
   ·rename_i hl
    rw [if_pos hl] at h
    split at h
    ·exact h1 h
    ·simp at h
   ·rename_i hl
    rw [if_neg hl] at h
    exact h
  ·rename_i l i off len cap sz tight
   split
   ·rename_i hl
    rw [if_pos hl] at h
    split at h
    ·rename_i c _
     cases hs:seg c off (len*sz) with
     | none=>rw [hs] at h; simp at h
     | some s =>
      rw [hs] at h
      simp only [zge] at h ⊢
      exact h1 h
    ·simp at h
   ·rename_i hl
    rw [if_neg hl] at h
    exact h
  ·split
   ·rename_i hl
    rw [if_pos hl] at h
    split at h
    ·rename_i ks vs bs ck _
     cases ha:ks.mapM (freeze n lv own) with
     | none=>rw [ha] at h; simp at h
     | some a =>
      cases hb:vs.mapM (freeze n lv own) with
      | none=>rw [ha,hb] at h; simp at h
      | some b=>rw [ha,hb] at h; rw [hm ha,hm hb]; exact h
    ·simp at h
   ·rename_i hl
    rw [if_neg hl] at h
    exact h
  ·rename_i ks vs
   cases ha:ks.mapM (freeze n lv own) with
   | none=>rw [ha] at h; simp at h
   | some a =>
    cases hb:vs.mapM (freeze n lv own) with
    | none=>rw [ha,hb] at h; simp at h
    | some b=>rw [ha,hb] at h; rw [hm ha,hm hb]; exact h
  ·rename_i f x y
   cases ha:x.mapM (freeze n lv own) with
   | none=>rw [ha] at h; simp at h
   | some a =>
    cases hb:y.mapM (freeze n lv own) with
    | none=>rw [ha,hb] at h; simp at h
    | some b=>rw [ha,hb] at h; rw [hm ha,hm hb]; exact h
theorem mapMf_le {n n' lv:Nat} {own:yLO} {cs rs:List IV} (hn:n<=n') (h:cs.mapM (freeze n lv own)=some rs):cs.mapM (freeze n' lv own)=some rs:=mapM_le (fun c r hc=>YN hn hc) h
theorem handed_le {n n' d:Nat} {own ownC:yLO} {id i off len cap sz:Nat} {tight:Bool} {rest:Option (List IV)} {r:Eff × IV × yLO} (hn:n<=n') (h:handed n d own ownC id i off len cap sz tight rest=some r):handed n' d own ownC id i off len cap sz tight rest=some r:=by
 unfold handed at h ⊢
 cases ho:own[i]? with
 | none=>rw [ho] at h; simp at h
 | some o =>
  rw [ho] at h
  cases o <;> simp only at h ⊢ <;> try (exact absurd h (by simp))
  rename_i c
  cases hs:seg c off (cap*sz) with
  | none=>rw [hs] at h; simp at h
  | some s =>
   rw [hs] at h
   simp only at h ⊢
   cases hc:s.mapM (freeze n (d+1) (own.set i .gone)) with
   | none=>rw [hc] at h; simp at h
   | some c' =>
    rw [hc] at h
    rw [mapMf_le hn hc]
    cases rest with
    | none=>exact h
    | some q =>
     simp only at h ⊢
     cases hq:q.mapM (freeze n (d+1) (own.set i .gone)) with
     | none=>rw [hq] at h; simp at h
     | some q' =>
      rw [hq] at h
      rw [mapMf_le hn hq]
      exact h
theorem leave_le {n n' d:Nat} {own ownC:yLO} {id mode:Nat} {v:IV} {r:Eff × IV × yLO} (hn:n<=n') (h:leave n d own ownC id mode v=some r):leave n' d own ownC id mode v=some r:=by
 unfold leave at h ⊢
 split
 ·rename_i hx
  rw [hx] at h
  exact handed_le hn h
 ·rename_i hx
  rw [hx] at h
  simp only at h
  cases hf:freeze n (d+1) own v with
  | none=>rw [hf] at h; simp at h
  | some w =>
   rw [hf] at h
   rw [YN hn hf]
   exact h
theorem ze6 {α β:Type} {f g:α->Option β} (h:∀ x y,f x=some y->g x=some y):∀ {l:List α} {r:List β},l.mapM f=some r->l.mapM g=some r
 | [],r,hl=>hl
 | x::l,r,hl=>by
  rw [zhy] at hl ⊢
  cases hx:f x with
  | none=>rw [hx] at hl; simp at hl
  | some y =>
   rw [hx] at hl
   rw [h x y hx]
   cases hm:l.mapM f with
   | none=>rw [hm] at hl; simp at hl
   | some r2 =>
    rw [hm] at hl
    rw [ze6 h hm]
    exact hl
theorem sortX_le {C C':Call} (hC:LeC C C') {d:Nat} {out:yLM} {ownV own:yLO} {id kind sz:Nat} {args:List IV} {r:Eff × IV × yLO} (h:sortX C d out ownV own id kind sz args=some r):sortX C' d out ownV own id kind sz args=some r:=by
 unfold sortX at h ⊢
 split at h
 ·exact h
 ·exact h
 ·exact h
 ·split at h
  ·cases h
  ·rename_i hk
   rw [if_neg hk]
   obtain ⟨⟨i,off,c,l,n⟩,h1,h2⟩:=Option.bind_eq_some_iff.1 h
   obtain ⟨tb,h3,h4⟩:=Option.bind_eq_some_iff.1 h2
   rw [h1,zge]
   simp only
   rw [ze6 (fun x y hxy=>ze6 (fun a b hab=>by
    unfold cmpQ at hab ⊢
    cases hc:C d out (ownV.set i .gone) (own.set i .gone) id _ (x::a::_) with
    | none=>rw [hc] at hab; simp at hab
    | some q=>rw [hC _ _ _ _ _ _ _ _ hc]; rw [hc] at hab; exact hab) hxy) h3]
   exact h4
 ·cases h
theorem callN_le {F:FuncId->Option IFn} {S:ySM}:∀ {n n':Nat},n<=n'->LeC (callN F S n) (callN F S n')
 | 0,_,_=>fun d out ownV own id f args r h=>by simp [callN] at h
 | n+1,n',hn=>fun d out ownV own id f args r h=>by
  obtain ⟨n',rfl⟩:∃ q,n'=q+1:=⟨n' - 1,by omega⟩
  have hC:LeC (callN F S n) (callN F S n'):=callN_le (by omega)
  have hn2:n<=n':=by omega
  simp only [callN] at h ⊢
  cases hs:S f args with
  | some v=>rw [hs] at h; exact h
  | none =>
   rw [hs] at h
   simp only at h ⊢
   cases hi:F f with
   | none=>rw [hi] at h; simp at h
   | some i =>
    rw [hi] at h
    simp only at h ⊢
    by_cases hm:i.mode=2
    ·rw [if_pos hm] at h ⊢
     cases he:exec (callN F S n) d out n i.body ⟨lit (args++List.replicate (i.ntmps - args.length) (.tuple [])),own⟩ with
     | none=>rw [he] at h; simp [ended] at h
     | some x =>
      rw [he] at h
      rw [yZ hC hn2 he]
      exact h
    ·rw [if_neg hm] at h ⊢
     by_cases h3:i.mode=3
     ·rw [if_pos h3] at h ⊢
      cases has:args.mapM (freezeA 12 d ownV) with
      | none=>rw [has] at h; simp at h
      | some az =>
       rw [has] at h
       simp only [zge] at h ⊢
       cases he:exec (callN F S n) 0 (fun _=>[]) n i.body ⟨lit (az++List.replicate (i.ntmps - az.length) (.tuple [])),[]⟩ with
       | none=>rw [he] at h; simp [ended] at h
       | some x =>
        rw [he] at h
        rw [yZ hC hn2 he]
        exact h
     rw [if_neg h3] at h ⊢
     by_cases h4:4<=i.mode
     ·rw [if_pos h4] at h ⊢
      exact sortX_le hC h
     rw [if_neg h4] at h ⊢
     cases he:exec (callN F S n) (d+1) (fun l=>if l=d then ownV else out l) n i.body ⟨lit (args++List.replicate (i.ntmps - args.length) (.tuple [])),[]⟩ with
     | none=>rw [he] at h; simp [ended] at h
     | some x =>
      rw [he] at h
      rw [yZ hC hn2 he]
      obtain ⟨o,st⟩:=x
      cases o <;> simp only [ended] at h ⊢ <;> try (exact absurd h (by simp))
      ·cases hr:resultI (d+1) (fun l=>if l=d then ownV else out l) st i.res with
       | none=>rw [hr] at h; simp at h
       | some v =>
        rw [hr] at h
        exact leave_le hn2 h
      ·cases hr:resultI (d+1) (fun l=>if l=d then ownV else out l) st i.res with
       | none=>rw [hr] at h; simp at h
       | some v =>
        rw [hr] at h
        exact leave_le hn2 h
theorem clF_of_sh {k:Nat}:∀ {n:Nat} {v:IV},clF n (sh k v)=true->sh k v=v
 | 0,v,h=>by simp [clF] at h
 | n+1,v,h=>by
  have ih:∀ {cs:List IV},(cs.map (sh k)).all (clF n)=true->cs.map (sh k)=cs:=fun h=>ze0 fun c hc=>clF_of_sh (zhg.1 h (sh k c) (List.mem_map_of_mem hc))
  cases v <;> simp only [sh,clF,zf6,zgk] at h <;> simp only [sh] <;> first | rfl | (rw [ih h]) | (rw [ih h.1,ih h.2])
theorem YO {F:FuncId->Option IFn} {S:ySM} (hF:TabCl F) (hS:SumCl S) {n d0:Nat} {out0:yLM} {ownV0 own0 own1:yLO} {id0:Nat} {f:FuncId} {args:List IV} {e:Eff} {v:IV} {i:IFn} (hSf:S f args=none) (hi:F f=some i) (hm:i.mode=0) (ha:∀ k,args.map (sh k)=args) (hv:clI v=true)
  (h:callN F S n d0 out0 ownV0 own0 id0 f args=some (e,v,own1)):∀ m,n<=m->∀ d out ownV own id,callN F S m d out ownV own id f args=some (.r,v,own):=by
 intro m hnm d out ownV own id
 obtain ⟨n,rfl⟩:∃ q,n=q+1:=by
  cases n with
  | zero=>simp [callN] at h
  | succ n=>exact ⟨n,rfl⟩
 obtain ⟨m,rfl⟩:∃ q,m=q+1:=⟨m - 1,by omega⟩
 have hm2:¬ i.mode=2:=by omega
 have hm3:¬ i.mode=3:=by omega
 have hm4:¬ 4<=i.mode:=by omega
 have hb:∀ (D:Nat) (o2:yLM) (q:Nat),exec (callN F S q) D o2 q i.body ⟨args++List.replicate (i.ntmps - args.length) (.tuple []),[]⟩=(exec (callN F S q) 0 (fun _=>[]) q i.body ⟨args++List.replicate (i.ntmps - args.length) (.tuple []),[]⟩).map fun r=>(r.1,shS D r.2):=fun D o2 q=>by
  have he:=Zd (k:=D) (d:=0) (out:=fun _=>[]) (out':=o2) (callN_sh hF hS q) (fun l hl=>absurd hl (Nat.not_lt_zero _)) (n:=q) (hF f i hi) ⟨args++List.replicate (i.ntmps - args.length) (.tuple []),[]⟩
  have ht:shS D ⟨args++List.replicate (i.ntmps - args.length) (.tuple []),[]⟩=⟨args++List.replicate (i.ntmps - args.length) (.tuple []),[]⟩:=by
   simp only [shS,zir,ha D,zh9,List.map_replicate]
   simp [sh]
  rw [ht,zg5] at he
  exact he
 have hrs:∀ (D:Nat) (o2:yLM) (st:St),resultI D o2 (shS D st) i.res=(resultI 0 (fun _=>[]) st i.res).map (sh D):=fun D o2 st=>by
  have:=Y8 (k:=D) (d:=0) (out:=fun _=>[]) (out':=o2) (fun l hl=>absurd hl (Nat.not_lt_zero _)) st i.res
  rw [zg5] at this
  exact this
 simp only [callN,hSf,hi,if_neg hm2,if_neg hm3,if_neg hm4,zc,hm] at h ⊢
 rw [hb] at h ⊢
 cases he:exec (callN F S n) 0 (fun _=>[]) n i.body ⟨args++List.replicate (i.ntmps - args.length) (.tuple []),[]⟩ with
 | none=>rw [he] at h; simp [ended] at h
 | some x =>
  rw [he] at h
  rw [yZ (callN_le (by omega)) (by omega:n<=m) he]
  obtain ⟨o,st⟩:=x
  have hlv:∀ (q D:Nat) (oC:yLO) (w:IV),leave q D (st.own.map (shO (D+1))) oC id 0 (sh (D+1) w)=((freeze q 0 st.own w).map (sh (D+1))).map fun v'=>(Eff.r,v',oC):=fun q D oC w=>by
   have:=ZU (k:=D+1) q 0 st.own w
   rw [zg5] at this
   unfold leave
   simp only [show ¬ (0=1) by decide,if_false]
   rw [this]
  have fin:∀ (o:Out),(o=.normal∨o=.ret)->((resultI (d0+1) (fun l=>if l=d0 then ownV0 else out0 l) (shS (d0+1) st) i.res).bind fun v=>leave n d0 (shS (d0+1) st).own own0 id0 0 v)=some (e,v,own1)->((resultI (d+1) (fun l=>if l=d then ownV else out l) (shS (d+1) st) i.res).bind fun v=>leave m d (shS (d+1) st).own own id 0 v)=some (.r,v,own):=fun o _ h=>by
   rw [hrs] at h ⊢
   cases hw:resultI 0 (fun _=>[]) st i.res with
   | none=>rw [hw] at h; simp at h
   | some w =>
    rw [hw] at h
    simp only [zf2,zge,shS] at h ⊢
    have h0:leave n d0 (st.own.map (shO (d0+1))) own0 id0 0 (sh (d0+1) w)=((freeze n 0 st.own w).map (sh (d0+1))).map fun v'=>(Eff.r,v',own0):=by
     have:=ZU (k:=d0+1) n 0 st.own w
     rw [zg5] at this
     unfold leave
     simp only [show ¬ (0=1) by decide,if_false]
     rw [this]
    rw [h0] at h
    rw [hlv]
    cases hfz:freeze n 0 st.own w with
    | none=>rw [hfz] at h; simp at h
    | some u =>
     rw [hfz] at h
     simp only [zf2,zf5,zic] at h
     obtain ⟨_,rfl,_⟩:=h
     have hu:=clF_of_sh hv
     rw [YN (by omega:n<=m) hfz]
     rw [hu] at hv ⊢
     simp only [zf2]
     rw [ze1 hv]
  cases o <;> simp only [zf2,ended] at h ⊢
  ·exact fin .normal (.inl rfl) h
  ·simp at h
  ·exact fin .ret (.inr rfl) h
end
section
section
variable {S:ySM}
def PlanarV (p:Pn) (v:Bool):Prop:=bif p.az.l.any (badA p) then v=false else (spsL p=[]/\v=true)∨∃ (L:List (Int × Pt)) (l:List Sg),(∀ id,lkP L id=lastP p.ns.l id)/\(l.map Sg.sp).Perm (spsL p)/\Srt (fun s u=>cmpI s.w u.w) l 0 l.length/\PlRes p L l v
theorem orders_w:Orders (fun (s u:Sg)=>cmpI s.w u.w):=by
 have h:∀ x y:Int,cmpI x y<0↔x<y:=fun x y=>by
  unfold cmpI
  split
  ·simp [*]
  ·split <;> simp [*]
 constructor
 ·intro x y
  simp only [up,h]
  omega
 ·intro x y z
  simp only [up,h]
  omega
theorem planar_run (hS:NoS S) (p:Pn) (hv:∀ a∈p.az.l,a.via.l.length<=64) (ha:p.az.l.length<=600):∃ N,∀ m,N<=m->∀ d out ownV own id,∃ v:Bool,PlanarV p v/\callN Ftab S m d out ownV own id 66 [.agg p.c]=some (.r,.bool v,own):=by
 obtain ⟨Ns,hNs⟩:=at_segs hS p hv (by omega)
 refine ⟨Ns+200000+p.ns.l.length,fun m hm d out ownV own id=>?_⟩
 obtain ⟨m,rfl⟩:∃ q,m=q+2:=⟨m - 2,by omega⟩
 have main:∃ r,callN Ftab S (m+1+1) d out ownV own id 66 [.agg p.c]=some r/\∃ v:Bool,PlanarV p v/\r=(Eff.r,.bool v,own):=by
  refine Yy (i:=i66) (ns hS (by rfl)) rfl (by decide) (lb rfl) fun t hfr=>?_
  simp only [V2,Xb,i66,Pn.c] at hfr
  generalize (fun l=>if l=d then ownV else out l:yLM)=out2
  have hlv:∀ (o:yLO) (v:Bool),leave (m+1) d o own id 0 (.bool v)=some (.r,.bool v,own):=fun o v=>by simp [leave,freeze]
  have fin:∀ v t' O',PlanarV p v->Slots 117 t' [(2,.bool v)]->(Out.ret=.normal∨Out.ret=.ret)/\∃ w r,resultI (d+1) out2 ⟨t',O'⟩ i66.res=some w/\leave (m+1) d O' own id i66.mode w=some r/\∃ v:Bool,PlanarV p v/\r=(Eff.r,.bool v,own):=fun v t' O' hpv ht=>by
   simp only [ze,zg] at ht
   refine ⟨.inr rfl,.bool v,_,?_,hlv _ _,v,hpv,rfl⟩
   simp only [i66,V0,sevalprocAttr,ht]
  suffices hsuf:∀ K:yKM,(∀ v t' O',PlanarV p v->Slots 117 t' [(2,.bool v)]->K .ret ⟨t',O'⟩)->Ex (callN Ftab S (m+1)) (d+1) out2 (m+1) i66.body K ⟨t,[]⟩ from hsuf _ fin
  clear fin
  intro K fin
  have hM:=fun {D:Nat} (l:List Sg) L bs ck=>@pl_main S hS p l L bs ck (m+1) D out2
  have hN:=fun {D:Nat}=>@pl_nil S (m+1) D out2 (by omega)
  have hU:=fun {D:Nat}=>@pl_map S p (m+1) D out2 (by omega)
  rw [show i66.body=.seq (i66.body.sub [0]) (.seq (i66.body.sub [1,0]) (.seq (i66.body.sub [1,1,0]) (.seq (i66.body.sub [1,1,1,0]) (.seq (i66.body.sub [1,1,1,1,0]) (.seq (i66.body.sub [1,1,1,1,1,0]) (i66.body.sub [1,1,1,1,1,1])))))) from rfl]
  generalize i66.body.sub [1,1,1,1,1,1]=T at hM hN ⊢
  generalize i66.body.sub [1,1,1,1,0]=U at hU ⊢
  have hmap0:∀ (x y:IObj),([x,y,IObj.map [] [] [] 0]:yLO)=x::y::.map (ptKs []) (ptVs []) [] 0::[]:=fun _ _=>rfl
  obtain ⟨r,hr1,hr2⟩:=hNs (m+1) (by omega) (d+1) out2 [.cells [p.ns.v,p.az.v,p.fs.v],.free] [.cells [p.ns.v,p.az.v,p.fs.v],.free] 1 rfl
  simp only [Pn.c] at hr1
  rcases hr2 with ⟨b,rfl,hbad,hsp⟩ | ⟨l,hne,hll,⟨hbad,hsp⟩,rfl⟩
  ·cases b with
   | false =>
    simp only [i66,IC.sub,V0,sevalprocAttr,hfr,hr1]
    exact fin false _ _ (by unfold PlanarV; rw [hbad]; rfl) (by simp only [V0,sevalprocAttr,hfr,hr1])
   | true =>
    simp only [i66,IC.sub,V0,sevalprocAttr,hfr,hr1]
    refine hU _ _ [] [] 0 [] .nilsl (fun id=>rfl) (by simp only [V0,sevalprocAttr,hfr,hr1]) fun t' L' bs' ck' O' hlk ht=>?_
    simp only [ze,zg] at ht
    obtain ⟨J',hs⟩:=usort_nil (d:=d+1) (out:=out2) (ownV:=.cells [p.ns.v,p.az.v,p.fs.v]::.free::.map (ptKs L') (ptVs L') bs' ck'::(O'++[.free])) (own:=.cells [p.ns.v,p.az.v,p.fs.v]::.free::.map (ptKs L') (ptVs L') bs' ck'::(O'++[.free])) (fv:=.fn 105 [] []) hS (m:=m+1) (by omega)
    simp only [V0,sevalprocAttr,ht,hs]
    exact hN _ _ (by simp only [V0,sevalprocAttr,ht]) fun t' O' h=>fin true t' O' (by unfold PlanarV; rw [hbad]; exact .inl ⟨hsp rfl,rfl⟩) h
  ·simp only [zim,List.set_cons_zero] at hr1
   simp only [i66,IC.sub,V0,sevalprocAttr,hfr,hr1]
   refine hU _ _ [] [] 0 [] (.slM (d+1) 1 0 l.length l.length 2 false) (fun id=>rfl) (by simp only [V0,sevalprocAttr,hfr,hr1]) fun t' L' bs' ck' O' hlk ht=>?_
   simp only [ze,zg] at ht
   have hb:1<(IObj.cells [p.ns.v,p.az.v,p.fs.v]::.cells (l.flatMap Sg.g)::.map (ptKs L') (ptVs L') bs' ck'::(O'++[.free])).length:=by simp
   have hcmp:CmpOK S (8) (d+1) out2 (IObj.cells [p.ns.v,p.az.v,p.fs.v]::.cells (l.flatMap Sg.g)::.map (ptKs L') (ptVs L') bs' ck'::(O'++[.free])) 1 Sg.e 105 [] (fun s u=>cmpI s.w u.w):=fun m hm=>planar_cmp hS m (by omega)
   obtain ⟨l2,hs,hp,hsr⟩:=u_sortS (d:=d+1) (out:=out2) (cp:=l.length) (tg:=false) orders_w hS hb sg_elt hcmp (n:=l.length) (by omega) (fun h=>hne (List.eq_nil_of_length_eq_zero h)) (m+1) (Nc:=8) (by omega) (IObj.cells [p.ns.v,p.az.v,p.fs.v]::.cells (l.flatMap Sg.g)::.map (ptKs L') (ptVs L') bs' ck'::(O'++[.free])) l [] (fun _ _ _=>rfl) rfl
   have hl2:l2.length=l.length:=hp.length_eq
   simp only [Bk,zim,List.set_cons_zero,zgq,zgu,zhc,zgz] at hs
   simp only [V0,sevalprocAttr,ht,hs]
   refine hM (D:=d+1) l2 L' bs' ck' (by omega) (by omega) _ [.cells [p.ns.v,p.az.v,p.fs.v],.cells (l2.flatMap Sg.g),.map (ptKs L') (ptVs L') bs' ck'] (O'++[IObj.free]) rfl rfl rfl ?_ fun v t' O' hres h=>fin v t' O' (by
    unfold PlanarV
    rw [hbad]
    exact .inr ⟨L',l2,hlk,by rw [← hsp]; exact hp.map _,by rw [hl2]; exact hsr,hres⟩) h
   rw [hl2]
   simp only [V0,sevalprocAttr,ht]
 obtain ⟨r,h1,v,hpv,rfl⟩:=main
 exact ⟨v,hpv,h1⟩
end
end
section
theorem zdk {k sz:Nat} {α:Type} {g:α->List IV} (hg:∀ x,(g x).map (sh k)=g x) (q:SlOf sz g):sh k q.v=q.v:=by
 have hh:∀ (cs:List IV) (n:Nat) (v:IV),Sl sz cs n v->cs.map (sh k)=cs->sh k v=v:=fun cs n v h hc=>by
  cases h with
  | nil=>simp [sh]
  | row cs n tight hl=>simp only [sh,hc]
 refine hh _ _ _ q.ok ?_
 rw [List.map_flatMap]
 congr 1
 funext x
 exact hg x
theorem pt_sh {k:Nat} (x:Pt):x.c.map (sh k)=x.c:=by simp [Pt.c,zf,sh]
theorem nd_sh {k:Nat} (x:Nd):x.c.map (sh k)=x.c:=by simp [Nd.c,zf,sh]
theorem ac_sh {k:Nat} (x:Ac):x.c.map (sh k)=x.c:=by
 have:=zdk (k:=k) pt_sh x.via
 simp [Ac.c,zf,sh,this]
theorem in_sh {k:Nat} (x:Int):(intc x).map (sh k)=intc x:=by simp [intc,zf,sh]
theorem pn_sh {k:Nat} (p:Pn):sh k (.agg p.c)=.agg p.c:=by
 have h1:=zdk (k:=k) nd_sh p.ns
 have h2:=zdk (k:=k) ac_sh p.az
 have h3:=zdk (k:=k) in_sh p.fs
 simp [Pn.c,sh,h1,h2,h3]
section
variable {S:ySM}
theorem planar_gives (hT:TabCl Ftab) (hSc:SumCl S) (hS:NoS S) (p:Pn) (hv:∀ a∈p.az.l,a.via.l.length<=64) (ha:p.az.l.length<=600):∃ (v:Bool) (N:Nat),PlanarV p v/\GivesN S N 66 [.agg p.c] (.bool v):=by
 obtain ⟨N,hN⟩:=planar_run hS p hv ha
 obtain ⟨v,hpv,h1⟩:=hN N (zf7 _) 0 (fun _=>[]) [] [] 0
 refine ⟨v,N,hpv,YO hT hSc (ns hS (by rfl)) rfl rfl (fun k=>?_) rfl h1⟩
 rw [zg3,pn_sh]
 rfl
def limI (p:Pn):Bool:=decide ((256:Int)<(p.ns.l.length:Int))||(decide ((256:Int)<(p.az.l.length:Int))||decide ((64:Int)<(p.fs.l.length:Int)))
def limV (p:Pn):Bool:=p.az.l.any fun a=>decide ((64:Int)<(a.via.l.length:Int))
def ordB (p:Pn):Bool:=ascL (p.ns.l.map Nd.id)&&(ascL (p.az.l.map Ac.id)&&ascL p.fs.l)
def rngB (p:Pn):Bool:=!((p.ns.l.map Nd.id).any badId)&&(!((p.az.l.map Ac.id).any badId)&&(!(p.fs.l.any badId)&&placedB p))
def planE (p:Pn) (v:Bool):Int:=bif limI p||limV p then 3 else bif !ordB p then 10 else bif !rngB p then 2 else bif connE p (p.ns.l.map Nd.id)==0 then (bif v then 0 else 11) else connE p (p.ns.l.map Nd.id)
theorem ze7 (hT:TabCl Ftab) (hSc:SumCl S) (hS:NoS S) (hSp:∀ args,S 36 args=none) (p:Pn) (h1:p.ns.l.length<=1000000) (h2:p.az.l.length<=1000000) (h3:∀ a∈p.az.l,a.via.l.length<=1000000):∃ (v:Bool) (N:Nat),(limI p=false->limV p=false->PlanarV p v)/\GivesN S N 36 [.agg p.c] (.int .i64 (planE p v)):=by
 have hpl:∃ (v:Bool) (N:Nat),(limI p=false->limV p=false->PlanarV p v)/\(limI p=false->limV p=false->GivesN S N 66 [.agg p.c] (.bool v)):=by
  by_cases hb:limI p=false/\limV p=false
  ·obtain ⟨h4,h5⟩:=hb
   simp only [limI,zhz,decide_eq_false_iff_not] at h4
   have h6:∀ a∈p.az.l,a.via.l.length<=64:=fun a ha=>by
    have:=zhv.1 h5 a ha
    simp only [decide_eq_true_eq] at this
    omega
   obtain ⟨v,N,hv,h⟩:=planar_gives hT hSc hS p h6 (by omega)
   exact ⟨v,N,fun _ _=>hv,fun _ _=>h⟩
  ·exact ⟨false,0,fun h4 h5=>absurd ⟨h4,h5⟩ hb,fun h4 h5=>absurd ⟨h4,h5⟩ hb⟩
 obtain ⟨v,Np,hpv,hp⟩:=hpl
 refine ⟨v,Np+p.ns.l.length+p.az.l.length+p.fs.l.length+1000100+1,hpv,?_⟩
 refine zh (i:=i36) (hSp _) rfl rfl (lb rfl) (Np+p.ns.l.length+p.az.l.length+p.fs.l.length+1000100) (by omega) zo fun m hm d out t hfr=>?_
 simp only [V2,Xb,i36,Pn.c] at hfr
 have haf:=p.az.few
 cases hl:limI p
 ·simp only [limI,zhz] at hl
  obtain ⟨l1,l2,l3⟩:=hl
  have hl:limI p=false:=by simp only [limI,l1,l2,l3,Bool.or_self]
  simp only [i36,V0,sevalprocAttr,hfr,gt_iff_lt,l1,l2,l3]
  refine zd (fun jj st=>∃ (i:Nat) (O:yLO),p.az.l.length - i<=jj/\i<=p.az.l.length/\(p.az.l.take i).any (fun a=>decide ((64:Int)<(a.via.l.length:Int)))=false/\st.own=.cells [p.ns.v,p.az.v,p.fs.v]::O/\Slots 82 st.t [(1,.ptrM d 0 0),(24,p.az.v),(25,iv (p.az.l.length:Nat)),(26,iv i)]) p.az.l.length (by omega) ⟨0,[],by omega,by omega,by simp,rfl,by simp only [V0,sevalprocAttr,hfr,zg4]⟩ ?_
  clear hfr
  rintro jj ⟨t,own⟩ KA ⟨i,O,hjj,hi,ha,ho,hfr⟩ hnA heA hrA
  dsimp only at ho hfr
  subst ho
  simp only [V3] at hfr
  by_cases h:i<p.az.l.length
  ·obtain ⟨x,hx⟩:=gx (l:=p.az.l) (i:=i) h
   have hrd:rdN (p.az.l.flatMap Ac.c) (i*6) 6=some [.int .i64 x.id,.int .i64 x.fr,.int .i64 x.to,x.via.v,.int .i64 x.l,.int .i64 x.r]:=(zb Ac.c_len 0 6 hx (by omega)).trans rfl
   have hw:wrapI .i64 ((i:Int)+1)=((i+1:Nat):Int):=we
   cases hq:decide ((64:Int)<(x.via.l.length:Int))
   ·simp only [V0,sevalprocAttr,hfr,h,za p.az h,hrd,zP,zU,gt_iff_lt,hq,hw]
    exact hnA _ (p.az.l.length - (i+1)) (by omega) ⟨i+1,_,by omega,by omega,Zq hx ha hq,rfl,by simp only [V0,sevalprocAttr,hfr,hw]⟩
   ·have hlv:limV p=true:=Yw (q:=fun a:Ac=>decide ((64:Int)<(a.via.l.length:Int))) hx hq
    simp only [V0,sevalprocAttr,hfr,h,za p.az h,hrd,zP,zU,gt_iff_lt,hq]
    refine hrA _ ?_
    simp only [V0,sevalprocAttr,hfr,planE,hlv,Bool.or_true,cond_true]
  ·have hlv:limV p=false:=by
    unfold limV
    rw [← zgg (l:=p.az.l) (i:=i) (by omega)]
    exact ha
   have hpl:=hp hl hlv
   simp only [V0,sevalprocAttr,hfr,h]
   refine heA _ _ ?_
   have c0:=fun dd oo ownV own id=>at_ident hS p h1 h2 m (by omega) dd oo ownV own id
   have hr1:=Y5 zk (p.ns.l.map Nd.id) (Yx h1)
   have hr2:=Y5 zk (p.az.l.map Ac.id) (Yx h2)
   generalize rowQ zk (p.ns.l.map Nd.id) (Yx h1)=q1 at c0 hr1
   generalize rowQ zk (p.az.l.map Ac.id) (Yx h2)=q2 at c0 hr2
   have n1:q1.l.length=p.ns.l.length:=by rw [hr1,zgw]
   have n2:q2.l.length=p.az.l.length:=by rw [hr2,zgw]
   have a1:=fun dd oo ownV own id=>at_asc hS q1 m (by omega) dd oo ownV own id
   have a2:=fun dd oo ownV own id=>at_asc hS q2 m (by omega) dd oo ownV own id
   have a3:=fun dd oo ownV own id=>at_asc hS p.fs m (by omega) dd oo ownV own id
   have b1:=fun dd oo ownV own id=>at_num hS q1 m (by omega) dd oo ownV own id
   have b2:=fun dd oo ownV own id=>at_num hS q2 m (by omega) dd oo ownV own id
   have b3:=fun dd oo ownV own id=>at_num hS p.fs m (by omega) dd oo ownV own id
   have b4:=fun dd oo ownV own id=>at_placed hS p 1000000 h3 m (by omega) dd oo ownV own id
   have cc:=fun dd oo ownV own id=>at_conn hS p q1 m (by omega) dd oo ownV own id
   have cp:=fun dd oo ownV own id=>hpl m (by omega) dd oo ownV own id
   rw [hr1] at a1 b1 cc
   rw [hr2] at a2 b2
   simp only [Pn.c] at c0 b4 cc cp
   have hpe:planE p v=bif !ordB p then 10 else bif !rngB p then 2 else bif connE p (p.ns.l.map Nd.id)==0 then (bif v then 0 else 11) else connE p (p.ns.l.map Nd.id):=by simp only [planE,hl,hlv,Bool.or_self,cond_false]
   rw [hpe]
   unfold ordB rngB
   generalize ascL (p.ns.l.map Nd.id)=u1 at a1 ⊢
   generalize ascL (p.az.l.map Ac.id)=u2 at a2 ⊢
   generalize ascL p.fs.l=u3 at a3 ⊢
   generalize (p.ns.l.map Nd.id).any badId=w1 at b1 ⊢
   generalize (p.az.l.map Ac.id).any badId=w2 at b2 ⊢
   generalize p.fs.l.any badId=w3 at b3 ⊢
   generalize placedB p=w4 at b4 ⊢
   generalize connE p (p.ns.l.map Nd.id)=ce at cc ⊢
   have hbne:∀ z:Int,(z != 0)=!(z==0):=fun z=>rfl
   cases u1
   ·simp only [V0,sevalprocAttr,hfr,c0,a1,a2,a3,zgo,zh6,cond_true]
   ·cases u2
    ·simp only [V0,sevalprocAttr,hfr,c0,a1,a2,a3,zhj,zgo,zh6,cond_true]
    ·cases u3
     ·simp only [V0,sevalprocAttr,hfr,c0,a1,a2,a3,zhj,zgo,zh6,cond_true]
     ·cases w1
      ·cases w2
       ·cases w3
        ·cases w4
         ·simp only [V0,sevalprocAttr,hfr,c0,a1,a2,a3,b1,b2,b3,b4,Bool.and_self,zhj,zgo,zh6,zh2,zh3,cond_true,cond_false]
         ·cases hce:ce==0
          ·simp only [V0,sevalprocAttr,hfr,c0,a1,a2,a3,b1,b2,b3,b4,cc,hbne,hce,Bool.and_self,zhj,zgo,zh6,zh2,cond_true,cond_false]
          ·cases v
           ·simp only [V0,sevalprocAttr,hfr,c0,a1,a2,a3,b1,b2,b3,b4,cc,cp,hbne,hce,Bool.and_self,zhj,zgo,zh6,zh2,cond_true,cond_false]
           ·simp only [V0,sevalprocAttr,hfr,c0,a1,a2,a3,b1,b2,b3,b4,cc,cp,hbne,hce,Bool.and_self,zhj,zgo,zh6,zh2,cond_true,cond_false]
        ·simp only [V0,sevalprocAttr,hfr,c0,a1,a2,a3,b1,b2,b3,b4,Bool.and_self,zhj,zgo,zh6,zh2,zh3,cond_true,cond_false]
       ·simp only [V0,sevalprocAttr,hfr,c0,a1,a2,a3,b1,b2,b3,b4,Bool.and_self,zhj,zgo,zh6,zh2,zh3,cond_true,cond_false]
      ·simp only [V0,sevalprocAttr,hfr,c0,a1,a2,a3,b1,b2,b3,b4,Bool.and_self,zhj,zgo,zh6,zh2,zh3,cond_true,cond_false]
 ·have hpe:planE p v=3:=by simp only [planE,hl,zhu,cond_true]
  rw [hpe]
  simp only [limI] at hl
  cases l1:decide ((256:Int)<(p.ns.l.length:Int))
  ·cases l2:decide ((256:Int)<(p.az.l.length:Int))
   ·have l3:decide ((64:Int)<(p.fs.l.length:Int))=true:=by simpa [l1,l2] using hl
    simp only [i36,V0,sevalprocAttr,hfr,gt_iff_lt,l1,l2,l3]
   ·simp only [i36,V0,sevalprocAttr,hfr,gt_iff_lt,l1,l2]
  ·simp only [i36,V0,sevalprocAttr,hfr,gt_iff_lt,l1]
end
theorem freezeA_slC {n d:Nat} {own:yLO} {cs:List IV} {len sz:Nat} {tight:Bool}:freezeA (n+1) d own (.slC cs len sz tight)=(cs.mapM (freezeA n d own)).map (.slC · len sz tight):=zgr rfl rfl
theorem zbe {n d sz:Nat} {own:yLO} {α:Type} {g:α->List IV} (q:SlOf sz g) (hg:∀ a,∀ x∈g a,freezeA n d own x=some x):freezeA (n+1) d own q.v=some q.v:=by
 have hh:∀ (cs:List IV) (k:Nat) (v:IV),Sl sz cs k v->(∀ x∈cs,freezeA n d own x=some x)->freezeA (n+1) d own v=some v:=fun cs k v hs hc=>by
  cases hs with
  | nil=>rfl
  | row cs k tight hl=>rw [freezeA_slC,zR hc]; rfl
 refine hh _ _ _ q.ok fun x hx=>?_
 obtain ⟨a,_,hxa⟩:=zh1.1 hx
 exact hg a x hxa
theorem ints_fA (n d:Nat) (own:yLO) (q:SlOf 1 intc):freezeA (n+2) d own q.v=some q.v:=zbe q fun a x hx=>by
 simp only [intc,zf,zgf,zg1,or_false] at hx
 rw [hx]
 rfl
end
section
noncomputable def absI (z:Int):Int:=if wrapI .i64 (0 - z) > z then wrapI .i64 (0 - z) else z
noncomputable def dartOk (p:Pn) (z:Int):Bool:=!(z==0||z==-9223372036854775808)&&(arcF p (absI z)).isSome
noncomputable def sideZ (p:Pn) (z:Int):Int:=bif dartOk p z then (bif decide (0<z) then (arcD p (absI z)).l else (arcD p (absI z)).r) else 0
section
variable {S:ySM}
theorem at_arcOf (hS:NoS S) (p:Pn) (z:Int) (hv:FewVia p):∃ (a:Ac) (N:Nat),(dartOk p z=true->a.id=(arcD p (absI z)).id/\a.fr=(arcD p (absI z)).fr/\a.to=(arcD p (absI z)).to/\a.l=(arcD p (absI z)).l/\a.r=(arcD p (absI z)).r)/\GivesN S N 156 [.agg p.c,iv z] (.tuple [.agg a.c,.bool (dartOk p z)]):=by
 obtain ⟨q1,hq1,N1,h1⟩:=zcb hS p (absI z) (fun f hf=>by have:=hv f hf; omega)
 have hfz:∀ (a:Ac) (b:Bool) (m d:Nat) (own:yLO),6<=m->freeze m d own (.tuple [.agg a.c,.bool b])=some (.tuple [.agg a.c,.bool b]):=fun a b m d own hm=>by
  obtain ⟨m,rfl⟩:∃ q,m=q+6:=⟨m - 6,by omega⟩
  have:=yK ptC_fz a.via (m+4) (by omega) d own
  have hi:∀ z:Int,freeze (m+4) d own (.int .i64 z)=some (.int .i64 z):=fun z=>rfl
  have hb:freeze (m+5) d own (.bool b)=some (.bool b):=rfl
  have ha:freeze (m+5) d own (.agg a.c)=some (.agg a.c):=by
   show (a.c.mapM (freeze (m+4) d own)).map IV.agg=_
   simp only [Ac.c,zf,zhy,List.mapM_nil,this,hi,zio,zia,zge,zf2]
  exact fz_tuple2 ha hb
 by_cases hz:(z==0||z==-9223372036854775808)=true
 ·refine ⟨zAc,8,fun h=>?_,?_⟩
  ·unfold dartOk at h
   rw [hz] at h
   simp at h
  ·have hd:dartOk p z=false:=by unfold dartOk; rw [hz]; rfl
   rw [hd]
   refine yg (i:=i156) (ns hS (by rfl)) rfl rfl (lb rfl) (7) fun m hm d out t hfr=>?_
   simp only [V2,Xb,i156,Pn.c] at hfr
   cases z0:z==0
   ·have z1:(z==-9223372036854775808)=true:=by simpa [z0] using hz
    simp only [i156,V0,sevalprocAttr,hfr,z0,z1,yo]
    exact ⟨_,rfl,hfz zAc false _ _ _ (by omega)⟩
   ·simp only [i156,V0,sevalprocAttr,hfr,z0,yo]
    exact ⟨_,rfl,hfz zAc false _ _ _ (by omega)⟩
 ·have hz2:(z==0||z==-9223372036854775808)=false:=by simpa using hz
  have hd:dartOk p z=(arcF p (absI z)).isSome:=by unfold dartOk; rw [hz2]; rfl
  simp only [zhz] at hz2
  refine ⟨{ arcD p (absI z) with via:=q1 },N1+8,fun _=>⟨rfl,rfl,rfl,rfl,rfl⟩,?_⟩
  rw [hd]
  refine yg (i:=i156) (ns hS (by rfl)) rfl rfl (lb rfl) (N1+7) fun m hm d out t hfr=>?_
  simp only [V2,Xb,i156,Pn.c] at hfr
  have c1:=fun dd oo ownV own id=>h1 m (by omega) dd oo ownV own id
  have e1:((p.az.l.find? fun f=>f.id==absI z).getD zAc)=arcD p (absI z):=rfl
  have e2:(p.az.l.find? fun f=>f.id==absI z).isSome=(arcF p (absI z)).isSome:=rfl
  simp only [e1,e2,zf,Pn.c,Ac.c] at c1
  have hab:(if wrapI .i64 (0 - z) > z then wrapI .i64 (0 - z) else z)=absI z:=rfl
  simp only [gt_iff_lt] at hab
  simp only [i156,V0,sevalprocAttr,hfr,hz2.1,hz2.2,gt_iff_lt,hab,c1,yo]
  exact ⟨_,rfl,hfz { arcD p (absI z) with via:=q1 } _ _ _ _ (by omega)⟩
theorem at_sideZ (hS:NoS S) (p:Pn) (z:Int) (hv:FewVia p):∃ N,GivesN S N 122 [.agg p.c,iv z] (.int .i64 (sideZ p z)):=by
 obtain ⟨a,N,h1,h2⟩:=at_arcOf hS p z hv
 refine ⟨N+4,?_⟩
 refine zh (i:=i122) (ns hS (by rfl)) rfl rfl (lb rfl) (N+3) (by omega) zo fun m hm d out t hfr=>?_
 simp only [V2,Xb,i122,Pn.c] at hfr
 have c1:=fun dd oo ownV own id=>h2 m (by omega) dd oo ownV own id
 simp only [zf,Pn.c,Ac.c] at c1
 unfold sideZ
 cases hd:dartOk p z
 ·simp only [hd] at c1
  simp only [i122,V0,sevalprocAttr,hfr,c1,cond_false]
 ·obtain ⟨_,_,_,g4,g5⟩:=h1 hd
  simp only [hd] at c1
  rw [← g4,← g5]
  cases hz:decide (0<z)
  ·simp only [i122,V0,sevalprocAttr,hfr,c1,gt_iff_lt,hz,cond_true,cond_false]
  ·simp only [i122,V0,sevalprocAttr,hfr,c1,gt_iff_lt,hz,cond_true]
end
end
section
def precI (l:List Int) (z:Int):Int:=match l.findIdx? fun x=>z==x with
 | some i=>(l[(i+l.length - 1) % l.length]?).getD 0
 | none=>0
def degN (l:List Ac) (id:Int):Nat:=(l.filter fun a=>a.fr==id).length+(l.filter fun a=>a.to==id).length
theorem degN_le (l:List Ac) (id:Int):degN l id<=2*l.length:=by
 unfold degN
 have h1:=List.length_filter_le (fun a:Ac=>a.fr==id) l
 have h2:=List.length_filter_le (fun a:Ac=>a.to==id) l
 omega
theorem degN_take {l:List Ac} {i:Nat} {x:Ac} {id:Int} (hx:l[i]?=some x):degN (l.take (i+1)) id=degN (l.take i) id+((if (x.fr==id)=true then 1 else 0)+(if (x.to==id)=true then 1 else 0)):=by
 unfold degN
 rw [zhb,hx,zhq,List.filter_append,List.filter_append,zga,zga]
 cases h1:x.fr==id <;> cases h2:x.to==id <;> simp [List.filter_cons,h1,h2] <;> omega
section
variable {S:ySM}
theorem at_prec (hS:NoS S) (l:SlOf 1 intc) (z:Int) (hl:l.l.length<=1000000):GivesN S (l.l.length+8) 116 [l.v,iv z] (.int .i64 (precI l.l z)):=by
 refine zh (i:=i116) (ns hS (by rfl)) rfl rfl (lb rfl) (l.l.length+7) (by omega) zo fun m hm d out t hfr=>?_
 simp only [V2,Xb,i116] at hfr
 have c1:=fun dd oo ownV own id=>at_index hS l z m (by omega) dd oo ownV own id
 simp only [zf] at c1
 unfold precI
 unfold fIdx at c1
 cases hf:l.l.findIdx? fun x=>z==x with
 | none =>
  simp only [hf] at c1
  have h0:((-1:Int)<0)=True:=eq_true (by decide)
  simp only [i116,V0,sevalprocAttr,hfr,c1,h0]
 | some i =>
  obtain ⟨hi,_,_⟩:=zh0.1 hf
  simp only [hf] at c1
  have h0:((i:Int)<0)=False:=eq_false (by omega)
  have e1:wrapI .i64 ((i:Int)+(l.l.length:Int))=((i+l.l.length:Nat):Int):=we
  have e2:wrapI .i64 (((i+l.l.length:Nat):Int) - 1)=((i+l.l.length - 1:Nat):Int):=we
  have e3:((l.l.length:Int)=0)=False:=eq_false (by omega)
  have e4:Int.tmod ((i+l.l.length - 1:Nat):Int) (l.l.length:Int)=(((i+l.l.length - 1) % l.l.length:Nat):Int):=(Int.ofNat_tmod _ _).symm
  have hj:(i+l.l.length - 1) % l.l.length<l.l.length:=Nat.mod_lt _ (by omega)
  obtain ⟨x,hx⟩:=gx (l:=l.l) (i:=(i+l.l.length - 1) % l.l.length) hj
  have hv:(l.l[(i+l.l.length - 1) % l.l.length]?).getD 0=x:=by rw [hx]; rfl
  have hv':=hv
  generalize (i+l.l.length - 1) % l.l.length=j at e4 hj hx hv
  have hrd:rdN (l.l.flatMap intc) (j*1) 1=some [.int .i64 x]:=zb zk 0 1 hx (by omega)
  simp only [i116,V0,sevalprocAttr,hfr,c1,h0,e1,e2,e3,e4,za l hj,hrd]
  exact congrArg (fun w=>some (IV.int .i64 w)) hv'.symm
theorem at_degree (hS:NoS S) (p:Pn) (id:Int) (ha:p.az.l.length<=1000000):GivesN S (p.az.l.length+4) 121 [.agg p.c,iv id] (.int .i64 (degN p.az.l id:Nat)):=by
 refine zh (i:=i121) (ns hS (by rfl)) rfl rfl (lb rfl) (p.az.l.length+3) (by omega) zo fun m hm d out t hfr=>?_
 simp only [V2,Xb,i121,Pn.c] at hfr
 simp only [i121,V0,sevalprocAttr,hfr]
 refine zd (fun jj st=>∃ (i:Nat) (O:yLO),p.az.l.length - i<=jj/\i<=p.az.l.length/\st.own=.cells [p.ns.v,p.az.v,p.fs.v]::O/\Slots 28 st.t [(1,iv id),(8,p.az.v),(9,iv (p.az.l.length:Nat)),(10,iv i),(4,iv (degN (p.az.l.take i) id:Nat))]) p.az.l.length (by omega) ⟨0,[],by omega,by omega,rfl,by simp only [V0,sevalprocAttr,hfr,zg4,zis]; rfl⟩ ?_
 clear hfr
 rintro jj ⟨t,own⟩ KA ⟨i,O,hjj,hi,ho,hfr⟩ hnA heA hrA
 dsimp only at ho hfr
 subst ho
 simp only [V3] at hfr
 by_cases h:i<p.az.l.length
 ·obtain ⟨x,hx⟩:=gx (l:=p.az.l) (i:=i) h
  have hrd:rdN (p.az.l.flatMap Ac.c) (i*6) 6=some [.int .i64 x.id,.int .i64 x.fr,.int .i64 x.to,x.via.v,.int .i64 x.l,.int .i64 x.r]:=(zb Ac.c_len 0 6 hx (by omega)).trans rfl
  have hw:wrapI .i64 ((i:Int)+1)=((i+1:Nat):Int):=we
  have hd:=degN_take (id:=id) hx
  have hle:=degN_le (p.az.l.take i) id
  rw [zhx,Nat.min_eq_left (by omega)] at hle
  generalize degN (p.az.l.take i) id=n0 at hfr hd hle
  have w1:wrapI .i64 ((n0:Int)+1)=((n0+1:Nat):Int):=we
  have w2:wrapI .i64 (((n0+1:Nat):Int)+1)=((n0+1+1:Nat):Int):=we
  cases h1:x.fr==id <;> cases h2:x.to==id <;> rw [h1,h2] at hd <;> simp only [zgk,if_false,if_true,Nat.add_zero,zg5,Xb] at hd
  ·simp only [V0,sevalprocAttr,hfr,h,za p.az h,hrd,zP,zU,h1,h2,hw,w1,w2]
   exact hnA _ (p.az.l.length - (i+1)) (by omega) ⟨i+1,_,by omega,by omega,rfl,by simp only [V0,sevalprocAttr,hfr,hw,hd,h1,h2]⟩
  ·simp only [V0,sevalprocAttr,hfr,h,za p.az h,hrd,zP,zU,h1,h2,hw,w1,w2]
   exact hnA _ (p.az.l.length - (i+1)) (by omega) ⟨i+1,_,by omega,by omega,rfl,by simp only [V0,sevalprocAttr,hfr,hw,hd,w1,h1,h2]⟩
  ·simp only [V0,sevalprocAttr,hfr,h,za p.az h,hrd,zP,zU,h1,h2,hw,w1,w2]
   exact hnA _ (p.az.l.length - (i+1)) (by omega) ⟨i+1,_,by omega,by omega,rfl,by simp only [V0,sevalprocAttr,hfr,hw,hd,w1,h1,h2]⟩
  ·simp only [V0,sevalprocAttr,hfr,h,za p.az h,hrd,zP,zU,h1,h2,hw,w1,w2]
   exact hnA _ (p.az.l.length - (i+1)) (by omega) ⟨i+1,_,by omega,by omega,rfl,by simp only [V0,sevalprocAttr,hfr,hw,hd,w1,w2,h1,h2]⟩
 ·have hii:i=p.az.l.length:=by omega
  subst hii
  rw [List.take_length] at hfr
  simp only [V0,sevalprocAttr,hfr,h]
  refine heA _ _ ?_
  simp only [V0,sevalprocAttr,hfr]
end
end
section
section
variable {S:ySM}
theorem around_add (hS:NoS S) {m d:Nat} {out:yLM} (hm:4<=m) (z:Int) (y:Pt) (x0 x2 x3:IObj) (L:List (Int × Pt)) (bs:List Nat) (ck:Nat) (J:yLO) (lv:IV) (xs:List Int) (hO:OwnJ intc 1 d 6 J lv xs) (hx:xs.length<=1000000) (ownV:yLO) :
  ∃ (lv':IV) (J':yLO) (L':List (Int × Pt)) (bs':List Nat) (ck':Nat),(∀ id,callN Ftab S m d out ownV (x0::.cells [lv]::x2::x3::.map (ptKs L) (ptVs L) bs ck::.cells [.mapM d 4]::J) id 151 [.int .i64 z,.agg [.int .i64 y.x,.int .i64 y.y],.ptrM d 1 0,.ptrM d 5 0]=some (.x,.tuple [],x0::.cells [lv']::x2::x3::.map (ptKs L') (ptVs L') bs' ck'::.cells [.mapM d 4]::J'))/\OwnJ intc 1 d 6 J' lv' (xs++[z])/\∀ (j:Nat) (x:IObj),J[j]?=some x->x≠IObj.cells (xs.flatMap intc)->J'[j]?=some x:=by
 obtain ⟨m,rfl⟩:∃ q,m=q+1:=⟨m - 1,by omega⟩
 obtain ⟨L',bs',ck',_,hup⟩:=map_upd L bs ck z y
 obtain ⟨e,lv',J2,happ,hO2,hkeep⟩:=zcc (Pre:=[x0,.cells [lv],x2,x3,.map (ptKs L) (ptVs L) bs ck,.cells [.mapM d 4]]) (n0:=J.length+1+1+1+1+1+1+1) (slot:=0) (k:=1) (out:=out) (R:=[.cells [.int .i64 y.x,.int .i64 y.y],.free]) zk hO (ys:=[z]) (by simp) (by simp only [zf3,zgb]; omega) (by simp only [zf3,zgb]; omega) rfl rfl
 simp only [zgq,zgz,zgj,zh4,intc,zf,zf3,zgb,zhc,zg5] at happ
 obtain ⟨v1,v2⟩:=hO2.one
 have hy:J2[J.length]?=some (.cells [.int .i64 y.x,.int .i64 y.y]):=hkeep J.length _ (by omega) (by simp) (.inl (zf7 _))
 have main:∃ v own',(∀ id,callN Ftab S (m+1) d out ownV (x0::.cells [lv]::x2::x3::.map (ptKs L) (ptVs L) bs ck::.cells [.mapM d 4]::J) id 151 [.int .i64 z,.agg [.int .i64 y.x,.int .i64 y.y],.ptrM d 1 0,.ptrM d 5 0]=some (.x,v,own'))/\(v=.tuple []/\own'=x0::.cells [lv']::x2::x3::.map (ptKs L') (ptVs L') bs' ck'::.cells [.mapM d 4]::J2):=by
  refine yL (i:=i151) (ns hS (by rfl)) rfl rfl (lb rfl) fun t hfr=>?_
  simp only [V2,Xb,i151] at hfr
  have hup2:=fun C n0 ownV own t a b c=>hup C d out n0 4 ownV own t a b c
  simp only [i151,V0,sevalprocAttr,hfr,rep,zt,zJ,zT,yD,happ,v1,v2,hy,hup2,ZC,res0]
  exact ⟨_,rfl,rfl⟩
 obtain ⟨v,own',h1,rfl,rfl⟩:=main
 refine ⟨lv',J2,L',bs',ck',h1,hO2,fun j x hj hne=>?_⟩
 have hlt:=(zfz.1 hj).1
 exact hkeep j x (by omega) (by rw [zf1 hlt]; exact hj) (.inr hne)
noncomputable def darC (n:Pt) (L:List (Int × Pt)) (x y:Int):Int:=bif lessP n (lkP L x) (lkP L y) then -1 else bif lessP n (lkP L y) (lkP L x) then 1 else 0
theorem around_cmp (hS:NoS S) {m d:Nat} {out:yLM} (hm:12<=m) (x y:Int) (nd:Nd) (L:List (Int × Pt)) (bs:List Nat) (ck:Nat) (ownV own:yLO) (id:Nat) (h3:ownV[3]?=some (.cells nd.c)) (h4:ownV[4]?=some (.map (ptKs L) (ptVs L) bs ck)) (h5:ownV[5]?=some (.cells [.mapM d 4])) :
  callN Ftab S m d out ownV own id 153 [.int .i64 x,.int .i64 y,.ptrM d 3 0,.ptrM d 5 0]=some (.r,.int .i64 (darC nd.at' L x y),own):=by
 refine ZT (i:=i153) (ns hS (by rfl)) rfl rfl (lb rfl) (N:=11) (by omega) hm zo fun m hm t hfr=>?_
 simp only [V2,Xb,i153] at hfr
 have k3:((fun l=>if l=d then ownV else out l:yLM) d)[3]?=some (.cells nd.c):=by simpa using h3
 have k4:((fun l=>if l=d then ownV else out l:yLM) d)[4]?=some (.map (ptKs L) (ptVs L) bs ck):=by simpa using h4
 have k5:((fun l=>if l=d then ownV else out l:yLM) d)[5]?=some (.cells [.mapM d 4]):=by simpa using h5
 generalize (fun l=>if l=d then ownV else out l:yLM)=out2 at k3 k4 k5 ⊢
 simp only [Nd.c,zf] at k3
 have hne:(d=d+1)=False:=eq_false (by omega)
 have hlt:(d<d+1)=True:=eq_true (by omega)
 have ev:∀ (z:Int) (C:Call) (n0:Nat) (ownV own:yLO) (t:List IV) (a b:Opd),ρ t a=.mapM d 4->ρ t b=.int .i64 z->evOp C (d+1) out2 n0 ownV own t (.lookup (.agg [.int .i64 0,.int .i64 0]) (false,[1]) false a b)=some (.r,.agg [.int .i64 (lkP L z).x,.int .i64 (lkP L z).y],own):=fun z C n0 ownV own t a b h1 h2=>by
  obtain ⟨r,hr1,hr2⟩:=zey z L
  rw [Zf]
  simp only [e_lookup,h1,h2,look,if_neg (show ¬ (d=d+1) by omega),if_pos (show d<d+1 by omega),k4,hr1,zf2,hr2]
  rfl
 have evx:=ev x
 have evy:=ev y
 have cl:∀ (o a b:Pt) dd oo ownV own i,callN Ftab S m dd oo ownV own i 154 [.agg [.int .i64 o.x,.int .i64 o.y],.agg [.int .i64 a.x,.int .i64 a.y],.agg [.int .i64 b.x,.int .i64 b.y]]=some (.r,.bool (lessP o a b),own):=fun o a b dd oo ownV own i=>at_less hS o a b m (by omega) dd oo ownV own i
 unfold darC
 cases b1:lessP nd.at' (lkP L x) (lkP L y)
 ·cases b2:lessP nd.at' (lkP L y) (lkP L x)
  ·simp only [i153,V0,sevalprocAttr,hfr,hne,hlt,k3,k5,evx,evy,cl,b1,b2,cond_false]
  ·simp only [i153,V0,sevalprocAttr,hfr,hne,hlt,k3,k5,evx,evy,cl,b1,b2,cond_false,cond_true]
 ·simp only [i153,V0,sevalprocAttr,hfr,hne,hlt,k3,k5,evx,evy,cl,b1,cond_true]
end
end
section
theorem row_ints (xs:List Int):∀ (i:Nat) (w:IV),(xs.flatMap intc)[i]?=some w->∃ n,w=.int .i64 n:=by
 induction xs with
 | nil=>intro i w h; simp at h
 | cons a l ih =>
  intro i w h
  rw [zgj] at h
  cases i with
  | zero=>simp [intc,zf] at h; exact ⟨a,h.symm⟩
  | succ i=>simp [intc] at h; exact ih i w (by simpa [intc] using h)
theorem arc_ne {x:Ac} {xs:List Int}:IObj.cells [.int .i64 x.id,.int .i64 x.fr,.int .i64 x.to,x.via.v,.int .i64 x.l,.int .i64 x.r]≠.cells (xs.flatMap intc):=by
 intro h
 have h1:=IObj.cells.inj h
 have hh:∀ (cs:List IV) (k:Nat) (v:IV),Sl 2 cs k v->∀ n:Int,v≠.int .i64 n:=fun cs k v hs n he=>by
  cases hs <;> cases he
 have h2:(xs.flatMap intc)[3]?=some x.via.v:=by rw [← h1]; rfl
 obtain ⟨n,hn⟩:=row_ints xs _ _ h2
 exact hh _ _ _ x.via.ok n hn
end
section
section
variable {β:Type} (u:β->IV)
def mKs (L:List (Int × β)):List IV:=L.map fun kv=>.int .i64 kv.1
def mVs (L:List (Int × β)):List IV:=L.map fun kv=>u kv.2
def lkM (z:β) (L:List (Int × β)) (id:Int):β:=((L.find? fun kv=>id==kv.1).map Prod.snd).getD z
def putM (L:List (Int × β)) (id:Int) (y:β):List (Int × β):=match L.findIdx? fun kv=>id==kv.1 with
 | none=>L++[(id,y)]
 | some i=>L.set i (id,y)
variable {u}
theorem zbf (id:Int):∀ (L:List (Int × β)) (n:Nat),findIx (false,[1]) (.int .i64 id) (mKs L) n=some ((L.findIdx? fun kv=>id==kv.1).map (n+·))
 | [],n=>rfl
 | kv::L,n=>by
  have ih:=zbf id L (n+1)
  have e:eqk (false,[1]) (.int .i64 id) (.int .i64 kv.1)=some (id==kv.1):=by
   have:eqvs [1] [.int .i64 id] [.int .i64 kv.1]=some (id==kv.1):=by
    simp only [eqvs,eqv]
    cases h1:id==kv.1 <;> simp [h1]
   exact this
  show (match eqk (false,[1]) (.int .i64 id) (.int .i64 kv.1) with | some true=>some (some n) | some false=>findIx (false,[1]) (.int .i64 id) (mKs L) (n+1) | none=>none)=_
  rw [e]
  cases h:id==kv.1
  ·simp only [ih,List.findIdx?_cons,h]
   cases L.findIdx? fun kv=>id==kv.1 with
   | none=>rfl
   | some j=>simp; omega
  ·simp [List.findIdx?_cons,h]
theorem findK_m (id:Int) (L:List (Int × β)):findK (false,[1]) (.int .i64 id) (mKs L) (mVs u L)=some ((L.find? fun kv=>id==kv.1).map fun kv=>u kv.2):=by
 have h0:(kindB false (IV.int .i64 id)&&(IV.int .i64 id).cells.length==[1].length)=true:=rfl
 unfold findK
 rw [if_pos h0,zbf]
 cases h:L.findIdx? fun kv=>id==kv.1 with
 | none =>
  have h1:(L.find? fun kv=>id==kv.1)=none:=by
   rw [zij] at h
   rw [List.find?_eq_none]
   intro x hx
   simp [h x hx]
  simp [h1]
 | some j =>
  obtain ⟨hj,hq,hmin⟩:=zh0.1 h
  have h1:(L.find? fun kv=>id==kv.1)=some L[j]:=by
   rw [List.find?_eq_some_iff_getElem]
   exact ⟨hq,j,hj,rfl,fun k hk=>by simpa using hmin k hk⟩
  simp [mVs,hj,h1]
theorem lk_getD (z:β) (L:List (Int × β)) (id:Int):((L.find? fun kv=>id==kv.1).map fun kv=>u kv.2).getD (u z)=u (lkM z L id):=by
 unfold lkM
 cases L.find? fun kv=>id==kv.1 <;> rfl
theorem YA (z:β) {L:List (Int × β)} {bs:List Nat} {ck:Nat} (id:Int) {C:Call} {d n0 l j:Nat} {out:yLM} {ownV own:yLO} {t:List IV} {a b:Opd} {zv:IV} (hz:zv=u z) (h1:ρ t a=.mapM l j) (h2:ρ t b=.int .i64 id) (h3:look d out ownV l j=some (.map (mKs L) (mVs u L) bs ck)):evOp C d out n0 ownV own t (.lookup zv (false,[1]) false a b)=some (.r,u (lkM z L id),own):=by
 rw [Zf]
 subst hz
 simp only [e_lookup,h1,h2,h3,findK_m,zf2,lk_getD]
 rfl
theorem ev_lookC (z:β) {L:List (Int × β)} (id:Int) {C:Call} {d n0:Nat} {out:yLM} {ownV own:yLO} {t:List IV} {a b:Opd} {zv:IV} (hz:zv=u z) (h1:ρ t a=.mapC (mKs L) (mVs u L)) (h2:ρ t b=.int .i64 id):evOp C d out n0 ownV own t (.lookup zv (false,[1]) false a b)=some (.p,u (lkM z L id),own):=by
 rw [Zf]
 subst hz
 simp only [e_lookup,h1,h2,findK_m,zf2,lk_getD]
 rfl
theorem lkM_put (z y:β) (L:List (Int × β)) (id k:Int):lkM z (putM L id y) k=if k=id then y else lkM z L k:=by
 unfold putM
 cases h:L.findIdx? fun kv=>id==kv.1 with
 | none =>
  rw [zij] at h
  simp only [lkM,List.find?_append]
  by_cases hk:k=id
  ·subst hk
   have h1:(L.find? fun kv=>k==kv.1)=none:=by
    rw [List.find?_eq_none]
    intro x hx
    simp [h x hx]
   simp [h1]
  ·rw [if_neg hk]
   have h1:([(id,y)].find? fun kv=>k==kv.1)=none:=by simp [hk]
   rw [h1,Option.or_none]
 | some i =>
  obtain ⟨hi,hq,hmin⟩:=zh0.1 h
  have he:id=L[i].1:=by simpa using hq
  have hcons:∀ (M:List (Int × β)) (i:Nat) (hi:i<M.length),id=M[i].1->(∀ j (hj:j<i),¬ id=(M[j]'(by omega)).1)->((M.set i (id,y)).find? fun kv=>k==kv.1)=if k=id then some (id,y) else M.find? fun kv=>k==kv.1:=by
   intro M
   induction M with
   | nil=>intro i hi; simp at hi
   | cons x M ih =>
    intro i hi he hm
    cases i with
    | zero =>
     simp only [List.getElem_cons_zero] at he
     simp only [List.set_cons_zero,List.find?_cons]
     by_cases hk:k=id
     ·simp [hk]
     ·have h1:(k==id)=false:=by simpa using hk
      have h2:(k==x.1)=false:=by rw [← he]; exact h1
      simp only [h1,h2,if_neg hk]
    | succ i =>
     simp only [zim,List.find?_cons]
     have hx:=hm 0 (by omega)
     simp only [List.getElem_cons_zero] at hx
     have:=ih i (by simpa using hi) (by simpa using he) (fun j hj=>by simpa using hm (j+1) (by omega))
     by_cases hk:k=id
     ·have h2:(k==x.1)=false:=by rw [hk]; simpa using hx
      rw [if_pos hk] at this ⊢
      simp only [h2]
      exact this
     ·rw [if_neg hk] at this ⊢
      rw [this]
  have:=hcons L i hi he (fun j hj=>by simpa using hmin j hj)
  unfold lkM
  rw [this]
  by_cases hk:k=id
  ·simp [hk]
  ·simp [hk]
theorem upd_m (L:List (Int × β)) (bs:List Nat) (ck:Nat) (id:Int) (y:β):∃ (bs':List Nat) (ck':Nat),∀ (C:Call) (D:Nat) (out:yLM) (n0 j:Nat) (ownV own:yLO) (t:List IV) (a b c:Opd),ρ t a=.mapM D j->ρ t b=.int .i64 id->ρ t c=u y->own[j]?=some (.map (mKs L) (mVs u L) bs ck) ->
  evOp C D out n0 ownV own t (.mapupd (false,[1]) a b c)=some (.x,.tuple [],own.set j (.map (mKs (putM L id y)) (mVs u (putM L id y)) bs' ck')):=by
 have hk:(kindB false (IV.int .i64 id)&&(IV.int .i64 id).cells.length==[1].length)=true:=rfl
 unfold putM
 cases h:L.findIdx? fun kv=>id==kv.1 with
 | none =>
  refine ⟨bs++[ck],ck+1,fun C D out n0 j ownV own t a b c h1 h2 h3 h4=>?_⟩
  rw [ZR]
  simp only [e_mapupd,h1,h2,h3,h4,hk,and_self,if_true,zbf,h,zg2,zc]
  simp [mKs,mVs]
 | some i =>
  obtain ⟨hi,hq,_⟩:=zh0.1 h
  have he:id=L[i].1:=by simpa using hq
  refine ⟨bs,ck,fun C D out n0 j ownV own t a b c h1 h2 h3 h4=>?_⟩
  rw [ZR]
  simp only [e_mapupd,h1,h2,h3,h4,hk,and_self,if_true,zbf,h,zf2,zg5,zc]
  have hks:mKs (L.set i (id,y))=mKs L:=by
   unfold mKs
   rw [List.map_set]
   refine ziu fun k=>?_
   by_cases hki:i=k
   ·subst hki
    rw [zg9 (by rw [zgw]; exact hi)]
    simp [hi,he]
   ·rw [zg6 hki]
  have hvs:mVs u (L.set i (id,y))=(mVs u L).set i (u y):=by
   unfold mVs
   rw [List.map_set]
  rw [hks,hvs]
end
section
variable {S:ySM}
theorem int_cl (l:List Int):∀ n,(l.flatMap intc).all (clF (n+1))=true:=fun n=>by
 rw [zhg]
 intro x hx
 obtain ⟨a,_,ha⟩:=zh1.1 hx
 simp only [intc,zgf,zg1,or_false] at ha
 subst ha
 rfl
theorem YP (q:SlOf 1 intc) (n:Nat):clF (n+2) q.v=true:=by
 have hh:∀ (cs:List IV) (k:Nat) (v:IV),Sl 1 cs k v->cs.all (clF (n+1))=true->clF (n+2) v=true:=fun cs k v h hc=>by
  cases h with
  | nil=>rfl
  | row cs n tight hl=>exact hc
 exact hh _ _ _ q.ok (int_cl _ _)
end
def OwnB {α:Type} (g:α->List IV) (sz d k0 b0:Nat) (J:yLO) (lv:IV) (xs:List α):Prop:=(xs=[]/\lv=.nilsl)∨∃ b,b0<=b/\xs≠[]/\lv=.slM d (k0+b) 0 xs.length xs.length sz false/\J[b]?=some (.cells (xs.flatMap g))
theorem ownB_app {α:Type} {g:α->List IV} {sz:Nat} (hs:∀ a,(g a).length=sz) {d n0 slot k b0:Nat} {out:yLM} {Pre J R:yLO} {lv:IV} {xs ys:List α} (h:OwnB g sz d Pre.length b0 J lv xs) (hb0:b0<=J.length) (hy:ys.length≠0) (hx:xs.length+ys.length<=1073741824) (hk:n0+slot=Pre.length+(J.length+k)) (hf:R[k]?=some .free)
  (hsc:(ys.flatMap g).all IV.scalar=true) :
  ∃ e lv' J2,appendI d n0 (look d out (Pre++(J++R))) (Pre++(J++R)) sz lv (ys.flatMap g) ys.length slot=some (e,lv',Pre++J2)/\OwnB g sz d Pre.length b0 J2 lv' (xs++ys)/\(∀ j,j<b0->J2[j]?=(J++R)[j]?)/\J2.length=(J++R).length:=by
 have hkl:k<R.length:=(zfz.1 hf).1
 have hget:(J++R)[J.length+k]?=some .free:=by
  rw [zf4 (by omega),zhw]
  exact hf
 have hlt:J.length+k<(J++R).length:=by rw [zga]; omega
 have hne:xs++ys≠[]:=by
  intro he
  exact hy (by rw [(List.append_eq_nil_iff.1 he).2]; rfl)
 rcases h with ⟨rfl,rfl⟩ | ⟨b,hb1,_,rfl,h2⟩
 ·rw [YK hy (by unfold bound; simp at hx; omega)]
  unfold mkAt
  rw [hk,zW,hget]
  simp only [zc]
  rw [ye]
  refine ⟨_,_,_,rfl,.inr ⟨J.length+k,by omega,hne,by simp,?_⟩,fun j hj=>?_,by rw [zid]⟩
  ·rw [zg9 hlt]
   rfl
  ·rw [zg6 (by omega)]
 ·have hb:b<J.length:=(zfz.1 h2).1
  have hb2:(J++R)[b]?=some (.cells (xs.flatMap g)):=by rw [zf1 hb]; exact h2
  rw [Yu hy hx (zq hs) hsc (by simp only [look,if_true,zW]; exact hb2)]
  unfold killAt
  rw [hk,zW,hget]
  simp only [zc]
  rw [ye,ye]
  refine ⟨_,_,_,rfl,.inr ⟨J.length+k,by omega,hne,by simp,?_⟩,fun j hj=>?_,by rw [zid,zid]⟩
  ·rw [zg9 (by rw [zid]; exact hlt)]
   simp
  ·rw [zg6 (by omega),zg6 (by omega)]
end
section
theorem ownB_app1 {α:Type} {g:α->List IV} {sz:Nat} (hs:∀ a,(g a).length=sz) {d n0 slot k b0 k0:Nat} {out:yLM} {Pre J R:yLO} {lv:IV} {xs ys:List α} (hk0:Pre.length=k0) (h:OwnB g sz d k0 b0 J lv xs) (hb0:b0<=J.length) (hy:ys.length≠0) (hx:xs.length+ys.length<=1073741824) (hk:n0+slot=k0+(J.length+k)) (hf:R[k]?=some .free)
  (hsc:(ys.flatMap g).all IV.scalar=true) :
  ∃ e lv' J2,appendI d n0 (look d out (Pre++(J++R))) (Pre++(J++R)) sz lv (ys.flatMap g) ys.length slot=some (e,lv',Pre++J2)/\OwnB g sz d k0 b0 J2 lv' (xs++ys)/\(∀ j,j<b0->J2[j]?=(J++R)[j]?)/\J2.length=(J++R).length:=by
 subst hk0
 exact ownB_app hs h hb0 hy hx hk hf hsc
end
section
section
variable {S:ySM}
theorem putM_len {β:Type} (L:List (Int × β)) (id:Int) (y:β):(putM L id y).length<=L.length+1:=by
 unfold putM
 cases L.findIdx? fun kv=>id==kv.1 <;> simp
end
end
section
theorem zch {lk:Nat->Nat->Option IObj} {x:IV} {tight:Bool}:cellsI lk 1 (.slC [x] 1 1 tight)=some ([x],1):=by
 simp [cellsI,seg,zc]
theorem pre_split {J0 J':yLO} (h:∀ j,j<J0.length->J'[j]?=J0[j]?) (hl:J0.length<=J'.length):∃ R,J'=J0++R:=⟨J'.drop J0.length,by
 refine ziu fun j=>?_
 by_cases hj:j<J0.length
 ·rw [h j hj,zf1 hj]
 ·rw [zf4 (by omega),List.getElem?_drop]
  congr 1
  omega⟩
theorem ownJ_app3 {α:Type} {g:α->List IV} {sz:Nat} (hs:∀ a,(g a).length=sz) {d n0 slot k k0:Nat} {out:yLM} {Pre J R:yLO} {lv:IV} {xs ys:List α} (hk0:Pre.length=k0) (h:OwnJ g sz d k0 J lv xs) (hy:ys.length≠0) (hx:xs.length+ys.length<=1073741824) (hk:n0+slot=k0+(J.length+k)) (hf:R[k]?=some .free)
  (hsc:(ys.flatMap g).all IV.scalar=true) :
  ∃ e lv' J2,appendI d n0 (look d out (Pre++(J++R))) (Pre++(J++R)) sz lv (ys.flatMap g) ys.length slot=some (e,lv',Pre++J2)/\OwnJ g sz d k0 J2 lv' (xs++ys)/\(∀ j x,j≠J.length+k->(J++R)[j]?=some x->x≠.cells (xs.flatMap g)->J2[j]?=some x)/\J2.length=(J++R).length:=by
 subst hk0
 have hkl:k<R.length:=(zfz.1 hf).1
 have hget:(J++R)[J.length+k]?=some .free:=by
  rw [zf4 (by omega),zhw]
  exact hf
 have hlt:J.length+k<(J++R).length:=by rw [zga]; omega
 have hne:xs++ys≠[]:=by
  intro he
  exact hy (by rw [(List.append_eq_nil_iff.1 he).2]; rfl)
 rcases h with ⟨rfl,rfl⟩ | ⟨b,_,rfl,h2⟩
 ·rw [YK hy (by unfold bound; simp at hx; omega)]
  unfold mkAt
  rw [hk,zW,hget]
  simp only [zc]
  rw [ye]
  refine ⟨_,_,_,rfl,.inr ⟨J.length+k,hne,by simp,?_⟩,fun j x hj hx2 _=>?_,by rw [zid]⟩
  ·rw [zg9 hlt]
   rfl
  ·rw [zg6 (Ne.symm hj)]
   exact hx2
 ·have hb:b<J.length:=(zfz.1 h2).1
  have hb2:(J++R)[b]?=some (.cells (xs.flatMap g)):=by rw [zf1 hb]; exact h2
  rw [Yu hy hx (zq hs) hsc (by simp only [look,if_true,zW]; exact hb2)]
  unfold killAt
  rw [hk,zW,hget]
  simp only [zc]
  rw [ye,ye]
  refine ⟨_,_,_,rfl,.inr ⟨J.length+k,hne,by simp,?_⟩,fun j x hj hx2 hne2=>?_,by rw [zid,zid]⟩
  ·rw [zg9 (by rw [zid]; exact hlt)]
   simp
  ·rw [zg6 (Ne.symm hj)]
   by_cases hjb:j=b
   ·subst hjb
    rw [hb2] at hx2
    cases hx2
    exact absurd rfl hne2
   ·rw [zg6 (Ne.symm hjb)]
    exact hx2
def cyP (z:IV × List Int):List IV:=[z.1]
theorem cyP_len (z:IV × List Int):(cyP z).length=1:=rfl
def CyOK (D k0 B:Nat) (xs:List Int) (J:yLO) (L:List (IV × List Int)):Prop:=∀ z∈L,(∃ b,z.1=.slM D (k0+b) 0 z.2.length z.2.length 1 false/\J[b]?=some (.cells (z.2.flatMap intc)))/\(∃ h r,z.2=h::r/\h∈xs)/\z.2.length<=B
theorem cy_ne {D k0 B:Nat} {xs:List Int} {J:yLO} {L:List (IV × List Int)} (hL:CyOK D k0 B xs J L) {h:Int} {r:List Int}:IObj.cells ((h::r).flatMap intc)≠.cells (L.flatMap cyP):=by
 intro he
 cases L with
 | nil=>simp [intc] at he
 | cons z L =>
  obtain ⟨⟨b,hb,_⟩,_⟩:=hL z (zgi ..)
  have h1:=IObj.cells.inj he
  rw [zgj,zgj] at h1
  simp only [intc,zf,cyP,zgq,zgz,List.cons.injEq,hb] at h1
  cases h1.1
end
section
def cyG (q:SlOf 1 intc):List IV:=[q.v]
theorem yM (q:SlOf 1 intc):(cyG q).length=1:=rfl
theorem frz_slM {n D b len:Nat} {own:yLO} {c c':List IV} (hb:own[b]?=some (.cells c)) (hc:c.length=len) (hm:c.mapM (freeze n D own)=some c'):freeze (n+1) D own (.slM D b 0 len len 1 false)=some (.slC c' len 1 false):=by
 have hseg:seg c 0 (len*1)=some c:=by
  unfold seg
  rw [zc,if_pos (by omega),List.drop_zero,zgg (by omega)]
 simp only [freeze,if_true,hb,hseg,zge,hm,zf2,zgo]
theorem cys_fz {n D:Nat} {own:yLO} (hn:2<=n):∀ {L:List (IV × List Int)},(∀ z∈L,(∃ b,z.1=.slM D b 0 z.2.length z.2.length 1 false/\own[b]?=some (.cells (z.2.flatMap intc)))/\z.2.length<9223372036854775808/\z.2≠[])->∃ cs:List (SlOf 1 intc),cs.map (·.l)=L.map Prod.snd/\(L.flatMap cyP).mapM (freeze n D own)=some (cs.flatMap cyG)
 | [],_=>⟨[],rfl,rfl⟩
 | z::L,h=>by
  obtain ⟨cs,h1,h2⟩:=cys_fz hn (L:=L) fun x hx=>h x (zgn _ hx)
  obtain ⟨⟨b,hv,hb⟩,hl,hne⟩:=h z (zgi ..)
  have hz:=za6 (g:=intc) (Pre:=[]) (J:=own) (d:=D) (m:=n) (lv:=z.1) (xs:=z.2) zk (fun a x hx=>by
   simp only [intc,zgf,zg1,or_false] at hx
   subst hx
   exact zo) hn hl (.inr ⟨b,hne,by rw [hv]; simp,hb⟩)
  rw [zgz] at hz
  refine ⟨rowQ zk z.2 hl::cs,by rw [zg3,zg3,h1,Y5],?_⟩
  simp only [zgj,cyP,cyG,zgq,zgz,zhy,hz,zio,zia,zge]
  rw [h2]
  rfl
theorem cyc_cl (q:SlOf 1 cyG) (n:Nat):clF (n+3) q.v=true:=by
 have hh:∀ (cs:List IV) (k:Nat) (v:IV),Sl 1 cs k v->cs.all (clF (n+2))=true->clF (n+3) v=true:=fun cs k v h hc=>by
  cases h with
  | nil=>rfl
  | row cs n tight hl=>exact hc
 refine hh _ _ _ q.ok ?_
 rw [zhg]
 intro x hx
 obtain ⟨a,_,ha⟩:=zh1.1 hx
 simp only [cyG,zgf,zg1,or_false] at ha
 subst ha
 exact YP a n
theorem lkM_mem {β:Type} {z:β} {L:List (Int × β)} {id:Int}:lkM z L id=z∨lkM z L id∈L.map Prod.snd:=by
 unfold lkM
 cases h:L.find? fun kv=>id==kv.1 with
 | none=>exact .inl rfl
 | some kv=>exact .inr (List.mem_map_of_mem (List.mem_of_find?_eq_some h))
end
section
def FinE (m d:Nat) (out:yLM) (rs:List IRes) (Q:IV->Prop) (o:Out) (st:St):Prop:=(o=.normal∨o=.ret)/\∃ v w,resultI d out st rs=some v/\freeze m d st.own v=some w/\Q w
section
variable {m d:Nat} {out:yLM} {rs:List IRes} {Q:IV->Prop} {st:St}
theorem Zs:FinE m d out rs Q .ret st=∃ v w,resultI d out st rs=some v/\freeze m d st.own v=some w/\Q w:=propext ⟨fun h=>h.2,fun h=>⟨.inr rfl,h⟩⟩
end
theorem ZV {S:ySM} {f:FuncId} {i:IFn} {args:List IV} {m d:Nat} {out:yLM} {ownV own:yLO} {id:Nat} {Q:IV->Prop} (hS:S f args=none) (hi:Ftab f=some i) (hm:i.mode=0) (hl:args.length<=i.ntmps)
  (h:∀ t,Slots i.ntmps t (slotsOf 0 args)->Ex (callN Ftab S m) (d+1) (fun l=>if l=d then ownV else out l) m i.body (FinE m (d+1) (fun l=>if l=d then ownV else out l) i.res Q) ⟨t,[]⟩):∃ v,callN Ftab S (m+1) d out ownV own id f args=some (.r,v,own)/\Q v:=by
 have main:∃ r,callN Ftab S (m+1) d out ownV own id f args=some r/\∃ v,r=(Eff.r,v,own)/\Q v:=by
  refine Yy hS hi (by rw [hm]; decide) hl fun t ht=>(h t ht).mono ?_
  rintro o st ⟨h1,v,w,h2,h3,h4⟩
  exact ⟨h1,v,_,h2,by rw [hm]; simp [leave,h3],w,rfl,h4⟩
 obtain ⟨r,h1,v,rfl,h2⟩:=main
 exact ⟨v,h1,h2⟩
section
variable {S:ySM}
theorem dart_calls (hS:NoS S) (p:Pn) (hfv:FewVia p) (z:Int):∃ N,∀ m,N<=m->∃ (a:Ac) (q':SlOf 2 Pt.c),(pathOk p (absI z)=true->q'.l=pathL p (absI z))/\(∀ d out ownV own id,callN Ftab S m d out ownV own id 156 [.agg p.c,iv z]=some (.r,.tuple [.agg a.c,.bool (dartOk p z)],own)) /\
  ∀ d out ownV own id,callN Ftab S m d out ownV own id 38 [.agg p.c,iv (absI z)]=some (.r,.tuple [q'.v,iv (bif pathOk p (absI z) then 0 else 7)],own):=by
 obtain ⟨a,N1,_,h1⟩:=at_arcOf hS p z hfv
 obtain ⟨q',h2,N2,h3⟩:=Zo hS p (absI z) hfv
 exact ⟨N1+N2,fun m hm=>⟨a,q',h2,h1 m (by omega),h3 m (by omega)⟩⟩
end
end
section
def plV (q:SlOf 2 Pt.c):IV:=q.v
def nilP:SlOf 2 Pt.c:=nilS _ _
theorem pts_cl (q:SlOf 2 Pt.c) (n:Nat):clF (n+2) q.v=true:=by
 have hh:∀ (cs:List IV) (k:Nat) (v:IV),Sl 2 cs k v->cs.all (clF (n+1))=true->clF (n+2) v=true:=fun cs k v h hc=>by
  cases h with
  | nil=>rfl
  | row cs n tight hl=>exact hc
 refine hh _ _ _ q.ok ?_
 rw [zhg]
 intro x hx
 obtain ⟨a,_,ha⟩:=zh1.1 hx
 simp only [Pt.c,zgf,zg1,or_false] at ha
 rcases ha with rfl | rfl <;> rfl
theorem ze8 (L:List (Int × SlOf 2 Pt.c)) (n:Nat):clF (n+3) (.mapC (mKs L) (mVs plV L))=true:=by
 simp only [clF,zf6,zhg]
 refine ⟨fun x hx=>?_,fun x hx=>?_⟩
 ·obtain ⟨a,_,rfl⟩:=zgx.1 hx
  rfl
 ·obtain ⟨a,_,rfl⟩:=zgx.1 hx
  exact pts_cl _ _
theorem paths_fz {n D:Nat} {own:yLO} (hn:4<=n) {i:Nat} {L:List (Int × SlOf 2 Pt.c)} {bs:List Nat} {ck:Nat} (h:own[i]?=some (.map (mKs L) (mVs plV L) bs ck)):freeze n D own (.mapM D i)=some (.mapC (mKs L) (mVs plV L)):=by
 obtain ⟨n,rfl⟩:∃ q,n=q+1:=⟨n - 1,by omega⟩
 have h1:(mKs L).mapM (freeze n D own)=some (mKs L):=zR fun x hx=>by
  obtain ⟨a,_,rfl⟩:=zgx.1 hx
  exact zo n (by omega) _ _
 have h2:(mVs plV L).mapM (freeze n D own)=some (mVs plV L):=zR fun x hx=>by
  obtain ⟨a,_,rfl⟩:=zgx.1 hx
  exact yK ptC_fz a.2 n (by omega) _ _
 simp only [freeze,if_true,h,h1,h2]
end
section
theorem paths_few:∀ (L:List (Int × SlOf 2 Pt.c)),∃ B,∀ kv∈L,kv.2.l.length<=B
 | []=>⟨0,fun _ h=>by simp at h⟩
 | x::L=>by
  obtain ⟨B,hB⟩:=paths_few L
  refine ⟨B+x.2.l.length,fun kv h=>?_⟩
  rcases zgf.1 h with rfl | h
  ·omega
  ·have:=hB kv h
   omega
section
variable {S:ySM}
theorem yE {f:FuncId} {i:IFn} {args:List IV} {m d:Nat} {out:yLM} {ownV ownV' own:yLO} {id id':Nat} (hS:S f args=none) (hi:Ftab f=some i) (hm:i.mode=2):callN Ftab S m d out ownV own id f args=callN Ftab S m d out ownV' own id' f args:=by
 cases m with
 | zero=>rfl
 | succ m=>simp only [callN,hS,hi,hm,if_true]
theorem map_sh {k:Nat} (L:List (Int × SlOf 2 Pt.c)):sh k (.mapC (mKs L) (mVs plV L))=.mapC (mKs L) (mVs plV L):=ze1 (ze8 L 2)
end
end
section
structure ArB where
 tw:Int
 oc:SlOf 1 intc
 iv:IV
 ic:List (SlOf 1 intc)
 av:IV
 al:List Int
def arG (a:ArB):List IV:=[.int .i64 a.tw,a.oc.v,a.iv,a.av]
theorem y3 (a:ArB):(arG a).length=4:=rfl
end
section
theorem mode0_id {S:ySM} {f:FuncId} {i:IFn} {args:List IV} {m d:Nat} {out:yLM} {ownV own:yLO} {id id':Nat} (hS:S f args=none) (hi:Ftab f=some i) (hm:i.mode=0):callN Ftab S m d out ownV own id f args=callN Ftab S m d out ownV own id' f args:=by
 cases m with
 | zero=>rfl
 | succ m =>
  have h2:¬ (0=2):=by decide
  have h1:¬ (0=1):=by decide
  have h3:¬ (0=3):=by decide
  have h4:¬ (4<=0):=by decide
  simp only [callN,hS,hi,hm,if_neg h2,if_neg h3,if_neg h4,leave,if_neg h1]
def OwnT {α:Type} (g:α->List IV) (sz d k0:Nat) (B:Nat->Nat) (τ:Nat) (J:yLO) (lv:IV) (xs:List α):Prop:=(xs=[]/\lv=.nilsl)∨∃ b,xs≠[]/\lv=.slM d (k0+b) 0 xs.length xs.length sz false/\J[b]?=some (.cells (xs.flatMap g))/\B b=τ
section
variable {α:Type} {g:α->List IV} {sz d k0 τ:Nat} {B:Nat->Nat} {J:yLO} {lv:IV} {xs:List α}
theorem OwnT.more (h:OwnT g sz d k0 B τ J lv xs) (r:yLO):OwnT g sz d k0 B τ (J++r) lv xs:=by
 rcases h with h | ⟨b,hne,h1,h2,h3⟩
 ·exact .inl h
 ·exact .inr ⟨b,hne,h1,by rw [zf1 (zfz.1 h2).1]; exact h2,h3⟩
theorem OwnT.len (h:OwnT g sz d k0 B τ J lv xs) {D:Nat} {out:yLM} {ownV own:yLO}:lenV D out ownV own 1 lv=some (.p,.int .i64 (xs.length:Nat),own):=by
 rcases h with ⟨rfl,rfl⟩ | ⟨b,_,rfl,_⟩ <;> rfl
theorem OwnT.scal (h:OwnT g sz d k0 B τ J lv xs):lv.scalar=true:=by
 rcases h with ⟨_,rfl⟩ | ⟨b,_,rfl,_⟩ <;> rfl
theorem OwnT.cells (h:OwnT g sz d k0 B τ J lv xs):lv.cells=[lv]:=by
 rcases h with ⟨_,rfl⟩ | ⟨b,_,rfl,_⟩ <;> rfl
def putB (B:Nat->Nat) (nb τ:Nat):Nat->Nat:=fun j=>if j=nb then τ else B j
theorem zbg (hs:∀ a,(g a).length=sz) {n0 slot k:Nat} {Pre R:yLO} {ys:List α} (hk0:Pre.length=k0) (h:OwnT g sz d k0 B τ J lv xs) (hy:ys.length≠0) (hx:xs.length+ys.length<=1073741824) (hk:n0+slot=k0+(J.length+k)) (hf:R[k]?=some .free) (hsc:(ys.flatMap g).all IV.scalar=true) :
  ∃ e lv' J2,(∀ lk:Nat->Nat->Option IObj,(∀ j x,j<k0+J.length->(Pre++(J++R))[j]?=some x->lk d j=some x)->appendI d n0 lk (Pre++(J++R)) sz lv (ys.flatMap g) ys.length slot=some (e,lv',Pre++J2))/\(e=.a∨∃ i s,e=.k i s)/\OwnT g sz d k0 (putB B (J.length+k) τ) τ J2 lv' (xs++ys)/\J2.length=(J++R).length /\
   ∀ {β:Type} {g':β->List IV} {sz' τ':Nat} {lv0:IV} {zs:List β},τ'≠τ->OwnT g' sz' d k0 B τ' J lv0 zs->OwnT g' sz' d k0 (putB B (J.length+k) τ) τ' J2 lv0 zs:=by
 subst hk0
 have hkl:k<R.length:=(zfz.1 hf).1
 have hget:(J++R)[J.length+k]?=some .free:=by
  rw [zf4 (by omega),zhw]
  exact hf
 have hlt:J.length+k<(J++R).length:=by rw [zga]; omega
 have hne:xs++ys≠[]:=by
  intro he
  exact hy (by rw [(List.append_eq_nil_iff.1 he).2]; rfl)
 rcases h with ⟨rfl,rfl⟩ | ⟨b,_,rfl,h2,h3⟩
 ·refine ⟨.a,.slM d (n0+slot) 0 ys.length ys.length sz false,(J++R).set (J.length+k) (.cells (ys.flatMap g)),fun lk _=>?_,.inl rfl,.inr ⟨J.length+k,hne,by rw [hk]; simp,?_,if_pos rfl⟩,by rw [zid],fun {β g' sz' τ' lv0 zs} hτ hO=>?_⟩
  ·rw [YK hy (by unfold bound; simp at hx; omega)]
   unfold mkAt
   rw [hk,zW,hget]
   simp only [zc]
   rw [ye]
  ·rw [zg9 hlt]
   rfl
  ·rcases hO with hO | ⟨b,hne,h1,h2,h3⟩
   ·exact .inl hO
   ·have hb:=(zfz.1 h2).1
    refine .inr ⟨b,hne,h1,?_,?_⟩
    ·rw [zg6 (by omega),zf1 hb]
     exact h2
    ·unfold putB
     rw [if_neg (by omega)]
     exact h3
 ·have hb:b<J.length:=(zfz.1 h2).1
  have hb2:(J++R)[b]?=some (.cells (xs.flatMap g)):=by rw [zf1 hb]; exact h2
  refine ⟨.k (Pre.length+b) (n0+slot),.slM d (n0+slot) 0 (xs.length+ys.length) (xs.length+ys.length) sz false,((J++R).set b .gone).set (J.length+k) (.cells (xs.flatMap g++ys.flatMap g)),fun lk hlk=>?_,.inr ⟨_,_,rfl⟩,.inr ⟨J.length+k,hne,by rw [hk]; simp,?_,if_pos rfl⟩,by rw [zid,zid],fun {β g' sz' τ' lv0 zs} hτ hO=>?_⟩
  ·rw [Yu hy hx (zq hs) hsc (hlk _ _ (by omega) (by rw [zW]; exact hb2))]
   unfold killAt
   rw [hk,zW,hget]
   simp only [zc]
   rw [ye,ye]
  ·rw [zg9 (by rw [zid]; exact hlt)]
   simp
  ·rcases hO with hO | ⟨b',hne,h1,h2',h3'⟩
   ·exact .inl hO
   ·have hb':=(zfz.1 h2').1
    have hbb:b≠b':=fun he=>hτ (by rw [← h3',← he,h3])
    refine .inr ⟨b',hne,h1,?_,?_⟩
    ·rw [zg6 (by omega),zg6 hbb,zf1 hb']
     exact h2'
    ·unfold putB
     rw [if_neg (by omega)]
     exact h3'
theorem OwnT.set_other {β:Type} {g':β->List IV} {sz' τ' b:Nat} {lv0:IV} {zs:List β} {o:IObj} (hb:B b=τ) (hτ:τ'≠τ) (hO:OwnT g' sz' d k0 B τ' J lv0 zs):OwnT g' sz' d k0 B τ' (J.set b o) lv0 zs:=by
 rcases hO with hO | ⟨b',hne,h1,h2,h3⟩
 ·exact .inl hO
 ·have hbb:b≠b':=fun he=>hτ (by rw [← h3,← he,hb])
  exact .inr ⟨b',hne,h1,by rw [zg6 hbb]; exact h2,h3⟩
end
theorem frz_list {α:Type} {g:α->List IV} {sz:Nat} (hs:∀ a,(g a).length=sz) {n D b:Nat} {own:yLO} {xs:List α} {c':List IV} (hf:(xs.flatMap g).mapM (freeze n D own)=some c') (hb:own[b]?=some (.cells (xs.flatMap g))):freeze (n+1) D own (.slM D b 0 xs.length xs.length sz false)=some (.slC c' xs.length sz false):=by
 have hseg:seg (xs.flatMap g) 0 (xs.length*sz)=some (xs.flatMap g):=by
  unfold seg
  rw [zc,zq hs,if_pos (by omega),List.drop_zero,zgg (by rw [zq hs]; omega)]
 simp only [freeze,if_true,hb,hseg,zge,hf,zf2,zgo]
theorem ownT_fz {α:Type} {g:α->List IV} {sz:Nat} (hs:∀ a,(g a).length=sz) {n D k0 τ:Nat} {B:Nat->Nat} {Pre J:yLO} {lv:IV} {xs:List α} (hk0:Pre.length=k0) (hf:∀ a,∀ x∈g a,Fz n x) (hx:xs.length<9223372036854775808) (h:OwnT g sz D k0 B τ J lv xs):freeze (n+1) D (Pre++J) lv=some (rowQ hs xs hx).v:=by
 subst hk0
 rcases h with ⟨rfl,rfl⟩ | ⟨b,hne,rfl,h2,_⟩
 ·exact ZQ _ (by omega) _ _
 ·have hm:(xs.flatMap g).mapM (freeze n D (Pre++J))=some (xs.flatMap g):=zR fun x hx=>by
   obtain ⟨a,_,ha⟩:=zh1.1 hx
   exact hf a x ha n (zf7 _) _ _
  rw [frz_list hs hm (by rw [zW]; exact h2)]
  cases xs with
  | nil=>exact absurd rfl hne
  | cons x xs=>rfl
end
section
theorem wrN_left:∀ {vs a b:List IV} {k:Nat},k+vs.length<=a.length->wrN (a++b) k vs=wrN a k vs++b
 | [],_,_,_,_=>rfl
 | v::vs,a,b,k,h=>by
  simp only [zf3] at h
  simp only [wrN]
  rw [List.set_append_left _ _ (by omega)]
  exact wrN_left (by rw [zid]; omega)
theorem wrN_right:∀ {vs a b:List IV} {k:Nat},wrN (a++b) (a.length+k) vs=a++wrN b k vs
 | [],_,_,_=>rfl
 | v::vs,a,b,k=>by
  simp only [wrN]
  rw [zie _ _ (by omega),zhw,zgs]
  exact wrN_right
theorem zbh {α:Type} {g:α->List IV} {sz:Nat} (hs:∀ a,(g a).length=sz):∀ {xs:List α} {i k:Nat} {x x':α} {vs:List IV},xs[i]?=some x->k+vs.length<=sz->g x'=wrN (g x) k vs->wrN (xs.flatMap g) (i*sz+k) vs=(xs.set i x').flatMap g
 | [],i,k,x,x',vs,h,_,_=>by simp at h
 | y::xs,0,k,x,x',vs,h,hk,he=>by
  simp only [zg8,zf5] at h
  subst h
  rw [List.set_cons_zero,zgj,zgj,he,zhp,zg5,wrN_left (by rw [hs]; exact hk)]
 | y::xs,i+1,k,x,x',vs,h,hk,he=>by
  simp only [zgc] at h
  rw [zim,zgj,zgj,← zbh hs h hk he,show (i+1)*sz+k=(g y).length+(i*sz+k) by rw [hs,Nat.succ_mul]; omega,wrN_right]
def nilC:SlOf 1 intc:=nilS _ _
structure DivOK (D:Nat) (U:List (SlOf 1 intc)) (n1 n2 n3:Nat) (J:yLO) (B:Nat->Nat) (lv:IV) (A:List ArB) (rv:IV) (rc:List (SlOf 1 intc)):Prop where
 l:OwnT arG 4 D 1 B 0 J lv A
 ne:A≠[]
 len:A.length<=n1+1
 r:OwnT cyG 1 D 1 B 1 J rv rc
 rl:rc.length<=n1
 rU:∀ c∈rc,c∈U
 el:∀ i a,A[i]?=some a->OwnT cyG 1 D 1 B (2+2*i) J a.iv a.ic/\OwnT intc 1 D 1 B (3+2*i) J a.av a.al/\a.ic.length<=n2/\a.al.length<=n3/\(∀ c∈a.ic,c∈U)/\(0<i->a.oc∈U)/\a.oc∈nilC::U
section
variable {D n1 n2 n3:Nat} {U:List (SlOf 1 intc)} {J:yLO} {B:Nat->Nat} {lv rv:IV} {A:List ArB} {rc:List (SlOf 1 intc)}
theorem DivOK.more (h:DivOK D U n1 n2 n3 J B lv A rv rc) (r:yLO):DivOK D U n1 n2 n3 (J++r) B lv A rv rc :=
 ⟨h.l.more r,h.ne,h.len,h.r.more r,h.rl,h.rU,fun i a ha=>by
  obtain ⟨h1,h2,h3⟩:=h.el i a ha
  exact ⟨h1.more r,h2.more r,h3⟩⟩
theorem DivOK.blk (h:DivOK D U n1 n2 n3 J B lv A rv rc):∃ b,lv=.slM D (1+b) 0 A.length A.length 4 false/\J[b]?=some (.cells (A.flatMap arG))/\B b=0:=by
 rcases h.l with ⟨h0,_⟩ | ⟨b,_,h1,h2,h3⟩
 ·exact absurd h0 h.ne
 ·exact ⟨b,h1,h2,h3⟩
theorem DivOK.set {m2 m3:Nat} {J2:yLO} {B2:Nat->Nat} {b i:Nat} {a a':ArB} (h:DivOK D U n1 n2 n3 J B lv A rv rc) (hl:lv=.slM D (1+b) 0 A.length A.length 4 false) (hb:J2[b]?=some (.cells (A.flatMap arG))) (hB:B2 b=0) (ha:A[i]?=some a) (hoc:a'.oc=a.oc)
  (hr:OwnT cyG 1 D 1 B2 1 J2 rv rc) (hm2:n2<=m2) (hm3:n3<=m3)
  (hel:∀ j x,A[j]?=some x->j≠i->OwnT cyG 1 D 1 B2 (2+2*j) J2 x.iv x.ic/\OwnT intc 1 D 1 B2 (3+2*j) J2 x.av x.al)
  (h1:OwnT cyG 1 D 1 B2 (2+2*i) J2 a'.iv a'.ic) (h2:OwnT intc 1 D 1 B2 (3+2*i) J2 a'.av a'.al) (h3:a'.ic.length<=m2) (h4:a'.al.length<=m3) (h5:∀ c∈a'.ic,c∈U) :
  DivOK D U n1 m2 m3 (J2.set b (.cells ((A.set i a').flatMap arG))) B2 lv (A.set i a') rv rc:=by
 have hil:=(zfz.1 ha).1
 have hbl:=(zfz.1 hb).1
 refine ⟨.inr ⟨b,fun he=>h.ne (by have:=congrArg List.length he; simpa using this),by rw [hl,zid],zg9 hbl,hB⟩,fun he=>h.ne (by have:=congrArg List.length he; simpa using this),by rw [zid]; exact h.len,OwnT.set_other hB (by omega) hr,h.rl,h.rU,fun j x hx=>?_⟩
 by_cases hj:j=i
 ·subst hj
  rw [zg9 hil] at hx
  cases hx
  obtain ⟨_,_,_,_,_,h6,h7⟩:=h.el j a ha
  exact ⟨OwnT.set_other hB (by omega) h1,OwnT.set_other hB (by omega) h2,h3,h4,h5,by rw [hoc]; exact h6,by rw [hoc]; exact h7⟩
 ·rw [zg6 (Ne.symm hj)] at hx
  obtain ⟨_,_,g3,g4,g5⟩:=h.el j x hx
  obtain ⟨g1,g2⟩:=hel j x hx hj
  exact ⟨OwnT.set_other hB (by omega) g1,OwnT.set_other hB (by omega) g2,by omega,by omega,g5⟩
end
end
section
theorem arG_rd {A:List ArB} {k j:Nat} {a:ArB} (ha:A[k]?=some a) (hj:j+1<=4):rdN (A.flatMap arG) (k*4+j) 1=rdN (arG a) j 1:=zb y3 j 1 ha hj
theorem DivOK.oc {D n1 n2 n3:Nat} {U:List (SlOf 1 intc)} {J:yLO} {B:Nat->Nat} {lv rv:IV} {A:List ArB} {rc:List (SlOf 1 intc)} (h:DivOK D U n1 n2 n3 J B lv A rv rc):∀ a∈A,a.oc∈nilC::U:=fun a ha=>by
 obtain ⟨i,hi⟩:=zg7 ha
 exact (h.el i a hi).2.2.2.2.2.2
end
section
structure Ar where
 tw:Int
 oc:SlOf 1 intc
 ic:SlOf 1 cyG
 al:SlOf 1 intc
def arF (a:Ar):List IV:=[.int .i64 a.tw,a.oc.v,a.ic.v,a.al.v]
theorem arF_len (a:Ar):(arF a).length=4:=rfl
def AreasOK (U:List (SlOf 1 intc)) (l:List Ar):Prop:=l≠[]/\l.length<=U.length+1/\∀ i a,l[i]?=some a->a.ic.l.length<=U.length/\(∀ c∈a.ic.l,c∈U)/\(0<i->a.oc∈U)/\a.oc∈nilC::U
theorem areas_fz {f:IV->Option IV} {Q:ArB->Ar->Prop}:∀ {A:List ArB},(∀ a∈A,∃ a',Q a a'/\(arG a).mapM f=some (arF a'))->∃ As:List Ar,As.length=A.length/\(∀ (i:Nat) (a:ArB),A[i]?=some a->∃ a',As[i]?=some a'/\Q a a')/\(A.flatMap arG).mapM f=some (As.flatMap arF)
 | [],_=>⟨[],rfl,fun i a h=>by simp at h,rfl⟩
 | a::A,h=>by
  obtain ⟨As,h1,h2,h3⟩:=areas_fz (A:=A) fun x hx=>h x (zgn _ hx)
  obtain ⟨a',hq,hm⟩:=h a (zgi ..)
  refine ⟨a'::As,by simp [h1],fun i x hx=>?_,?_⟩
  ·cases i with
   | zero=>simp only [zg8,zf5] at hx; subst hx; exact ⟨a',rfl,hq⟩
   | succ i=>exact h2 i x (by simpa using hx)
  ·rw [zgj,zgj,List.mapM_append,hm,h3]
   rfl
theorem abs_id {i h:Int} (h1:1<=i) (h2:i<=4611686018427387904) (hh:h=i∨h=wrapI .i64 (0 - i)):absI h=i:=by
 have w1:wrapI .i64 (0 - i)=-i:=zX (by omega) (by omega) (by omega)
 rcases hh with rfl | rfl
 ·unfold absI
  rw [w1,if_neg (by omega)]
 ·unfold absI
  rw [w1,show wrapI .i64 (0 - -i)=i from zX (by omega) (by omega) (by omega),if_pos (by omega)]
theorem ze9 (q:SlOf 4 arF) (n:Nat):clF (n+4) q.v=true:=by
 have hh:∀ (cs:List IV) (k:Nat) (v:IV),Sl 4 cs k v->cs.all (clF (n+3))=true->clF (n+4) v=true:=fun cs k v h hc=>by
  cases h with
  | nil=>rfl
  | row cs n tight hl=>exact hc
 refine hh _ _ _ q.ok ?_
 rw [zhg]
 intro x hx
 obtain ⟨a,_,ha⟩:=zh1.1 hx
 simp only [arF,zgf,zg1,or_false] at ha
 rcases ha with rfl | rfl | rfl | rfl
 ·rfl
 ·exact YP _ _
 ·exact cyc_cl _ _
 ·exact YP _ _
end
section
section
variable {S:ySM}
theorem acyc_gives (hS:NoS S) (a:Ar) (ha:a.ic.l.length<=65536):∃ q:SlOf 1 cyG,q.l=a.oc::a.ic.l/\∃ N,GivesN S N 123 [.agg (arF a)] q.v:=by
 have hoc:Fz 3 a.oc.v:=yK (fun a x hx=>by
  simp only [intc,zgf,zg1,or_false] at hx
  subst hx
  exact zo) a.oc
 by_cases h0:a.ic.l.length=0
 ·refine ⟨mkRow yM [a.oc] 1 true rfl (by omega),by rw [zhd.1 h0]; rfl,10,yg (i:=i123) (ns hS (by rfl)) rfl rfl (lb rfl) 9 fun m hm d out t hfr=>?_⟩
  simp only [V2,Xb,i123,arF] at hfr
  have hap:∀ n0 lk (own:yLO),appendI d n0 lk own 1 (.slC [a.oc.v] 1 1 true) (a.ic.l.flatMap cyG) a.ic.l.length 0=some (.r,.slC [a.oc.v] 1 1 true,own):=fun n0 lk own=>by
   unfold appendI
   rw [if_pos h0]
  simp only [i123,V0,sevalprocAttr,hfr,rep,zt,zJ,zT,yV,hap,yo]
  refine ⟨_,rfl,?_⟩
  exact fz_slC (k:=3) (fun x hx=>by
   simp only [zgf,zg1,or_false] at hx
   subst hx
   exact hoc) m (by omega) _ _
 ·have hlen:(a.oc::a.ic.l).length=1+a.ic.l.length:=by rw [zf3]; omega
  refine ⟨mkRow yM (a.oc::a.ic.l) (1+a.ic.l.length) false hlen (by omega),rfl,10,yg (i:=i123) (ns hS (by rfl)) rfl rfl (lb rfl) 9 fun m hm d out t hfr=>?_⟩
  simp only [V2,Xb,i123,arF] at hfr
  have hap:∀ lk (b:IObj),appendI d 1 lk [b,.free] 1 (.slC [a.oc.v] 1 1 true) (a.ic.l.flatMap cyG) a.ic.l.length 0=some (.a,.slM d 1 0 (1+a.ic.l.length) (1+a.ic.l.length) 1 false,[b,.cells ((a.oc::a.ic.l).flatMap cyG)]):=fun lk b=>by
   unfold appendI
   rw [if_neg h0]
   simp only
   rw [if_pos ⟨by unfold bound; omega,trivial⟩]
   simp [seg,zc,mkAt,cyG]
  simp only [i123,V0,sevalprocAttr,hfr,rep,zt,zJ,zT,yV,hap,yo]
  refine ⟨_,rfl,?_⟩
  have:=yW (k:=3) (m:=m) (d:=d) (i:=1) (n:=1+a.ic.l.length) (own:=[.cells (arF a),.cells ((a.oc::a.ic.l).flatMap cyG)]) (tight:=false) (g:=cyG) (fun c x hx=>by
   simp only [cyG,zgf,zg1,or_false] at hx
   subst hx
   exact yK (fun a x hx=>by
    simp only [intc,zgf,zg1,or_false] at hx
    subst hx
    exact zo) c) (by omega) hlen yM rfl
  exact this
end
end
section
theorem zbi:∀ {n:Nat} {v:IV},clF n v=true->Fz n v
 | 0,v,h=>by simp [clF] at h
 | n+1,v,h=>fun m hm lv own=>by
  obtain ⟨m,rfl⟩:∃ q,m=q+1:=⟨m - 1,by omega⟩
  have ih:∀ {cs:List IV},cs.all (clF n)=true->cs.mapM (freeze m lv own)=some cs:=fun h=>zR fun c hc=>zbi (zhg.1 h c hc) m (by omega) lv own
  cases v <;> simp only [clF,zf6,zgk] at h <;> simp only [freeze] <;> first | rfl | (rw [ih h]; rfl) | (rw [ih h.1,ih h.2])
theorem plan_zero {p:Pn} {v:Bool} (h:planE p v=0):limI p=false/\limV p=false/\ordB p=true/\rngB p=true/\connE p (p.ns.l.map Nd.id)=0/\v=true:=by
 unfold planE at h
 cases h1:(limI p||limV p)
 ·rw [h1] at h
  rw [zhz] at h1
  cases h2:ordB p
  ·rw [h2] at h; simp at h
  ·rw [h2] at h
   cases h3:rngB p
   ·rw [h3] at h; simp at h
   ·rw [h3] at h
    cases h4:(connE p (p.ns.l.map Nd.id)==0)
    ·rw [h4] at h
     simp only [zh2,cond_false] at h
     rw [h] at h4
     simp at h4
    ·rw [h4] at h
     cases v
     ·simp at h
     ·exact ⟨h1.1,h1.2,rfl,rfl,by simpa using h4,rfl⟩
 ·rw [h1] at h; simp at h
end
section
noncomputable def ngI (z:Int):Int:=wrapI .i64 (0 - z)
noncomputable def sideR (p:Pn) (z:Int):Int:=bif decide (0<z) then (arcD p z).l else bif decide (0<ngI z) then (arcD p (ngI z)).r else 0
noncomputable def pathZ (p:Pn) (z:Int):List Pt:=bif decide (0<z) then pathL p z else (pathL p (ngI z)).reverse
def pathZok (p:Pn) (z:Int):Prop:=if 0<z then pathOk p z=true else pathOk p (ngI z)=true
section
variable {S:ySM}
noncomputable def secZ (p:Pn) (z:Int):Pt:=((pathZ p z)[1]?).getD ⟨0,0⟩
end
end
section
noncomputable def dartsA (node:Int) (a:Ac):List Int:=(if (a.fr==node)=true then [a.id] else [])++(if (a.to==node)=true then [ngI a.id] else [])
noncomputable def dartsAt (p:Pn) (node:Int):List Int:=p.az.l.flatMap (dartsA node)
end
section
def inR (n s t:Int):Int:=bif decide (0<=s)&&(decide (s<=n)&&(decide (0<=t)&&decide (t<=n))) then 1 else 0
noncomputable def meetQ (a b c d:Pt):Int:=bif crR a b c d==0 then (bif (crR a b a c != 0)||((crR a b a d != 0)||((crR c d c a != 0)||(crR c d c b != 0))) then 0 else sharedI a b c d) else
 bif decide (crR a b c d<0) then inR (wrapI .i64 (0 - crR a b c d)) (wrapI .i64 (0 - crR a c c d)) (wrapI .i64 (0 - crR a c a b)) else inR (crR a b c d) (crR a c c d) (crR a c a b)
noncomputable def meetR (a b c d:Pt):Int:=bif [a,b,c,d].all nearP then (bif ptE a b&&(ptE c d&&!ptE a c) then 0 else meetQ a b c d) else 0
end
section
section
variable {S:ySM}
def idsL (p:Pn) (arcs:Bool):List Int:=bif arcs then p.az.l.map Ac.id else p.ns.l.map Nd.id
end
end
section
def rkTo {α:Type} (lt:α->α->Bool) (l:List α) (x:α) (n:Nat):Nat:=((l.take n).filter fun y=>lt y x).length
def rkL {α:Type} (lt:α->α->Bool) (l:List α):List Nat:=l.map fun x=>rkTo lt l x l.length
def pick {β:Type} (ds:List β) (rk:List Nat) (r:Nat):Option β:=(rk.findIdx? fun x=>x==r).bind fun i=>ds[i]?
def selTo {β:Type} (ds:List β) (rk:List Nat):Nat->Option (List β)
 | 0=>some []
 | r+1=>(selTo ds rk r).bind fun l=>(pick ds rk r).map fun x=>l++[x]
def selL {β:Type} (ds:List β) (rk:List Nat):List β:=(selTo ds rk ds.length).getD []
end
end Go.Proofs.YtdacpmgnhkmnkaaGreatDoor
end
section
namespace Go.Proofs.YtdacpmgnhkmnkaaGreatDoor
section
section
variable {α β:Type} {lt:α->α->Bool} {s:β->α}
theorem rank_at:∀ {A B:List β} {x:β},(∀ a∈A,lt (s a) (s x)=true)->(∀ b∈B,lt (s b) (s x)=false)->lt (s x) (s x)=false->((A++x::B).filter fun y=>lt (s y) (s x)).length=A.length:=fun {A B x} hA hB hx=>by
 rw [List.filter_append,List.filter_cons,hx,if_neg (by decide),zga,List.filter_eq_self.2 hA,List.filter_eq_nil_iff.2 (fun b hb=>by rw [hB b hb]; decide)]
 rfl
theorem rk_get {ds:List β} {i:Nat} {x:β} (hx:ds[i]?=some x):(rkL lt (ds.map s))[i]?=some ((ds.filter fun y=>lt (s y) (s x)).length):=by
 unfold rkL
 rw [zgd,zgd,hx]
 show some (rkTo lt (ds.map s) (s x) (ds.map s).length)=_
 unfold rkTo
 rw [List.take_length,List.filter_map,zgw]
 rfl
theorem sel_sorted {ds L:List β} (hp:L.Perm ds) (hP:L.Pairwise fun a b=>lt (s a) (s b)=true) (asy:∀ a∈ds,∀ b∈ds,lt (s a) (s b)=true->lt (s b) (s a)=false) (irr:∀ a∈ds,lt (s a) (s a)=false):selL ds (rkL lt (ds.map s))=L:=by
 have hrank:∀ (r:Nat) (x:β),L[r]?=some x->(ds.filter fun y=>lt (s y) (s x)).length=r:=fun r x hx=>by
  have hr:=(zfz.1 hx).1
  have hspl:L=L.take r++x::L.drop (r+1):=by
   rw [← zih r L]
   congr 1
   ·rw [zih]
   ·rw [zih,List.drop_eq_getElem_cons hr,(zfz.1 hx).2]
  rw [← (hp.filter _).length_eq]
  rw [hspl] at hP hp
  rw [List.pairwise_append,zib] at hP
  obtain ⟨_,⟨h1,_⟩,h2⟩:=hP
  have hxm:x∈ds:=hp.mem_iff.1 (by simp)
  have:=rank_at (lt:=lt) (s:=s) (A:=L.take r) (B:=L.drop (r+1)) (x:=x) (fun a ha=>h2 a ha x (zgi ..)) (fun b hb=>asy x hxm b (hp.mem_iff.1 (by simp [hb])) (h1 b hb)) (irr x hxm)
  rw [← hspl] at this
  rw [this,zhx]
  omega
 have hpick:∀ (r:Nat) (x:β),L[r]?=some x->pick ds (rkL lt (ds.map s)) r=some x:=fun r x hx=>by
  have hxm:x∈ds:=hp.mem_iff.1 (zgl hx)
  obtain ⟨i0,hi0⟩:=zg7 hxm
  have hk0:=rk_get (lt:=lt) (s:=s) hi0
  rw [hrank r x hx] at hk0
  unfold pick
  cases hf:(rkL lt (ds.map s)).findIdx? (fun x=>x==r) with
  | none =>
   have:=zij.1 hf r (zgl hk0)
   simp at this
  | some i =>
   rw [zge]
   obtain ⟨hil,hi,_⟩:=zh0.1 hf
   have hlen:(rkL lt (ds.map s)).length=ds.length:=by unfold rkL; rw [zgw,zgw]
   have hid:i<ds.length:=by omega
   have hy:=zf0 hid
   have hk:=rk_get (lt:=lt) (s:=s) hy
   rw [zf0 hil,zf5] at hk
   rw [hk] at hi
   have hym:ds[i]∈L:=hp.mem_iff.2 (zgt hid)
   obtain ⟨j,hj⟩:=zg7 hym
   have hjr:=hrank j _ hj
   have hrj:j=r:=by
    have:=eq_of_beq hi
    omega
   rw [hrj,hx] at hj
   rw [hy]
   exact hj.symm
 have hsel:∀ r,r<=L.length->selTo ds (rkL lt (ds.map s)) r=some (L.take r):=fun r=>by
  induction r with
  | zero=>intro _; rfl
  | succ r ih =>
   intro h
   have hx:=zf0 (show r<L.length by omega)
   show ((selTo ds (rkL lt (ds.map s)) r).bind fun l=>(pick ds (rkL lt (ds.map s)) r).map fun x=>l++[x])=_
   rw [ih (by omega),zge,hpick r _ hx,zhb,hx]
   rfl
 unfold selL
 rw [← hp.length_eq,hsel _ (zf7 _),List.take_length]
 rfl
end
end
end Go.Proofs.YtdacpmgnhkmnkaaGreatDoor
end
