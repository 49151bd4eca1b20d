/-
  A part of the proof: the small machine, its simulation and its walks.
-/
import Derived.Test.YtgmifgfbnnbgjaaGreatDoorZb
import Derived.Test.YtgmifgfbnnbgjaaGreatDoorZd
import Derived.Test.YtgmifgfbnnbgjaaGreatDoorZe
import Derived.Test.YtgmifgfbnnbgjaaGreatDoorZg
import Derived.Test.YtgmifgfbnnbgjaaGreatDoorZi
import Derived.Test.YtgmifgfbnnbgjaaGreatDoorZj
set_option linter.unusedVariables false
set_option linter.unusedSimpArgs false
set_option maxRecDepth 1000000
set_option maxHeartbeats 3200000
section
namespace Go.Proofs.YtgmifgfbnnbgjaaGreatDoor
open Go Go.RowKit
section
theorem Z8 {n d:Nat} {o:yLO}:∀ xs:List Int,(xs.flatMap intc).mapM (freeze (n+1) d o)=some (xs.flatMap intc)
 | []=>rfl
 | x::xs=>by
  have ih:=Z8 (n:=n) (d:=d) (o:=o) xs
  have f:freeze (n+1) d o (iv x)=some (iv x):=rfl
  rw [zbg]
  simp only [intc,zbd,zbk,List.mapM_cons,f,ih,Option.pure_def,Option.bind_eq_bind,za7]
end
section
structure Rg where
 a:Ac
 (k n:Nat)
 (A B:Pt)
def Rg.c (s:Rg):List IV:=[.int .i64 s.a.id,.int .i64 s.a.fr,.int .i64 s.a.to,s.a.via.v,.int .i64 s.a.l,.int .i64 s.a.r,.int .i64 (s.k:Int),.int .i64 (s.n:Int),.int .i64 s.A.x,.int .i64 s.A.y,.int .i64 s.B.x,.int .i64 s.B.y]
theorem Rg.c_len (s:Rg):s.c.length=12:=rfl
def Rg.sp (s:Rg):Sp:=⟨s.a.id,s.a.fr,s.a.to,s.k,s.n,s.A,s.B⟩
end
section
def eqL {α:Type} (f:α->α->Bool):List α->List α->Bool
 | [],[]=>true
 | x::l,y::l'=>f x y&&eqL f l l'
 | _,_=>false
def eqTo {α:Type} (f:α->α->Bool) (l l':List α) (k:Nat):Prop:=∀ i x y,i<k->l[i]?=some x->l'[i]?=some y->f x y=true
section
variable {α:Type} {f:α->α->Bool}
theorem Yc:∀ {l l':List α},eqL f l l'=true->l.length=l'.length
 | [],[],_=>rfl
 | x::l,y::l',h=>by
  rw [eqL,za3] at h
  rw [zau,zau,Yc h.2]
 | [],_::_,h=>by cases h
 | _::_,[],h=>by cases h
theorem Yd:∀ {l l':List α},l.length=l'.length->eqTo f l l' l.length->eqL f l l'=true
 | [],[],_,_=>rfl
 | x::l,y::l',hl,h=>by
  rw [eqL,za3]
  refine ⟨h 0 x y (by simp) rfl rfl,Yd (by simpa using hl) fun i u v hi hu hv=>h (i+1) u v (by simp; omega) (by simpa using hu) (by simpa using hv)⟩
 | [],_::_,hl,_=>by cases hl
 | _::_,[],hl,_=>by cases hl
theorem Ye:∀ {l l':List α} {i:Nat} {x y:α},l[i]?=some x->l'[i]?=some y->f x y=false->eqL f l l'=false
 | a::l,b::l',0,x,y,hx,hy,h=>by
  simp only [za8,zao] at hx hy
  subst hx hy
  rw [eqL,h,Bool.false_and]
 | a::l,b::l',i+1,x,y,hx,hy,h=>by
  simp only [za1] at hx hy
  rw [eqL,Ye hx hy h,Bool.and_false]
 | [],_,_,_,_,hx,_,_=>by simp at hx
 | _::_,[],_,_,_,_,hy,_=>by simp at hy
theorem Zu {l l':List α} {i:Nat} {x y:α} (h:eqTo f l l' i) (hx:l[i]?=some x) (hy:l'[i]?=some y) (he:f x y=true):eqTo f l l' (i+1):=fun j u v hj hu hv=>by
 by_cases hji:j=i
 ·subst hji
  rw [hx] at hu
  rw [hy] at hv
  cases hu
  cases hv
  exact he
 ·exact h j u v (by omega) hu hv
theorem eqTo_0 {l l':List α}:eqTo f l l' 0:=fun i _ _ h=>absurd h (Nat.not_lt_zero _)
end
def intE (x y:Int):Bool:=x==y
theorem yI (z:Int) (w:Int):(z != w)=!(z==w):=rfl
section
variable {S:ySM}
theorem at_eqI (hS:NoS S) (a b:SlOf 1 intc):GivesN S (a.l.length+4) 62 [a.v,b.v] (.bool (eqL intE a.l b.l)):=by
 refine zh (i:=i62) (ns hS (by rfl)) rfl rfl (lb rfl) (a.l.length+3) (by omega) zm fun m hm d out t hfr=>?_
 simp only [V2,Nat.reduceAdd,i62] at hfr
 have haf:=a.few
 have hbf:=b.few
 have q1:(true != false)=true:=rfl
 have q2:(true != true)=false:=rfl
 cases hlen:((a.l.length:Nat):Int)==((b.l.length:Nat):Int)
 ·have hf:eqL intE a.l b.l=false:=by
   rw [← Bool.not_eq_true]
   intro h
   rw [Yc h] at hlen
   simp at hlen
  simp only [i62,V0,Nat.reduceLT,Nat.reduceAdd,Nat.reduceMul,Nat.reduceLeDiff,Nat.reduceEqDiff,reduceCtorEq,hfr,yI,hlen,zbj,hf]
 ·have hle:a.l.length=b.l.length:=by
   have:((a.l.length:Nat):Int)=((b.l.length:Nat):Int):=by simpa using hlen
   omega
  simp only [i62,V0,Nat.reduceLT,Nat.reduceAdd,Nat.reduceMul,Nat.reduceLeDiff,Nat.reduceEqDiff,reduceCtorEq,hfr,yI,hlen,zbm]
  refine zd (fun jj st=>∃ (i:Nat) (O:yLO),a.l.length - i<=jj/\i<=a.l.length/\eqTo intE a.l b.l i/\st.own=O/\Slots 26 st.t [(0,a.v),(1,b.v),(12,iv (a.l.length:Nat)),(13,iv i)]) a.l.length (by omega) ⟨0,_,by omega,by omega,eqTo_0,rfl,by simp only [V0,Nat.reduceLT,Nat.reduceAdd,Nat.reduceMul,Nat.reduceLeDiff,Nat.reduceEqDiff,reduceCtorEq,hfr,zbe]⟩ ?_
  clear hfr
  rintro jj ⟨t,own⟩ KA ⟨i,O,hjj,hi,ha,ho,hfr⟩ hnA heA hrA
  dsimp only at ho hfr
  subst ho
  simp only [V3] at hfr
  by_cases h:i<a.l.length
  ·have h2:i<b.l.length:=by omega
   obtain ⟨x,hx⟩:=gx (l:=a.l) (i:=i) h
   obtain ⟨y,hy⟩:=gx (l:=b.l) (i:=i) h2
   have hrx:rdN (a.l.flatMap intc) (i*1) 1=some [.int .i64 x]:=(ze zi 0 1 hx (by omega)).trans rfl
   have hry:rdN (b.l.flatMap intc) (i*1) 1=some [.int .i64 y]:=(ze zi 0 1 hy (by omega)).trans rfl
   have hw:wrapI .i64 ((i:Int)+1)=((i+1:Nat):Int):=we
   cases hq:intE x y
   ·have hq':=hq
    unfold intE at hq'
    simp only [V0,Nat.reduceLT,Nat.reduceAdd,Nat.reduceMul,Nat.reduceLeDiff,Nat.reduceEqDiff,reduceCtorEq,hfr,h,Int.ofNat_lt,zc a h,zc b h2,hrx,hry,yI,hq',q1,q2,zbj,zbm]
    refine ⟨by simp [comm],?_⟩
    simp only [V0,Nat.reduceLT,Nat.reduceAdd,Nat.reduceMul,Nat.reduceLeDiff,Nat.reduceEqDiff,reduceCtorEq,hfr,yI,hq',q1,q2,zbj]
    refine hrA _ ?_
    simp only [V0,Nat.reduceLT,Nat.reduceAdd,Nat.reduceMul,Nat.reduceLeDiff,Nat.reduceEqDiff,reduceCtorEq,hfr,Ye hx hy hq]
   ·have hq':=hq
    unfold intE at hq'
    simp only [V0,Nat.reduceLT,Nat.reduceAdd,Nat.reduceMul,Nat.reduceLeDiff,Nat.reduceEqDiff,reduceCtorEq,hfr,h,Int.ofNat_lt,zc a h,zc b h2,hrx,hry,yI,hq',q1,q2,zbj,zbm]
    refine ⟨by simp [comm],?_⟩
    simp only [V0,Nat.reduceLT,Nat.reduceAdd,Nat.reduceMul,Nat.reduceLeDiff,Nat.reduceEqDiff,reduceCtorEq,hfr,yI,hq',q1,q2,zbm,hw]
    exact hnA _ (a.l.length - (i+1)) (by omega) ⟨i+1,_,by omega,by omega,Zu ha hx hy hq,rfl,by simp only [V0,Nat.reduceLT,Nat.reduceAdd,Nat.reduceMul,Nat.reduceLeDiff,Nat.reduceEqDiff,reduceCtorEq,hfr,hw]⟩
  ·have hall:eqL intE a.l b.l=true:=Yd hle fun j u v hj hu hv=>ha j u v (by omega) hu hv
   simp only [V0,Nat.reduceLT,Nat.reduceAdd,Nat.reduceMul,Nat.reduceLeDiff,Nat.reduceEqDiff,reduceCtorEq,hfr,h,Int.ofNat_lt]
   refine heA _ _ ?_
   simp only [V0,Nat.reduceLT,Nat.reduceAdd,Nat.reduceMul,Nat.reduceLeDiff,Nat.reduceEqDiff,reduceCtorEq,hfr,hall]
theorem at_eqP (hS:NoS S) (a b:SlOf 2 Pt.c):GivesN S (a.l.length+4) 45 [a.v,b.v] (.bool (eqL ptE a.l b.l)):=by
 refine zh (i:=i45) (ns hS (by rfl)) rfl rfl (lb rfl) (a.l.length+3) (by omega) zm fun m hm d out t hfr=>?_
 simp only [V2,Nat.reduceAdd,i45] at hfr
 have haf:=a.few
 have hbf:=b.few
 have q1:(true != false)=true:=rfl
 have q2:(true != true)=false:=rfl
 cases hlen:((a.l.length:Nat):Int)==((b.l.length:Nat):Int)
 ·have hf:eqL ptE a.l b.l=false:=by
   rw [← Bool.not_eq_true]
   intro h
   rw [Yc h] at hlen
   simp at hlen
  simp only [i45,V0,Nat.reduceLT,Nat.reduceAdd,Nat.reduceMul,Nat.reduceLeDiff,Nat.reduceEqDiff,reduceCtorEq,hfr,yI,hlen,zbj,hf]
 ·have hle:a.l.length=b.l.length:=by
   have:((a.l.length:Nat):Int)=((b.l.length:Nat):Int):=by simpa using hlen
   omega
  simp only [i45,V0,Nat.reduceLT,Nat.reduceAdd,Nat.reduceMul,Nat.reduceLeDiff,Nat.reduceEqDiff,reduceCtorEq,hfr,yI,hlen,zbm]
  refine zd (fun jj st=>∃ (i:Nat) (O:yLO),a.l.length - i<=jj/\i<=a.l.length/\eqTo ptE a.l b.l i/\st.own=O/\Slots 26 st.t [(0,a.v),(1,b.v),(12,iv (a.l.length:Nat)),(13,iv i)]) a.l.length (by omega) ⟨0,_,by omega,by omega,eqTo_0,rfl,by simp only [V0,Nat.reduceLT,Nat.reduceAdd,Nat.reduceMul,Nat.reduceLeDiff,Nat.reduceEqDiff,reduceCtorEq,hfr,zbe]⟩ ?_
  clear hfr
  rintro jj ⟨t,own⟩ KA ⟨i,O,hjj,hi,ha,ho,hfr⟩ hnA heA hrA
  dsimp only at ho hfr
  subst ho
  simp only [V3] at hfr
  by_cases h:i<a.l.length
  ·have h2:i<b.l.length:=by omega
   obtain ⟨x,hx⟩:=gx (l:=a.l) (i:=i) h
   obtain ⟨y,hy⟩:=gx (l:=b.l) (i:=i) h2
   have hrx:rdN (a.l.flatMap Pt.c) (i*2) 2=some [.int .i64 x.x,.int .i64 x.y]:=(ze Pt.c_len 0 2 hx (by omega)).trans rfl
   have hry:rdN (b.l.flatMap Pt.c) (i*2) 2=some [.int .i64 y.x,.int .i64 y.y]:=(ze Pt.c_len 0 2 hy (by omega)).trans rfl
   have hw:wrapI .i64 ((i:Int)+1)=((i+1:Nat):Int):=we
   cases hq:ptE x y
   ·have hq':=hq
    unfold ptE at hq'
    simp only [V0,Nat.reduceLT,Nat.reduceAdd,Nat.reduceMul,Nat.reduceLeDiff,Nat.reduceEqDiff,reduceCtorEq,hfr,h,Int.ofNat_lt,zc a h,zc b h2,hrx,hry,eqp2,yI,hq',q1,q2,zbj,zbm]
    refine ⟨by simp [comm],?_⟩
    simp only [V0,Nat.reduceLT,Nat.reduceAdd,Nat.reduceMul,Nat.reduceLeDiff,Nat.reduceEqDiff,reduceCtorEq,hfr,eqp2,yI,hq',q1,q2,zbj]
    refine hrA _ ?_
    simp only [V0,Nat.reduceLT,Nat.reduceAdd,Nat.reduceMul,Nat.reduceLeDiff,Nat.reduceEqDiff,reduceCtorEq,hfr,Ye hx hy hq]
   ·have hq':=hq
    unfold ptE at hq'
    simp only [V0,Nat.reduceLT,Nat.reduceAdd,Nat.reduceMul,Nat.reduceLeDiff,Nat.reduceEqDiff,reduceCtorEq,hfr,h,Int.ofNat_lt,zc a h,zc b h2,hrx,hry,eqp2,yI,hq',q1,q2,zbj,zbm]
    refine ⟨by simp [comm],?_⟩
    simp only [V0,Nat.reduceLT,Nat.reduceAdd,Nat.reduceMul,Nat.reduceLeDiff,Nat.reduceEqDiff,reduceCtorEq,hfr,eqp2,yI,hq',q1,q2,zbm,hw]
    exact hnA _ (a.l.length - (i+1)) (by omega) ⟨i+1,_,by omega,by omega,Zu ha hx hy hq,rfl,by simp only [V0,Nat.reduceLT,Nat.reduceAdd,Nat.reduceMul,Nat.reduceLeDiff,Nat.reduceEqDiff,reduceCtorEq,hfr,hw]⟩
  ·have hall:eqL ptE a.l b.l=true:=Yd hle fun j u v hj hu hv=>ha j u v (by omega) hu hv
   simp only [V0,Nat.reduceLT,Nat.reduceAdd,Nat.reduceMul,Nat.reduceLeDiff,Nat.reduceEqDiff,reduceCtorEq,hfr,h,Int.ofNat_lt]
   refine heA _ _ ?_
   simp only [V0,Nat.reduceLT,Nat.reduceAdd,Nat.reduceMul,Nat.reduceLeDiff,Nat.reduceEqDiff,reduceCtorEq,hfr,hall]
theorem ar_path (hS:NoS S) (a b:SlOf 2 Pt.c):GivesN S (a.l.length+4) 98 [a.v,b.v] (.bool (eqL ptE a.l b.l)):=by
 refine zh (i:=i98) (ns hS (by rfl)) rfl rfl (lb rfl) (a.l.length+3) (by omega) zm fun m hm d out t hfr=>?_
 simp only [V2,Nat.reduceAdd,i98] at hfr
 have haf:=a.few
 have hbf:=b.few
 have q1:(true != false)=true:=rfl
 have q2:(true != true)=false:=rfl
 cases hlen:((a.l.length:Nat):Int)==((b.l.length:Nat):Int)
 ·have hf:eqL ptE a.l b.l=false:=by
   rw [← Bool.not_eq_true]
   intro h
   rw [Yc h] at hlen
   simp at hlen
  simp only [i98,V0,Nat.reduceLT,Nat.reduceAdd,Nat.reduceMul,Nat.reduceLeDiff,Nat.reduceEqDiff,reduceCtorEq,hfr,yI,hlen,zbj,hf]
 ·have hle:a.l.length=b.l.length:=by
   have:((a.l.length:Nat):Int)=((b.l.length:Nat):Int):=by simpa using hlen
   omega
  simp only [i98,V0,Nat.reduceLT,Nat.reduceAdd,Nat.reduceMul,Nat.reduceLeDiff,Nat.reduceEqDiff,reduceCtorEq,hfr,yI,hlen,zbm]
  refine zd (fun jj st=>∃ (i:Nat) (O:yLO),a.l.length - i<=jj/\i<=a.l.length/\eqTo ptE a.l b.l i/\st.own=O/\Slots 26 st.t [(0,a.v),(1,b.v),(5,iv i)]) a.l.length (by omega) ⟨0,_,by omega,by omega,eqTo_0,rfl,by simp only [V0,Nat.reduceLT,Nat.reduceAdd,Nat.reduceMul,Nat.reduceLeDiff,Nat.reduceEqDiff,reduceCtorEq,hfr,zbe]⟩ ?_
  clear hfr
  rintro jj ⟨t,own⟩ KA ⟨i,O,hjj,hi,ha,ho,hfr⟩ hnA heA hrA
  dsimp only at ho hfr
  subst ho
  simp only [V3] at hfr
  by_cases h:i<a.l.length
  ·have h2:i<b.l.length:=by omega
   obtain ⟨x,hx⟩:=gx (l:=a.l) (i:=i) h
   obtain ⟨y,hy⟩:=gx (l:=b.l) (i:=i) h2
   have hrx:rdN (a.l.flatMap Pt.c) (i*2) 2=some [.int .i64 x.x,.int .i64 x.y]:=(ze Pt.c_len 0 2 hx (by omega)).trans rfl
   have hry:rdN (b.l.flatMap Pt.c) (i*2) 2=some [.int .i64 y.x,.int .i64 y.y]:=(ze Pt.c_len 0 2 hy (by omega)).trans rfl
   have hw:wrapI .i64 ((i:Int)+1)=((i+1:Nat):Int):=we
   cases hq:ptE x y
   ·have hq':=hq
    unfold ptE at hq'
    simp only [V0,Nat.reduceLT,Nat.reduceAdd,Nat.reduceMul,Nat.reduceLeDiff,Nat.reduceEqDiff,reduceCtorEq,hfr,h,Int.ofNat_lt,zc a h,zc b h2,hrx,hry,eqp2,yI,hq',q1,q2,zbj,zbm]
    refine ⟨by simp [comm],?_⟩
    simp only [V0,Nat.reduceLT,Nat.reduceAdd,Nat.reduceMul,Nat.reduceLeDiff,Nat.reduceEqDiff,reduceCtorEq,hfr,eqp2,yI,hq',q1,q2,zbj]
    refine hrA _ ?_
    simp only [V0,Nat.reduceLT,Nat.reduceAdd,Nat.reduceMul,Nat.reduceLeDiff,Nat.reduceEqDiff,reduceCtorEq,hfr,Ye hx hy hq]
   ·have hq':=hq
    unfold ptE at hq'
    simp only [V0,Nat.reduceLT,Nat.reduceAdd,Nat.reduceMul,Nat.reduceLeDiff,Nat.reduceEqDiff,reduceCtorEq,hfr,h,Int.ofNat_lt,zc a h,zc b h2,hrx,hry,eqp2,yI,hq',q1,q2,zbj,zbm]
    refine ⟨by simp [comm],?_⟩
    simp only [V0,Nat.reduceLT,Nat.reduceAdd,Nat.reduceMul,Nat.reduceLeDiff,Nat.reduceEqDiff,reduceCtorEq,hfr,eqp2,yI,hq',q1,q2,zbm,hw]
    exact hnA _ (a.l.length - (i+1)) (by omega) ⟨i+1,_,by omega,by omega,Zu ha hx hy hq,rfl,by simp only [V0,Nat.reduceLT,Nat.reduceAdd,Nat.reduceMul,Nat.reduceLeDiff,Nat.reduceEqDiff,reduceCtorEq,hfr,hw]⟩
  ·have hall:eqL ptE a.l b.l=true:=Yd hle fun j u v hj hu hv=>ha j u v (by omega) hu hv
   simp only [V0,Nat.reduceLT,Nat.reduceAdd,Nat.reduceMul,Nat.reduceLeDiff,Nat.reduceEqDiff,reduceCtorEq,hfr,h,Int.ofNat_lt]
   refine heA _ _ ?_
   simp only [V0,Nat.reduceLT,Nat.reduceAdd,Nat.reduceMul,Nat.reduceLeDiff,Nat.reduceEqDiff,reduceCtorEq,hfr,hall]
theorem ar_ints (hS:NoS S) (a b:SlOf 1 intc):GivesN S (a.l.length+4) 94 [a.v,b.v] (.bool (eqL intE a.l b.l)):=by
 refine zh (i:=i94) (ns hS (by rfl)) rfl rfl (lb rfl) (a.l.length+3) (by omega) zm fun m hm d out t hfr=>?_
 simp only [V2,Nat.reduceAdd,i94] at hfr
 have haf:=a.few
 have hbf:=b.few
 have q1:(true != false)=true:=rfl
 have q2:(true != true)=false:=rfl
 cases hlen:((a.l.length:Nat):Int)==((b.l.length:Nat):Int)
 ·have hf:eqL intE a.l b.l=false:=by
   rw [← Bool.not_eq_true]
   intro h
   rw [Yc h] at hlen
   simp at hlen
  simp only [i94,V0,Nat.reduceLT,Nat.reduceAdd,Nat.reduceMul,Nat.reduceLeDiff,Nat.reduceEqDiff,reduceCtorEq,hfr,yI,hlen,zbj,hf]
 ·have hle:a.l.length=b.l.length:=by
   have:((a.l.length:Nat):Int)=((b.l.length:Nat):Int):=by simpa using hlen
   omega
  simp only [i94,V0,Nat.reduceLT,Nat.reduceAdd,Nat.reduceMul,Nat.reduceLeDiff,Nat.reduceEqDiff,reduceCtorEq,hfr,yI,hlen,zbm]
  refine zd (fun jj st=>∃ (i:Nat) (O:yLO),a.l.length - i<=jj/\i<=a.l.length/\eqTo intE a.l b.l i/\st.own=O/\Slots 26 st.t [(0,a.v),(1,b.v),(5,iv i)]) a.l.length (by omega) ⟨0,_,by omega,by omega,eqTo_0,rfl,by simp only [V0,Nat.reduceLT,Nat.reduceAdd,Nat.reduceMul,Nat.reduceLeDiff,Nat.reduceEqDiff,reduceCtorEq,hfr,zbe]⟩ ?_
  clear hfr
  rintro jj ⟨t,own⟩ KA ⟨i,O,hjj,hi,ha,ho,hfr⟩ hnA heA hrA
  dsimp only at ho hfr
  subst ho
  simp only [V3] at hfr
  by_cases h:i<a.l.length
  ·have h2:i<b.l.length:=by omega
   obtain ⟨x,hx⟩:=gx (l:=a.l) (i:=i) h
   obtain ⟨y,hy⟩:=gx (l:=b.l) (i:=i) h2
   have hrx:rdN (a.l.flatMap intc) (i*1) 1=some [.int .i64 x]:=(ze zi 0 1 hx (by omega)).trans rfl
   have hry:rdN (b.l.flatMap intc) (i*1) 1=some [.int .i64 y]:=(ze zi 0 1 hy (by omega)).trans rfl
   have hw:wrapI .i64 ((i:Int)+1)=((i+1:Nat):Int):=we
   cases hq:intE x y
   ·have hq':=hq
    unfold intE at hq'
    simp only [V0,Nat.reduceLT,Nat.reduceAdd,Nat.reduceMul,Nat.reduceLeDiff,Nat.reduceEqDiff,reduceCtorEq,hfr,h,Int.ofNat_lt,zc a h,zc b h2,hrx,hry,yI,hq',q1,q2,zbj,zbm]
    refine ⟨by simp [comm],?_⟩
    simp only [V0,Nat.reduceLT,Nat.reduceAdd,Nat.reduceMul,Nat.reduceLeDiff,Nat.reduceEqDiff,reduceCtorEq,hfr,yI,hq',q1,q2,zbj]
    refine hrA _ ?_
    simp only [V0,Nat.reduceLT,Nat.reduceAdd,Nat.reduceMul,Nat.reduceLeDiff,Nat.reduceEqDiff,reduceCtorEq,hfr,Ye hx hy hq]
   ·have hq':=hq
    unfold intE at hq'
    simp only [V0,Nat.reduceLT,Nat.reduceAdd,Nat.reduceMul,Nat.reduceLeDiff,Nat.reduceEqDiff,reduceCtorEq,hfr,h,Int.ofNat_lt,zc a h,zc b h2,hrx,hry,yI,hq',q1,q2,zbj,zbm]
    refine ⟨by simp [comm],?_⟩
    simp only [V0,Nat.reduceLT,Nat.reduceAdd,Nat.reduceMul,Nat.reduceLeDiff,Nat.reduceEqDiff,reduceCtorEq,hfr,yI,hq',q1,q2,zbm,hw]
    exact hnA _ (a.l.length - (i+1)) (by omega) ⟨i+1,_,by omega,by omega,Zu ha hx hy hq,rfl,by simp only [V0,Nat.reduceLT,Nat.reduceAdd,Nat.reduceMul,Nat.reduceLeDiff,Nat.reduceEqDiff,reduceCtorEq,hfr,hw]⟩
  ·have hall:eqL intE a.l b.l=true:=Yd hle fun j u v hj hu hv=>ha j u v (by omega) hu hv
   simp only [V0,Nat.reduceLT,Nat.reduceAdd,Nat.reduceMul,Nat.reduceLeDiff,Nat.reduceEqDiff,reduceCtorEq,hfr,h,Int.ofNat_lt]
   refine heA _ _ ?_
   simp only [V0,Nat.reduceLT,Nat.reduceAdd,Nat.reduceMul,Nat.reduceLeDiff,Nat.reduceEqDiff,reduceCtorEq,hfr,hall]
end
end
end Go.Proofs.YtgmifgfbnnbgjaaGreatDoor
end
