/-
  A part of the proof: the small machine, its simulation and its walks.
-/
import Derived.Test.YtgmifgfbnnbgjaaGreatDoorZb
import Derived.Test.YtgmifgfbnnbgjaaGreatDoorZe
import Derived.Test.YtgmifgfbnnbgjaaGreatDoorZf
import Derived.Test.YtgmifgfbnnbgjaaGreatDoorZg
set_option linter.unusedVariables false
set_option linter.unusedSimpArgs false
set_option maxRecDepth 1000000
set_option maxHeartbeats 3200000
section
namespace Go.Proofs.YtgmifgfbnnbgjaaGreatDoor
open Go Go.RowKit
section
def GivesN (S:ySM) (N:Nat) (f:FuncId) (args:List IV) (v:IV):Prop:=∀ m,N<=m->∀ d out ownV own id,callN Ftab S m d out ownV own id f args=some (.r,v,own)
section
variable {S:ySM}
def mnI (a b:Int):Int:=if b<a then b else a
def mxI (a b:Int):Int:=if a<b then b else a
end
end
section
theorem eqp2 (a b c d:Int):eqvs [1,1] [.int .i64 a,.int .i64 b] [.int .i64 c,.int .i64 d]=some ((a==c)&&(b==d)):=by
 simp only [eqvs,eqv]
 cases h1:a==c <;> cases h2:b==d <;> simp [h1,h2]
def ptE (a b:Pt):Bool:=(a.x==b.x)&&(a.y==b.y)
end
section
def ascL:List Int->Bool
 | a::b::t=>decide (a<b)&&ascL (b::t)
 | _=>true
end
section
theorem yl {S:ySM} {f:FuncId} {i:IFn} {args:List IV} {w:IV} (hS:S f args=none) (hi:Ftab f=some i) (hm:i.mode=0) (hl:args.length<=i.ntmps) (N:Nat)
  (h:∀ m,N<=m->∀ d out t,Slots i.ntmps t (slotsOf 0 args)->Ex (callN Ftab S m) d out m i.body (FinF d out i.res m w) ⟨t,[]⟩):∀ m,N+1<=m->∀ d out ownV own id,callN Ftab S m d out ownV own id f args=some (.r,w,own):=by
 intro m hm1 d out ownV own id
 obtain ⟨m,rfl⟩:∃ q,m=q+1:=⟨m - 1,by omega⟩
 obtain ⟨o,st,h1,h2,v,h3,h4⟩:=h m (by omega) (d+1) (fun l=>if l=d then ownV else out l) (args++List.replicate (i.ntmps - args.length) (.tuple [])) ⟨by simp; omega,fun p hp=>by
  obtain ⟨j,h1,h2⟩:=yB hp
  rw [zR,zbf,h1,zap,zar (zal.1 h2).1,h2]
  rfl⟩
 have hm0:¬ (0=2):=by decide
 have hm00:¬ (0=3):=by decide
 simp only [callN,hS,hi,hm,hm0,hm00,if_false,zf,h1]
 rcases h2 with rfl | rfl <;> simp [ended,h3,leave,h4]
theorem Z7 {α β:Type} {f:α->β} {l:List α} {i:Nat} {x:α} (hx:l[i]?=some x):(l.take (i+1)).map f=(l.take i).map f++[f x]:=by
 rw [List.take_add_one,hx]
 simp
end
section
def lineC (a:Ac) (path:SlOf 2 Pt.c):List IV:=[.int .i64 a.id,.int .i64 a.fr,.int .i64 a.to,a.via.v,.int .i64 a.l,.int .i64 a.r,path.v]
structure Sg where
 a:Ac
 path:SlOf 2 Pt.c
 k:Nat
 hk:k+1<path.l.length
def Sg.g (s:Sg):List IV:=[.ptrC (lineC s.a s.path) 0,.int .i64 (s.k:Int)]
def Sg.e (s:Sg):IV:=.agg s.g
def Sg.p0 (s:Sg):Pt:=s.path.l[s.k]'(by have:=s.hk; omega)
def Sg.p1 (s:Sg):Pt:=s.path.l[s.k+1]'s.hk
def Sg.w (s:Sg):Int:=mnI s.p0.x s.p1.x
def Sg.ea (s:Sg):Int:=mxI s.p0.x s.p1.x
end
section
theorem zT {S:ySM} {f:FuncId} {i:IFn} {args:List IV} {m d:Nat} {out:yLM} {ownV own:yLO} {id:Nat} {Q:Eff × IV × List IObj->Prop} (hS:S f args=none) (hi:Ftab f=some i) (hm:i.mode≠2/\i.mode≠3) (hl:args.length<=i.ntmps)
  (h:∀ t,Slots i.ntmps t (slotsOf 0 args)->Ex (callN Ftab S m) (d+1) (fun l=>if l=d then ownV else out l) m i.body (fun o st=>(o=.normal∨o=.ret)/\∃ v r,resultI (d+1) (fun l=>if l=d then ownV else out l) st i.res=some v/\leave m d st.own own id i.mode v=some r/\Q r) ⟨t,[]⟩):∃ r,callN Ftab S (m+1) d out ownV own id f args=some r/\Q r:=by
 obtain ⟨o,st,h1,h2,v,r,h3,h4,h5⟩:=h (args++List.replicate (i.ntmps - args.length) (.tuple [])) ⟨by simp; omega,fun p hp=>by
  obtain ⟨j,h1,h2⟩:=yB hp
  rw [zR,zbf,h1,zap,zar (zal.1 h2).1,h2]
  rfl⟩
 refine ⟨r,?_,h5⟩
 simp only [callN,hS,hi,if_neg hm.1,if_neg hm.2,zf,h1]
 rcases h2 with rfl | rfl <;> simp [ended,h3,h4]
def LinesOK (J:yLO) (xs:List (Sg × Nat)):Prop:=∀ sb∈xs,1<=sb.2/\J[sb.2 - 1]?=some (.cells (lineC sb.1.a sb.1.path))
end
section
theorem LinesOK.more {J R:yLO} {xs:List (Sg × Nat)} (h:LinesOK J xs):LinesOK (J++R) xs:=fun sb hs=>⟨(h sb hs).1,by
 have:=(h sb hs).2
 rw [zar (zal.1 this).1]
 exact this⟩
structure Sp where
 (id fr to:Int)
 (k n:Nat)
 (A B:Pt)
def Sg.sp (s:Sg):Sp:=⟨s.a.id,s.a.fr,s.a.to,s.k,s.path.l.length - 1,s.p0,s.p1⟩
def zPt:Pt:=⟨0,0⟩
def anyEq (l:List Pt):Bool:=(List.range (l.length - 1)).any fun k=>ptE (l.getD k zPt) (l.getD (k+1) zPt)
section
variable {S:ySM}
def NoEq (l:List Pt) (k:Nat):Prop:=∀ i,i<k->ptE (l.getD i zPt) (l.getD (i+1) zPt)=false
theorem NoEq.next {l:List Pt} {k:Nat} {x y:Pt} (h0:NoEq l k) (hx:l[k]?=some x) (hy:l[k+1]?=some y) (h:ptE x y=false):NoEq l (k+1):=fun i hi=>by
 by_cases hk:i=k
 ·subst hk
  simp [zbf,hx,hy,h]
 ·exact h0 i (by omega)
theorem NoEq.done {l:List Pt} {k:Nat} (h0:NoEq l k) (hk:l.length - 1<=k):anyEq l=false:=by
 unfold anyEq
 rw [List.any_eq_false]
 intro i hi
 have:=List.mem_range.1 hi
 rw [h0 i (by omega)]
 decide
end
end
section
theorem int_elt:Elt intc (fun z:Int=>.int .i64 z) 1 false:=⟨fun _=>rfl,fun _=>rfl,fun _=>rfl,fun _=>rfl⟩
end
section
section
variable {β:Type} (u:β->IV)
def mKs (L:List (Int × β)):List IV:=L.map fun kv=>.int .i64 kv.1
def mVs (L:List (Int × β)):List IV:=L.map fun kv=>u kv.2
def lkM (z:β) (L:List (Int × β)) (id:Int):β:=((L.find? fun kv=>id==kv.1).map Prod.snd).getD z
def putM (L:List (Int × β)) (id:Int) (y:β):List (Int × β):=match L.findIdx? fun kv=>id==kv.1 with
 | none=>L++[(id,y)]
 | some i=>L.set i (id,y)
variable {u}
theorem Yb (id:Int):∀ (L:List (Int × β)) (n:Nat),findIx (false,[1]) (.int .i64 id) (mKs L) n=some ((L.findIdx? fun kv=>id==kv.1).map (n+·))
 | [],n=>rfl
 | kv::L,n=>by
  have ih:=Yb id L (n+1)
  have e:eqk (false,[1]) (.int .i64 id) (.int .i64 kv.1)=some (id==kv.1):=by
   have:eqvs [1] [.int .i64 id] [.int .i64 kv.1]=some (id==kv.1):=by
    simp only [eqvs,eqv]
    cases h1:id==kv.1 <;> simp [h1]
   exact this
  show (match eqk (false,[1]) (.int .i64 id) (.int .i64 kv.1) with | some true=>some (some n) | some false=>findIx (false,[1]) (.int .i64 id) (mKs L) (n+1) | none=>none)=_
  rw [e]
  cases h:id==kv.1
  ·simp only [ih,List.findIdx?_cons,h]
   cases L.findIdx? fun kv=>id==kv.1 with
   | none=>rfl
   | some j=>simp; omega
  ·simp [List.findIdx?_cons,h]
theorem findK_m (id:Int) (L:List (Int × β)):findK (false,[1]) (.int .i64 id) (mKs L) (mVs u L)=some ((L.find? fun kv=>id==kv.1).map fun kv=>u kv.2):=by
 have h0:(kindB false (IV.int .i64 id)&&(IV.int .i64 id).cells.length==[1].length)=true:=rfl
 unfold findK
 rw [if_pos h0,Yb]
 cases h:L.findIdx? fun kv=>id==kv.1 with
 | none =>
  have h1:(L.find? fun kv=>id==kv.1)=none:=by
   rw [List.findIdx?_eq_none_iff] at h
   rw [List.find?_eq_none]
   intro x hx
   simp [h x hx]
  simp [h1]
 | some j =>
  obtain ⟨hj,hq,hmin⟩:=List.findIdx?_eq_some_iff_getElem.1 h
  have h1:(L.find? fun kv=>id==kv.1)=some L[j]:=by
   rw [List.find?_eq_some_iff_getElem]
   exact ⟨hq,j,hj,rfl,fun k hk=>by simpa using hmin k hk⟩
  simp [mVs,hj,h1]
theorem lk_getD (z:β) (L:List (Int × β)) (id:Int):((L.find? fun kv=>id==kv.1).map fun kv=>u kv.2).getD (u z)=u (lkM z L id):=by
 unfold lkM
 cases L.find? fun kv=>id==kv.1 <;> rfl
theorem ev_lookM (z:β) {L:List (Int × β)} {bs:List Nat} {ck:Nat} (id:Int) {C:Call} {d n0 l j:Nat} {out:yLM} {ownV own:yLO} {t:List IV} {a b:Opd} {zv:IV} (hz:zv=u z) (h1:ρ t a=.mapM l j) (h2:ρ t b=.int .i64 id) (h3:look d out ownV l j=some (.map (mKs L) (mVs u L) bs ck)):evOp C d out n0 ownV own t (.lookup zv (false,[1]) false a b)=some (.r,u (lkM z L id),own):=by
 rw [ev_lookup]
 subst hz
 simp only [e_lookup,h1,h2,h3,findK_m,za5,lk_getD]
 rfl
theorem ev_lookC (z:β) {L:List (Int × β)} (id:Int) {C:Call} {d n0:Nat} {out:yLM} {ownV own:yLO} {t:List IV} {a b:Opd} {zv:IV} (hz:zv=u z) (h1:ρ t a=.mapC (mKs L) (mVs u L)) (h2:ρ t b=.int .i64 id):evOp C d out n0 ownV own t (.lookup zv (false,[1]) false a b)=some (.p,u (lkM z L id),own):=by
 rw [ev_lookup]
 subst hz
 simp only [e_lookup,h1,h2,findK_m,za5,lk_getD]
 rfl
theorem lkM_put (z y:β) (L:List (Int × β)) (id k:Int):lkM z (putM L id y) k=if k=id then y else lkM z L k:=by
 unfold putM
 cases h:L.findIdx? fun kv=>id==kv.1 with
 | none =>
  rw [List.findIdx?_eq_none_iff] at h
  simp only [lkM,List.find?_append]
  by_cases hk:k=id
  ·subst hk
   have h1:(L.find? fun kv=>k==kv.1)=none:=by
    rw [List.find?_eq_none]
    intro x hx
    simp [h x hx]
   simp [h1]
  ·rw [if_neg hk]
   have h1:([(id,y)].find? fun kv=>k==kv.1)=none:=by simp [hk]
   rw [h1,Option.or_none]
 | some i =>
  obtain ⟨hi,hq,hmin⟩:=List.findIdx?_eq_some_iff_getElem.1 h
  have he:id=L[i].1:=by simpa using hq
  have hcons:∀ (M:List (Int × β)) (i:Nat) (hi:i<M.length),id=M[i].1->(∀ j (hj:j<i),¬ id=(M[j]'(by omega)).1)->((M.set i (id,y)).find? fun kv=>k==kv.1)=if k=id then some (id,y) else M.find? fun kv=>k==kv.1:=by
   intro M
   induction M with
   | nil=>intro i hi; simp at hi
   | cons x M ih =>
    intro i hi he hm
    cases i with
    | zero =>
     simp only [List.getElem_cons_zero] at he
     simp only [List.set_cons_zero,List.find?_cons]
     by_cases hk:k=id
     ·simp [hk]
     ·have h1:(k==id)=false:=by simpa using hk
      have h2:(k==x.1)=false:=by rw [← he]; exact h1
      simp only [h1,h2,if_neg hk]
    | succ i =>
     simp only [List.set_cons_succ,List.find?_cons]
     have hx:=hm 0 (by omega)
     simp only [List.getElem_cons_zero] at hx
     have:=ih i (by simpa using hi) (by simpa using he) (fun j hj=>by simpa using hm (j+1) (by omega))
     by_cases hk:k=id
     ·have h2:(k==x.1)=false:=by rw [hk]; simpa using hx
      rw [if_pos hk] at this ⊢
      simp only [h2]
      exact this
     ·rw [if_neg hk] at this ⊢
      rw [this]
  have:=hcons L i hi he (fun j hj=>by simpa using hmin j hj)
  unfold lkM
  rw [this]
  by_cases hk:k=id
  ·simp [hk]
  ·simp [hk]
theorem upd_m (L:List (Int × β)) (bs:List Nat) (ck:Nat) (id:Int) (y:β):∃ (bs':List Nat) (ck':Nat),∀ (C:Call) (D:Nat) (out:yLM) (n0 j:Nat) (ownV own:yLO) (t:List IV) (a b c:Opd),ρ t a=.mapM D j->ρ t b=.int .i64 id->ρ t c=u y->own[j]?=some (.map (mKs L) (mVs u L) bs ck) ->
  evOp C D out n0 ownV own t (.mapupd (false,[1]) a b c)=some (.x,.tuple [],own.set j (.map (mKs (putM L id y)) (mVs u (putM L id y)) bs' ck')):=by
 have hk:(kindB false (IV.int .i64 id)&&(IV.int .i64 id).cells.length==[1].length)=true:=rfl
 unfold putM
 cases h:L.findIdx? fun kv=>id==kv.1 with
 | none =>
  refine ⟨bs++[ck],ck+1,fun C D out n0 j ownV own t a b c h1 h2 h3 h4=>?_⟩
  rw [ev_mapupd]
  simp only [e_mapupd,h1,h2,h3,h4,hk,and_self,if_true,Yb,h,Option.map_none,zf]
  simp [mKs,mVs]
 | some i =>
  obtain ⟨hi,hq,_⟩:=List.findIdx?_eq_some_iff_getElem.1 h
  have he:id=L[i].1:=by simpa using hq
  refine ⟨bs,ck,fun C D out n0 j ownV own t a b c h1 h2 h3 h4=>?_⟩
  rw [ev_mapupd]
  simp only [e_mapupd,h1,h2,h3,h4,hk,and_self,if_true,Yb,h,za5,zap,zf]
  have hks:mKs (L.set i (id,y))=mKs L:=by
   unfold mKs
   rw [List.map_set]
   refine List.ext_getElem? fun k=>?_
   by_cases hki:i=k
   ·subst hki
    rw [zbw (by rw [zbi]; exact hi)]
    simp [hi,he]
   ·rw [zbq hki]
  have hvs:mVs u (L.set i (id,y))=(mVs u L).set i (u y):=by
   unfold mVs
   rw [List.map_set]
  rw [hks,hvs]
end
def OwnB {α:Type} (g:α->List IV) (sz d k0 b0:Nat) (J:yLO) (lv:IV) (xs:List α):Prop:=(xs=[]/\lv=.nilsl)∨∃ b,b0<=b/\xs≠[]/\lv=.slM d (k0+b) 0 xs.length xs.length sz false/\J[b]?=some (.cells (xs.flatMap g))
theorem OwnB.more {α:Type} {g:α->List IV} {sz d k0 b0:Nat} {J:yLO} {lv:IV} {xs:List α} (h:OwnB g sz d k0 b0 J lv xs) (r:yLO):OwnB g sz d k0 b0 (J++r) lv xs:=by
 rcases h with h | ⟨b,hb,hne,h1,h2⟩
 ·exact .inl h
 ·exact .inr ⟨b,hb,hne,h1,by rw [zar (zal.1 h2).1]; exact h2⟩
theorem OwnB.own {α:Type} {g:α->List IV} {sz d k0 b0:Nat} {J:yLO} {lv:IV} {xs:List α} (h:OwnB g sz d k0 b0 J lv xs):OwnJ g sz d k0 J lv xs:=by
 rcases h with h | ⟨b,hb,hne,h1,h2⟩
 ·exact .inl h
 ·exact .inr ⟨b,hne,h1,h2⟩
end
section
section
variable {S:ySM}
theorem oins_nil (hS:NoS S) {m d:Nat} {out:yLM} {ownV own:yLO} (hm:4<=m):∃ J',∀ id,callN Ftab S m d out ownV own id 207 [.nilsl,.int .i64 0,.int .i64 0]=some (.x,.tuple [],own++J'):=by
 obtain ⟨m,rfl⟩:∃ q,m=q+1:=⟨m - 1,by omega⟩
 have main:∃ v own',(∀ id,callN Ftab S (m+1) d out ownV own id 207 [.nilsl,.int .i64 0,.int .i64 0]=some (.x,v,own'))/\(v=.tuple []/\∃ J',own'=own++J'):=by
  refine zD (i:=i207) (ns hS (by rfl)) rfl rfl (lb rfl) fun t hfr=>?_
  simp only [V2,Nat.reduceAdd,i207] at hfr
  have hw:wrapI .i64 ((0:Int)+1)=1:=rfl
  have h10:((1:Int)<0)=False:=eq_false (by decide)
  simp only [i207,V0,Nat.reduceLT,Nat.reduceAdd,Nat.reduceMul,Nat.reduceLeDiff,Nat.reduceEqDiff,reduceCtorEq,hfr,hw]
  refine zd (fun jj st=>st.own=own/\Slots 49 st.t [(2,.int .i64 0),(6,.int .i64 1)]) 0 (by omega) ⟨rfl,by simp only [V0,Nat.reduceLT,Nat.reduceAdd,Nat.reduceMul,Nat.reduceLeDiff,Nat.reduceEqDiff,reduceCtorEq,hfr,hw]⟩ ?_
  clear hfr
  rintro jj ⟨t,own1⟩ KB ⟨ho,hfr⟩ hnB heB hrB
  dsimp only at ho hfr
  subst ho
  simp only [V3] at hfr
  simp only [V0,Nat.reduceLT,Nat.reduceAdd,Nat.reduceMul,Nat.reduceLeDiff,Nat.reduceEqDiff,reduceCtorEq,hfr,h10]
  refine heB _ _ ?_
  simp only [V0,Nat.reduceLT,Nat.reduceAdd,Nat.reduceMul,Nat.reduceLeDiff,Nat.reduceEqDiff,reduceCtorEq,hfr,zx,y6]
  exact ⟨_,rfl,rfl,[],by simp⟩
 obtain ⟨v,own',h1,rfl,J',rfl⟩:=main
 exact ⟨J',h1⟩
theorem opdq_nil (hS:NoS S) {m d:Nat} {out:yLM} {ownV own:yLO} {lim:Int} (hm:6<=m):∃ J',∀ id,callN Ftab S m d out ownV own id 183 [.nilsl,.int .i64 0,.int .i64 0,.int .i64 lim]=some (.x,.tuple [],own++J'):=by
 obtain ⟨m,rfl⟩:∃ q,m=q+1:=⟨m - 1,by omega⟩
 have main:∃ v own',(∀ id,callN Ftab S (m+1) d out ownV own id 183 [.nilsl,.int .i64 0,.int .i64 0,.int .i64 lim]=some (.x,v,own'))/\(v=.tuple []/\∃ J',own'=own++J'):=by
  refine zD (i:=i183) (ns hS (by rfl)) rfl rfl (lb rfl) fun t hfr=>?_
  simp only [V2,Nat.reduceAdd,i183] at hfr
  have hw:wrapI .i64 ((0:Int) - 0)=0:=rfl
  have h12:((0:Int)<=12)=True:=eq_true (by decide)
  simp only [i183,V0,Nat.reduceLT,Nat.reduceAdd,Nat.reduceMul,Nat.reduceLeDiff,Nat.reduceEqDiff,reduceCtorEq,hfr]
  refine zd (fun jj st=>st.own=own/\Slots 134 st.t [(0,.nilsl),(1,.int .i64 0),(2,.int .i64 0)]) 0 (by omega) ⟨rfl,by simp only [V0,Nat.reduceLT,Nat.reduceAdd,Nat.reduceMul,Nat.reduceLeDiff,Nat.reduceEqDiff,reduceCtorEq,hfr]⟩ ?_
  clear hfr
  rintro jj ⟨t,own1⟩ KB ⟨ho,hfr⟩ hnB heB hrB
  dsimp only at ho hfr
  subst ho
  simp only [V3] at hfr
  obtain ⟨J',hs⟩:=oins_nil (d:=d) (out:=out) (ownV:=own1++[.free]) (own:=own1++[.free]) hS (m:=m) (by omega)
  simp only [za9] at hs
  simp only [V0,Nat.reduceLT,Nat.reduceAdd,Nat.reduceMul,Nat.reduceLeDiff,Nat.reduceEqDiff,reduceCtorEq,hfr,hw,h12,hs]
  refine hrB _ ?_
  simp only [V0,Nat.reduceLT,Nat.reduceAdd,Nat.reduceMul,Nat.reduceLeDiff,Nat.reduceEqDiff,reduceCtorEq,hfr,zj,y6]
  exact ⟨_,rfl,rfl,_,rfl⟩
 obtain ⟨v,own',h1,rfl,J',rfl⟩:=main
 exact ⟨J',h1⟩
theorem osort_nil (hS:NoS S) {Nl m d:Nat} {out:yLM} {ownV own:yLO} (hL:LenOK S Nl) (hm:Nl+8<=m):∃ J',∀ id,callN Ftab S m d out ownV own id 151 [.nilsl]=some (.x,.tuple [],own++J'):=by
 obtain ⟨m,rfl⟩:∃ q,m=q+1:=⟨m - 1,by omega⟩
 have main:∃ v own',(∀ id,callN Ftab S (m+1) d out ownV own id 151 [.nilsl]=some (.x,v,own'))/\(v=.tuple []/\∃ J',own'=own++J'):=by
  refine zD (i:=i151) (ns hS (by rfl)) rfl rfl (lb rfl) fun t hfr=>?_
  simp only [V2,Nat.reduceAdd,i151] at hfr
  have hu:wrapI .u64 (0:Int)=0:=rfl
  have hlen:=hL 0 (by omega) m (by omega)
  simp only [zbe] at hlen
  obtain ⟨J',hs⟩:=opdq_nil (d:=d) (out:=out) (ownV:=own++[.free,.free]) (own:=own++[.free,.free]) (lim:=(lenN 0:Int)) hS (m:=m) (by omega)
  simp only [za9] at hs
  simp only [i151,V0,Nat.reduceLT,Nat.reduceAdd,Nat.reduceMul,Nat.reduceLeDiff,Nat.reduceEqDiff,reduceCtorEq,hfr,hu,hlen,hs,e_conv,zx,y6]
  exact ⟨_,rfl,rfl,_,rfl⟩
 obtain ⟨v,own',h1,rfl,J',rfl⟩:=main
 exact ⟨J',h1⟩
end
end
end Go.Proofs.YtgmifgfbnnbgjaaGreatDoor
end
