/-
  A part of the proof: the small machine, its simulation and its walks.
-/
import Derived.Test.YtelocmclpfincaaGreatDoorZd
import Derived.Test.YtelocmclpfincaaGreatDoorZe
import Derived.Test.YtelocmclpfincaaGreatDoorZg
set_option linter.unusedVariables false
set_option linter.unusedSimpArgs false
set_option maxRecDepth 1000000
set_option maxHeartbeats 3200000
section
namespace Go.Proofs.YtelocmclpfincaaGreatDoor
open Go Go.RowKit
section
def cyG (q:SlOf 1 intc):List IV:=[q.v]
end
section
structure ArB where
 tw:Int
 oc:SlOf 1 intc
 iv:IV
 ic:List (SlOf 1 intc)
 av:IV
 al:List Int
def arG (a:ArB):List IV:=[.int .i64 a.tw,a.oc.v,a.iv,a.av]
end
section
def OwnT {α:Type} (g:α->List IV) (sz d k0:Nat) (B:Nat->Nat) (τ:Nat) (J:yLO) (lv:IV) (xs:List α):Prop:=(xs=[]/\lv=.nilsl)∨∃ b,xs≠[]/\lv=.slM d (k0+b) 0 xs.length xs.length sz false/\J[b]?=some (.cells (xs.flatMap g))/\B b=τ
section
variable {α:Type} {g:α->List IV} {sz d k0 τ:Nat} {B:Nat->Nat} {J:yLO} {lv:IV} {xs:List α}
theorem OwnT.more (h:OwnT g sz d k0 B τ J lv xs) (r:yLO):OwnT g sz d k0 B τ (J++r) lv xs:=by
 rcases h with h | ⟨b,hne,h1,h2,h3⟩
 ·exact .inl h
 ·exact .inr ⟨b,hne,h1,by rw [zco (zcf.1 h2).1]; exact h2,h3⟩
theorem OwnT.len (h:OwnT g sz d k0 B τ J lv xs) {D:Nat} {out:yLM} {ownV own:yLO}:lenV D out ownV own 1 lv=some (.p,.int .i64 (xs.length:Nat),own):=by
 rcases h with ⟨rfl,rfl⟩ | ⟨b,_,rfl,_⟩ <;> rfl
theorem OwnT.scal (h:OwnT g sz d k0 B τ J lv xs):lv.scalar=true:=by
 rcases h with ⟨_,rfl⟩ | ⟨b,_,rfl,_⟩ <;> rfl
theorem OwnT.cells (h:OwnT g sz d k0 B τ J lv xs):lv.cells=[lv]:=by
 rcases h with ⟨_,rfl⟩ | ⟨b,_,rfl,_⟩ <;> rfl
theorem OwnT.set_other {β:Type} {g':β->List IV} {sz' τ' b:Nat} {lv0:IV} {zs:List β} {o:IObj} (hb:B b=τ) (hτ:τ'≠τ) (hO:OwnT g' sz' d k0 B τ' J lv0 zs):OwnT g' sz' d k0 B τ' (J.set b o) lv0 zs:=by
 rcases hO with hO | ⟨b',hne,h1,h2,h3⟩
 ·exact .inl hO
 ·have hbb:b≠b':=fun he=>hτ (by rw [← h3,← he,hb])
  exact .inr ⟨b',hne,h1,by rw [zdp hbb]; exact h2,h3⟩
end
end
section
def nilC:SlOf 1 intc:=nilS _ _
structure DivOK (D:Nat) (U:List (SlOf 1 intc)) (n1 n2 n3:Nat) (J:yLO) (B:Nat->Nat) (lv:IV) (A:List ArB) (rv:IV) (rc:List (SlOf 1 intc)):Prop where
 l:OwnT arG 4 D 1 B 0 J lv A
 ne:A≠[]
 len:A.length<=n1+1
 r:OwnT cyG 1 D 1 B 1 J rv rc
 rl:rc.length<=n1
 rU:∀ c∈rc,c∈U
 el:∀ i a,A[i]?=some a->OwnT cyG 1 D 1 B (2+2*i) J a.iv a.ic/\OwnT intc 1 D 1 B (3+2*i) J a.av a.al/\a.ic.length<=n2/\a.al.length<=n3/\(∀ c∈a.ic,c∈U)/\(0<i->a.oc∈U)/\a.oc∈nilC::U
section
variable {D n1 n2 n3:Nat} {U:List (SlOf 1 intc)} {J:yLO} {B:Nat->Nat} {lv rv:IV} {A:List ArB} {rc:List (SlOf 1 intc)}
theorem DivOK.more (h:DivOK D U n1 n2 n3 J B lv A rv rc) (r:yLO):DivOK D U n1 n2 n3 (J++r) B lv A rv rc :=
 ⟨h.l.more r,h.ne,h.len,h.r.more r,h.rl,h.rU,fun i a ha=>by
  obtain ⟨h1,h2,h3⟩:=h.el i a ha
  exact ⟨h1.more r,h2.more r,h3⟩⟩
theorem DivOK.set {m2 m3:Nat} {J2:yLO} {B2:Nat->Nat} {b i:Nat} {a a':ArB} (h:DivOK D U n1 n2 n3 J B lv A rv rc) (hl:lv=.slM D (1+b) 0 A.length A.length 4 false) (hb:J2[b]?=some (.cells (A.flatMap arG))) (hB:B2 b=0) (ha:A[i]?=some a) (hoc:a'.oc=a.oc)
  (hr:OwnT cyG 1 D 1 B2 1 J2 rv rc) (hm2:n2<=m2) (hm3:n3<=m3)
  (hel:∀ j x,A[j]?=some x->j≠i->OwnT cyG 1 D 1 B2 (2+2*j) J2 x.iv x.ic/\OwnT intc 1 D 1 B2 (3+2*j) J2 x.av x.al)
  (h1:OwnT cyG 1 D 1 B2 (2+2*i) J2 a'.iv a'.ic) (h2:OwnT intc 1 D 1 B2 (3+2*i) J2 a'.av a'.al) (h3:a'.ic.length<=m2) (h4:a'.al.length<=m3) (h5:∀ c∈a'.ic,c∈U) :
  DivOK D U n1 m2 m3 (J2.set b (.cells ((A.set i a').flatMap arG))) B2 lv (A.set i a') rv rc:=by
 have hil:=(zcf.1 ha).1
 have hbl:=(zcf.1 hb).1
 refine ⟨.inr ⟨b,fun he=>h.ne (by have:=congrArg List.length he; simpa using this),by rw [hl,List.length_set],zdw hbl,hB⟩,fun he=>h.ne (by have:=congrArg List.length he; simpa using this),by rw [List.length_set]; exact h.len,OwnT.set_other hB (by omega) hr,h.rl,h.rU,fun j x hx=>?_⟩
 by_cases hj:j=i
 ·subst hj
  rw [zdw hil] at hx
  cases hx
  obtain ⟨_,_,_,_,_,h6,h7⟩:=h.el j a ha
  exact ⟨OwnT.set_other hB (by omega) h1,OwnT.set_other hB (by omega) h2,h3,h4,h5,by rw [hoc]; exact h6,by rw [hoc]; exact h7⟩
 ·rw [zdp (Ne.symm hj)] at hx
  obtain ⟨_,_,g3,g4,g5⟩:=h.el j x hx
  obtain ⟨g1,g2⟩:=hel j x hx hj
  exact ⟨OwnT.set_other hB (by omega) g1,OwnT.set_other hB (by omega) g2,by omega,by omega,g5⟩
end
end
section
theorem plan_zero {p:Pn} {v:Bool} (h:planE p v=0):limI p=false/\limV p=false/\ordB p=true/\rngB p=true/\connE p (p.ns.l.map Nd.id)=0/\v=true:=by
 unfold planE at h
 cases h1:(limI p||limV p)
 ·rw [h1] at h
  rw [zd6] at h1
  cases h2:ordB p
  ·rw [h2] at h; simp at h
  ·rw [h2] at h
   cases h3:rngB p
   ·rw [h3] at h; simp at h
   ·rw [h3] at h
    cases h4:(connE p (p.ns.l.map Nd.id)==0)
    ·rw [h4] at h
     simp only [zci,cond_false] at h
     rw [h] at h4
     simp at h4
    ·rw [h4] at h
     cases v
     ·simp at h
     ·exact ⟨h1.1,h1.2,rfl,rfl,by simpa using h4,rfl⟩
 ·rw [h1] at h; simp at h
end
section
def kindZ (f:Ft):Int:=bif shapeI f.kind==3 then f.kind else 0
def keysF (f:Ft):List (Int × Int):=bif shapeI f.kind==2 then [] else f.parts.l.map fun x=>(kindZ f,x)
def partOk (p:Pn) (f:Ft) (x:Int):Bool:=bif shapeI f.kind==1 then (nodeF p x).isSome else bif shapeI f.kind==2 then (arcF p x).isSome else bif shapeI f.kind==3 then p.fs.l.contains x else false
def bad5 (nm:ByteArray->Int) (f:Ft):Bool:=!(f.name.1.toList==(bs []).toList)&&(nm f.name.1 != 0)
structure FtOK (nm:ByteArray->Int) (p:Pn) (f:Ft):Prop where
 few:f.parts.l.length<=64
 asc:ascL f.parts.l=true
 ids:1<=f.id/\f.id<=1073741824/\1<=f.cls/\f.cls<=9
 shape:shapeI f.kind≠0
 name:bad5 nm f=false
 some:f.parts.l≠[]
 one:shapeI f.kind=1->f.parts.l.length<=1
 part:∀ x∈f.parts.l,partOk p f x=true
structure FtsOK (nm:ByteArray->Int) (p:Pn) (fs:List Ft):Prop where
 few:fs.length<=128
 each:∀ f∈fs,FtOK nm p f
 asc:ascL (fs.map Ft.id)=true
 keys:(fs.flatMap keysF).Nodup
theorem Zs:∀ {l:List Int},ascL l=true↔l.Pairwise (·<·)
 | []=>by simp [ascL]
 | [a]=>by simp [ascL]
 | a::b::t=>by
  have ih:=Zs (l:=b::t)
  rw [ascL,zcq,decide_eq_true_eq,ih,List.pairwise_cons (a:=a)]
  constructor
  ·rintro ⟨h1,h2⟩
   refine ⟨fun x hx=>?_,h2⟩
   rcases zdn.1 hx with rfl | hx
   ·exact h1
   ·exact Int.lt_trans h1 ((List.pairwise_cons.1 h2).1 x hx)
  ·rintro ⟨h1,h2⟩
   exact ⟨h1 b (zeb ..),h2⟩
theorem ascL_sub {l l':List Int} (h:ascL l=true) (hs:l'.Sublist l):ascL l'=true:=Zs.2 ((Zs.1 h).sublist hs)
theorem flatMap_sub {α β:Type} (g:α->List β) {l l':List α} (h:l'.Sublist l):(l'.flatMap g).Sublist (l.flatMap g):=by
 induction h with
 | slnil=>exact .slnil
 | cons a _ ih=>rw [zdc]; exact ih.trans (List.sublist_append_right ..)
 | cons_cons a _ ih=>rw [zdc,zdc]; exact (List.Sublist.refl _).append ih
theorem FtsOK.sub {nm:ByteArray->Int} {p:Pn} {fs fs':List Ft} (h:FtsOK nm p fs) (hs:fs'.Sublist fs):FtsOK nm p fs' :=
 ⟨zd7 hs.length_le h.few,fun f hf=>h.each f (hs.subset hf),ascL_sub h.asc (hs.map _),h.keys.sublist (flatMap_sub keysF hs)⟩
theorem keysF_sub {f:Ft} {q:SlOf 1 intc} (h:q.l.Sublist f.parts.l):(keysF { f with parts:=q }).Sublist (keysF f):=by
 unfold keysF
 simp only
 cases shapeI f.kind==2
 ·exact h.map _
 ·exact .slnil
theorem FtOK.parts {nm:ByteArray->Int} {p:Pn} {f:Ft} {q:SlOf 1 intc} (h:FtOK nm p f) (h1:q.l.Sublist f.parts.l) (h2:q.l≠[]):FtOK nm p { f with parts:=q } :=
 ⟨zd7 h1.length_le h.few,ascL_sub h.asc h1,h.ids,h.shape,h.name,h2,fun hs=>zd7 h1.length_le (h.one hs),fun x hx=>h.part x (h1.subset hx)⟩
theorem set_split {α:Type} {l:List α} {i:Nat} {x:α} (h:l[i]?=some x) (y:α):∃ a b,l=a++x::b/\l.set i y=a++y::b/\a.length=i:=by
 obtain ⟨hi,rfl⟩:=zcf.1 h
 exact ⟨l.take i,l.drop (i+1),by simp,by rw [List.set_eq_take_append_cons_drop,if_pos hi],by simp; omega⟩
theorem FtsOK.set {nm:ByteArray->Int} {p:Pn} {fs:List Ft} {i:Nat} {f:Ft} {q:SlOf 1 intc} (h:FtsOK nm p fs) (hi:fs[i]?=some f) (h1:q.l.Sublist f.parts.l) (h2:q.l≠[]):FtsOK nm p (fs.set i { f with parts:=q }):=by
 obtain ⟨a,b,rfl,hb,_⟩:=set_split hi { f with parts:=q }
 rw [hb]
 refine ⟨by have:=h.few; simp only [zc8,zcr] at this ⊢; exact this,fun g hg=>?_,?_,?_⟩
 ·rcases List.mem_append.1 hg with hg | hg
  ·exact h.each g (by simp [hg])
  ·rcases zdn.1 hg with rfl | hg
   ·exact (h.each f (by simp)).parts h1 h2
   ·exact h.each g (by simp [hg])
 ·have:=h.asc
  simpa using this
 ·refine h.keys.sublist ?_
  rw [zed,zed,zdc,zdc]
  exact (List.Sublist.refl _).append ((keysF_sub h1).append (List.Sublist.refl _))
end
section
section
variable {S:ySM}
theorem at_shape (hS:NoS S) (k:Int):GivesN S 2 17 [iv k] (.int .i64 (shapeI k)):=by
 refine zd (i:=i17) (ns hS (by rfl)) rfl rfl (lb rfl) 1 (by omega) zw fun m hm d out t hfr=>?_
 simp only [V2,Nat.reduceAdd,i17,zo] at hfr
 unfold shapeI
 cases h1:k==1
 rotate_left
 ·simp only [i17,V0,sevalprocAttr,hfr,h1,zdm,cond_true]
 cases h2:k==2
 rotate_left
 ·simp only [i17,V0,sevalprocAttr,hfr,h1,h2,zdm,zdi,cond_true]
 cases h8:k==8
 rotate_left
 ·simp only [i17,V0,sevalprocAttr,hfr,h1,h2,h8,zdm,zdi,cond_true]
 cases h3:k==3
 rotate_left
 ·simp only [i17,V0,sevalprocAttr,hfr,h1,h2,h8,h3,zdm,zdi,cond_true,cond_false]
 cases h4:k==4
 rotate_left
 ·simp only [i17,V0,sevalprocAttr,hfr,h1,h2,h8,h3,h4,zdm,zdi,cond_true,cond_false]
 cases h5:k==5
 rotate_left
 ·simp only [i17,V0,sevalprocAttr,hfr,h1,h2,h8,h3,h4,h5,zdm,zdi,cond_true,cond_false]
 cases h6:k==6
 rotate_left
 ·simp only [i17,V0,sevalprocAttr,hfr,h1,h2,h8,h3,h4,h5,h6,zdm,zdi,cond_true,cond_false]
 cases h7:k==7
 ·simp only [i17,V0,sevalprocAttr,hfr,h1,h2,h8,h3,h4,h5,h6,h7,zdm,zdi,cond_true,cond_false]
 ·simp only [i17,V0,sevalprocAttr,hfr,h1,h2,h8,h3,h4,h5,h6,h7,zdm,zdi,cond_true,cond_false]
end
end
section
def sumC {α:Type} (g:α->Nat) (l:List α):Nat:=(l.map g).sum
theorem sum_next {α:Type} {g:α->Nat} {l:List α} {i:Nat} {x:α} (hx:l[i]?=some x):sumC g (l.take (i+1))=sumC g (l.take i)+g x:=by
 unfold sumC
 rw [zdv,hx,zd2,List.map_append,List.sum_append]
 simp
theorem sum_le {α:Type} {g:α->Nat} (l:List α) (i:Nat):sumC g (l.take i)<=sumC g l:=by
 unfold sumC
 conv=>rhs; rw [← List.take_append_drop i l,List.map_append,List.sum_append]
 omega
theorem sum_mem {α:Type} {g:α->Nat}:∀ {l:List α} {x:α},x∈l->g x<=sumC g l
 | y::l,x,h=>by
  have e:sumC g (y::l)=g y+sumC g l:=by simp [sumC]
  rw [e]
  rcases zdn.1 h with rfl | h
  ·omega
  ·have:=sum_mem (g:=g) h
   omega
end
section
theorem gives_sum {F:FuncId->Option IFn} {S:ySM} {f:FuncId} {args:List IV} {v:IV} (h:S f args=some v):∀ m,1<=m->∀ d out ownV own id,callN F S m d out ownV own id f args=some (.r,v,own):=fun m hm d out ownV own id=>by
 obtain ⟨m,rfl⟩:∃ q,m=q+1:=⟨m - 1,by omega⟩
 simp only [callN,h]
end
section
theorem hasI_mem {l:List Int} {n:Int} (h:hasI l n=true):n∈l:=by
 unfold hasI at h
 obtain ⟨x,hx,he⟩:=List.any_eq_true.1 h
 have:n=x:=by simpa using he
 rw [this]
 exact hx
theorem node_some {p:Pn} {n:Int} (h:hasI (p.ns.l.map Nd.id) n=true):(nodeF p n).isSome=true:=by
 obtain ⟨x,hx,rfl⟩:=List.mem_map.1 (hasI_mem h)
 unfold nodeF
 rw [List.find?_isSome]
 exact ⟨x,hx,by simp⟩
def allPts (p:Pn):List Pt:=p.ns.l.map Nd.at'++p.as.l.flatMap fun a=>a.via.l
end
section
theorem all_le {p:Pn} (hv:FewVia p) (h1:p.ns.l.length<=1000) (h2:p.as.l.length<=1000) (i:Nat):(p.ns.l.map Nd.at'++(p.as.l.take i).flatMap fun a=>a.via.l).length<=100001000:=by
 have h3:((p.as.l.take i).flatMap fun a=>a.via.l).length<=(p.as.l.take i).length*100000:=flat_le fun a ha=>hv a (List.mem_of_mem_take ha)
 have h4:(p.as.l.take i).length<=1000:=by rw [zd5]; omega
 rw [zc8,zd1]
 omega
theorem all_lt {p:Pn} (hv:FewVia p) (h1:p.ns.l.length<=1000) (h2:p.as.l.length<=1000):(allPts p).length<9223372036854775808:=by
 have:=all_le hv h1 h2 p.as.l.length
 rw [List.take_length] at this
 unfold allPts
 omega
section
variable {S:ySM}
theorem at_pts14 (hS:NoS S) (p:Pn) (hv:FewVia p) (h1:p.ns.l.length<=1000) (h2:p.as.l.length<=1000):GivesN S (p.ns.l.length+p.as.l.length+10) 97 [.agg p.c] (rowQ Pt.c_len (allPts p) (all_lt hv h1 h2)).v:=by
 refine YI (i:=i97) (ns hS (by rfl)) rfl rfl (lb rfl) (p.ns.l.length+p.as.l.length+9) fun m hm d out t hfr=>?_
 simp only [V2,Nat.reduceAdd,i97,Pn.c] at hfr
 simp only [i97,V0,sevalprocAttr,hfr]
 refine zb (fun jj st=>∃ (i:Nat) (J:yLO) (lv:IV),p.ns.l.length - i<=jj/\i<=p.ns.l.length/\OwnJ Pt.c 2 d 1 J lv ((p.ns.l.take i).map Nd.at')/\st.own=.cells [p.ns.v,p.as.v,p.fs.v]::J/\Slots 38 st.t [(1,.ptrM d 0 0),(3,lv),(4,iv i)]) p.ns.l.length (by omega) ⟨0,[],.nilsl,by omega,by omega,.inl ⟨by simp,rfl⟩,rfl,by simp only [V0,sevalprocAttr,hfr,zcp]⟩ ?_
 clear hfr
 rintro jj ⟨t,own⟩ KA ⟨i,J,lv,hjj,hi,hO,ho,hfr⟩ hnA heA hrA
 dsimp only at ho hfr
 subst ho
 simp only [V3] at hfr
 by_cases h:i<p.ns.l.length
 ·obtain ⟨x,hx⟩:=gx (l:=p.ns.l) (i:=i) h
  have hrd:rdN (p.ns.l.flatMap Nd.c) (i*3+1) 2=some [.int .i64 x.at'.x,.int .i64 x.at'.y]:=(zc Nd.c_len 1 2 hx (by omega)).trans rfl
  have hw:wrapI .i64 ((i:Int)+1)=((i+1:Nat):Int):=we
  have hlt:((p.ns.l.take i).map Nd.at').length=i:=by rw [zd1,zd5,Nat.min_eq_left (by omega)]
  obtain ⟨e,lv',J2,happ,hO2⟩:=Zq (Pre:=[.cells [p.ns.v,p.as.v,p.fs.v]]) (n0:=J.length+1) (slot:=0) (k:=0) (out:=out) (R:=[.free]) Pt.c_len hO (ys:=[x.at']) (by simp) (by simp only [hlt,zcr,zc7]; omega) (by simp only [zcr,zc7]; omega) rfl rfl
  simp only [zc5,zdh,zdc,zec,Pt.c,zo,zcr,zc7,zd0,zde] at happ
  rw [← map_take (f:=Nd.at') hx] at hO2
  have cel:∀ (lk:Nat->Nat->Option IObj) (tight:Bool),cellsI lk 2 (.slC [.int .i64 x.at'.x,.int .i64 x.at'.y] 1 2 tight)=some ([.int .i64 x.at'.x,.int .i64 x.at'.y],1):=fun lk tight=>rfl
  have rep1:∀ a b:IV,rep [a,b] 1=[a,b]:=fun a b=>rfl
  simp only [V0,sevalprocAttr,hfr,h,za p.ns h,hrd,rep1,zp,zB,zJ,cel,happ,hw]
  exact hnA _ (p.ns.l.length - (i+1)) (by omega) ⟨i+1,J2,lv',by omega,by omega,hO2,rfl,by simp only [V0,sevalprocAttr,hfr,hw]⟩
 ·simp only [V0,sevalprocAttr,hfr,h]
  refine heA _ _ ?_
  simp only [V0,sevalprocAttr,hfr]
  have hO1:OwnJ Pt.c 2 d 1 J lv (p.ns.l.map Nd.at'):=by
   rw [zcm (by omega)] at hO
   exact hO
  clear hO
  refine zb (fun jj st=>∃ (i:Nat) (J:yLO) (lv:IV),p.as.l.length - i<=jj/\i<=p.as.l.length/\OwnJ Pt.c 2 d 1 J lv (p.ns.l.map Nd.at'++(p.as.l.take i).flatMap fun a=>a.via.l)/\st.own=.cells [p.ns.v,p.as.v,p.fs.v]::J/\Slots 38 st.t [(1,.ptrM d 0 0),(3,lv),(5,iv i)]) p.as.l.length (by omega) ⟨0,J,lv,by omega,by omega,by simpa using hO1,rfl,by simp only [V0,sevalprocAttr,hfr,zcp]⟩ ?_
  clear hfr hnA heA hrA
  rintro jj ⟨t,own⟩ KA ⟨i,J,lv,hjj,hi,hO,ho,hfr⟩ hnA heA hrA
  dsimp only at ho hfr
  subst ho
  simp only [V3] at hfr
  by_cases h:i<p.as.l.length
  ·have hx:p.as.l[i]?=some p.as.l[i]:=zce h
   have hvx:=hv p.as.l[i] (zdr h)
   generalize p.as.l[i]=x at hx hvx
   have hrd:rdN (p.as.l.flatMap Ac.c) (i*6+3) 1=some [x.via.v]:=(zc Ac.c_len 3 1 hx (by omega)).trans rfl
   have hw:wrapI .i64 ((i:Int)+1)=((i+1:Nat):Int):=we
   have hle:=all_le hv h1 h2 i
   have hnext:(p.ns.l.map Nd.at'++(p.as.l.take (i+1)).flatMap fun a=>a.via.l)=(p.ns.l.map Nd.at'++(p.as.l.take i).flatMap fun a=>a.via.l)++x.via.l:=by rw [take_flat hx,zdg]
   have main:∃ e lv' J2,appendI d (J.length+1) (look d out (.cells [p.ns.v,p.as.v,p.fs.v]::(J++[.free]))) (.cells [p.ns.v,p.as.v,p.fs.v]::(J++[.free])) 2 lv (x.via.l.flatMap Pt.c) x.via.l.length 0=some (e,lv',.cells [p.ns.v,p.as.v,p.fs.v]::J2)/\OwnJ Pt.c 2 d 1 J2 lv' (p.ns.l.map Nd.at'++(p.as.l.take (i+1)).flatMap fun a=>a.via.l):=by
    rw [hnext]
    by_cases h0:x.via.l.length=0
    ·refine ⟨.r,lv,J++[.free],?_,?_⟩
     ·unfold appendI
      rw [if_pos h0]
      rcases hO with ⟨_,rfl⟩ | ⟨b,_,rfl,_⟩ <;> rfl
     ·rw [zda.1 h0,zd0]
      exact hO.more _
    ·exact Zq (Pre:=[.cells [p.ns.v,p.as.v,p.fs.v]]) (n0:=J.length+1) (slot:=0) (k:=0) (out:=out) (R:=[.free]) Pt.c_len hO (ys:=x.via.l) h0 (by omega) (by simp only [zcr,zc7]; omega) rfl (zea.2 fun y hy=>by
      obtain ⟨z,_,hz⟩:=List.mem_flatMap.1 hy
      simp only [Pt.c,zo,zdn,zdx,or_false] at hz
      rcases hz with rfl | rfl <;> rfl)
   obtain ⟨e,lv',J2,happ,hO2⟩:=main
   simp only [V0,sevalprocAttr,hfr,h,za p.as h,hrd,zp,zB,zJ,zC,happ,hw]
   exact hnA _ (p.as.l.length - (i+1)) (by omega) ⟨i+1,J2,lv',by omega,by omega,hO2,rfl,by simp only [V0,sevalprocAttr,hfr,hw]⟩
  ·simp only [V0,sevalprocAttr,hfr,h]
   refine heA _ _ ?_
   have hO2:OwnJ Pt.c 2 d 1 J lv (allPts p):=by
    rw [zcm (by omega)] at hO
    exact hO
   have f1:=ownJ_fz (Pre:=[.cells [p.ns.v,p.as.v,p.fs.v]]) (m:=m) Pt.c_len Yh (by omega) (all_lt hv h1 h2) hO2
   simp only [zc5,zdh] at f1
   simp only [V0,sevalprocAttr,hfr,Zp]
   exact ⟨_,rfl,f1⟩
end
end
section
theorem zb7 (a:Int):wrapI .i64 a % 18446744073709551616=a % 18446744073709551616:=by
 rw [zt]
 show (if (true&&decide (a % 18446744073709551616≥9223372036854775808))=true then a % 18446744073709551616 - 18446744073709551616 else a % 18446744073709551616) % 18446744073709551616=_
 split <;> omega
theorem ZF {a b:Int} (h:a % 18446744073709551616=b % 18446744073709551616):wrapI .i64 a=wrapI .i64 b:=by
 rw [zt,zt]
 show (if (true&&decide (a % 18446744073709551616≥9223372036854775808))=true then a % 18446744073709551616 - 18446744073709551616 else a % 18446744073709551616)=(if (true&&decide (b % 18446744073709551616≥9223372036854775808))=true then b % 18446744073709551616 - 18446744073709551616 else b % 18446744073709551616)
 rw [h]
theorem w_add (a b:Int):wrapI .i64 (wrapI .i64 a+b)=wrapI .i64 (a+b):=ZF (by have:=zb7 a; omega)
theorem w_add2 (a b:Int):wrapI .i64 (wrapI .i64 a+wrapI .i64 b)=wrapI .i64 (a+b):=ZF (by have:=zb7 a; have:=zb7 b; omega)
def pxA (l:List Pt) (k:Nat):Int:=((l[k]?).map Pt.x).getD 0
def pyA (l:List Pt) (k:Nat):Int:=((l[k]?).map Pt.y).getD 0
noncomputable def crossK (l:List Pt):Nat->Int
 | 0=>0
 | 1=>0
 | k+2=>wrapI .i64 (crossK l (k+1)+wrapI .i64 (wrapI .i64 (pxA l k*pyA l (k+1)) - wrapI .i64 (pxA l (k+1)*pyA l k)))
noncomputable def crossA (p:Pn) (a:Ac):Int:=crossK (pathL p a.id) (pathL p a.id).length
noncomputable def ctrA (p:Pn) (parts:List Int) (a:Ac):Int:=bif parts.contains a.l==parts.contains a.r then 0 else bif parts.contains a.r then 0 - crossA p a else crossA p a
noncomputable def areaS (p:Pn) (parts:List Int) (l:List Ac):Int:=(l.map (ctrA p parts)).sum
theorem area_next {p:Pn} {parts:List Int} {l:List Ac} {k:Nat} {a:Ac} (h:l[k]?=some a):areaS p parts (l.take (k+1))=areaS p parts (l.take k)+ctrA p parts a:=by
 unfold areaS
 rw [zdv,h,zd2,List.map_append,List.sum_append]
 simp
end
section
section
variable {S:ySM}
theorem pxA_at {l:List Pt} {k:Nat} {x:Pt} (h:l[k]?=some x):pxA l k=x.x:=by simp [pxA,h]
theorem pyA_at {l:List Pt} {k:Nat} {x:Pt} (h:l[k]?=some x):pyA l k=x.y:=by simp [pyA,h]
theorem area_in (hS:NoS S) {m D:Nat} {out:yLM} {K:yKM} (q:SlOf 2 Pt.c) (hm:q.l.length+10<=m) (own:yLO) (i n:Nat) (tw:Int) (rt:Bool) (asv:IV) (t:List IV) (hq:2<=q.l.length)
  (hfr:Slots 105 t [(2,.ptrM D 0 0),(4,.int .i64 tw),(5,.ptrM D 2 0),(10,.bool rt),(11,.int .i64 0),(12,q.v),(14,.int .i64 1),(37,asv),(38,iv n),(39,iv i)])
  (hK:∀ t' own',(∃ R,own'=own++R)->Slots 105 t' [(2,.ptrM D 0 0),(4,.int .i64 tw),(5,.ptrM D 2 0),(10,.bool rt),(11,.int .i64 (crossK q.l q.l.length)),(37,asv),(38,iv n),(39,iv i)]->K .normal ⟨t',own'⟩) :
  Ex (callN Ftab S m) D out m (i6.body.sub [1,1,1,0,1,0,0,1,1,0,0,1,1,1,1,1,0,1]) K ⟨t,own⟩:=by
 simp only [V3] at hfr
 have hqf:=q.few
 simp only [i6,IC.sub,V0,Nat.reduceLT,Nat.reduceAdd,Nat.reduceMul,Nat.reduceLeDiff,Nat.reduceEqDiff,reduceCtorEq]
 refine zb (fun jj st=>∃ (k:Nat),q.l.length - k<=jj/\1<=k/\k<=q.l.length/\(∃ R,st.own=own++R)/\Slots 105 st.t [(2,.ptrM D 0 0),(4,.int .i64 tw),(5,.ptrM D 2 0),(10,.bool rt),(11,.int .i64 (crossK q.l k)),(12,q.v),(14,iv k),(37,asv),(38,iv n),(39,iv i)]) q.l.length (by omega) ⟨1,by omega,by omega,by omega,⟨[],by simp⟩,by simp only [V0,Nat.reduceLT,Nat.reduceAdd,Nat.reduceMul,Nat.reduceLeDiff,Nat.reduceEqDiff,reduceCtorEq,hfr,show crossK q.l 1=0 from rfl,Int.natCast_one]⟩ ?_
 clear hfr
 rintro jj ⟨t,own2⟩ KA ⟨k,hjj,hk1,hk,⟨R,ho⟩,hfr⟩ hnA heA hrA
 dsimp only at ho hfr
 subst ho
 simp only [V3] at hfr
 by_cases h:k<q.l.length
 ·obtain ⟨j,rfl⟩:∃ j,k=j+1:=⟨k - 1,by omega⟩
  have hj:j<q.l.length:=by omega
  obtain ⟨x,hx⟩:=gx (l:=q.l) (i:=j) hj
  obtain ⟨y,hy⟩:=gx (l:=q.l) (i:=j+1) h
  have rx1:rdN (q.l.flatMap Pt.c) (j*2) 1=some [.int .i64 x.x]:=(zc Pt.c_len 0 1 hx (by omega)).trans rfl
  have rx2:rdN (q.l.flatMap Pt.c) (j*2+1) 1=some [.int .i64 x.y]:=(zc Pt.c_len 1 1 hx (by omega)).trans rfl
  have ry1:rdN (q.l.flatMap Pt.c) ((j+1)*2) 1=some [.int .i64 y.x]:=(zc Pt.c_len 0 1 hy (by omega)).trans rfl
  have ry2:rdN (q.l.flatMap Pt.c) ((j+1)*2+1) 1=some [.int .i64 y.y]:=(zc Pt.c_len 1 1 hy (by omega)).trans rfl
  have hwm:wrapI .i64 (((j+1:Nat):Int) - 1)=((j:Nat):Int):=we
  have hw:wrapI .i64 (((j+1:Nat):Int)+1)=((j+1+1:Nat):Int):=we
  have hc:crossK q.l (j+1+1)=wrapI .i64 (crossK q.l (j+1)+wrapI .i64 (wrapI .i64 (x.x*y.y) - wrapI .i64 (y.x*x.y))):=by
   rw [crossK,pxA_at hx,pyA_at hy,pxA_at hy,pyA_at hx]
  simp only [V0,Nat.reduceLT,Nat.reduceAdd,Nat.reduceMul,Nat.reduceLeDiff,Nat.reduceEqDiff,reduceCtorEq,hfr,h,za q h,za q hj,rx1,rx2,ry1,ry2,hwm]
  refine ⟨by simp [comm],?_⟩
  simp only [V0,Nat.reduceLT,Nat.reduceAdd,Nat.reduceMul,Nat.reduceLeDiff,Nat.reduceEqDiff,reduceCtorEq,hfr,hw]
  exact hnA _ (q.l.length - (j+1+1)) (by omega) ⟨j+1+1,by omega,by omega,by omega,⟨_,rfl⟩,by simp only [V0,Nat.reduceLT,Nat.reduceAdd,Nat.reduceMul,Nat.reduceLeDiff,Nat.reduceEqDiff,reduceCtorEq,hfr,hw,hc]⟩
 ·obtain rfl:k=q.l.length:=by omega
  simp only [V0,Nat.reduceLT,Nat.reduceAdd,Nat.reduceMul,Nat.reduceLeDiff,Nat.reduceEqDiff,reduceCtorEq,hfr,h]
  refine heA _ _ ?_
  simp only [V0,Nat.reduceLT,Nat.reduceAdd,Nat.reduceMul,Nat.reduceLeDiff,Nat.reduceEqDiff,reduceCtorEq]
  exact hK _ _ ⟨_,rfl⟩ (by simp only [V0,Nat.reduceLT,Nat.reduceAdd,Nat.reduceMul,Nat.reduceLeDiff,Nat.reduceEqDiff,reduceCtorEq,hfr])
end
end
section
def ArcAt (S:ySM) (m:Nat) (p:Pn) (q:SlOf 1 intc) (a:Ac):Prop:=(∀ d out ownV own i,callN Ftab S m d out ownV own i 19 [q.v,.int .i64 a.l]=some (.r,.bool (q.l.contains a.l),own))/\(∀ d out ownV own i,callN Ftab S m d out ownV own i 19 [q.v,.int .i64 a.r]=some (.r,.bool (q.l.contains a.r),own))/\∃ k:SlOf 2 Pt.c,k.l=pathL p a.id/\∀ d out ownV own i,callN Ftab S m d out ownV own i 20 [.agg p.c,.int .i64 a.id]=some (.r,.tuple [k.v,.int .i64 0],own)
section
variable {S:ySM}
theorem at_areaP (hS:NoS S) (s:Sv) (id:Int) (f:Ft) (hfd:findD s id=f) (hok:findOk s id=true) (h3:shapeI f.kind=3) {Np:Nat} (hpc:GivesN S Np 18 [.agg s.pl.c] (.int .i64 0)) (hp:∀ a∈s.pl.as.l,pathOk s.pl a.id=true) (hfv:FewVia s.pl) (hpa:∀ g∈s.ft.l,g.parts.l.length<=1000):∃ N,GivesN S N 6 [.agg s.c,iv id] (.int .i64 (wrapI .i64 (areaS s.pl f.parts.l s.pl.as.l))):=by
 obtain ⟨q,hq,N1,hN1⟩:=zbo hS s id (fun g hg=>by have:=hpa g hg; omega)
 have hq2:q.l=f.parts.l:=by rw [hq,← hfd]; rfl
 have e1:((s.ft.l.find? fun f=>f.id==id).getD zFt)=f:=hfd
 have e2:(s.ft.l.find? fun f=>f.id==id).isSome=true:=hok
 rw [e1,e2] at hN1
 have harc:∀ a∈s.pl.as.l,∃ N,∀ m,N<=m->ArcAt S m s.pl q a:=fun a ha=>by
  obtain ⟨M1,hM1⟩:=ZM hS q a.l
  obtain ⟨M2,hM2⟩:=ZM hS q a.r
  obtain ⟨k,hk,M3,hM3⟩:=zbt hS s.pl a.id hfv
  rw [hp a ha] at hM3
  exact ⟨M1+M2+M3,fun m hm=>⟨fun d out ownV own i=>hM1 m (by omega) d out ownV own i,fun d out ownV own i=>hM2 m (by omega) d out ownV own i,k,hk (hp a ha),fun d out ownV own i=>hM3 m (by omega) d out ownV own i⟩⟩
 obtain ⟨N2,hN2⟩:=unif s.pl.as.l harc
 have hs3:((3:Int) != 3)=false:=by decide
 refine ⟨N1+N2+Np+s.pl.as.l.length+200100,zd (i:=i6) (ns hS (by rfl)) rfl rfl (lb rfl) (N1+N2+Np+s.pl.as.l.length+200099) (by omega) zw fun m hm d out t hfr=>?_⟩
 simp only [V2,Nat.reduceAdd,i6,Sv.c,zo] at hfr
 have c1:=hN1 m (by omega)
 have c2:=at_shape hS f.kind m (by omega)
 have c3:=hpc m (by omega)
 rw [h3] at c2
 simp only [Sv.c,Pn.c,Ft.c,zo] at c1 c2 c3
 have hIn:=fun K k hmq own i n tw rt asv t hq hfr hK=>@area_in S hS m d out K k hmq own i n tw rt asv t hq hfr hK
 rw [show i6.body=.seq (i6.body.sub [0]) (.seq (i6.body.sub [1,0]) (.seq (i6.body.sub [1,1,0]) (.seq (.seq (i6.body.sub [1,1,1,0,0]) (.block 0 (.loop (.seq (i6.body.sub [1,1,1,0,1,0,0,0]) (.seq (i6.body.sub [1,1,1,0,1,0,0,1,0]) (.seq (.block 1 (.seq (i6.body.sub [1,1,1,0,1,0,0,1,1,0,0,0]) (.seq (i6.body.sub [1,1,1,0,1,0,0,1,1,0,0,1,0]) (.seq (i6.body.sub [1,1,1,0,1,0,0,1,1,0,0,1,1,0]) (.seq (i6.body.sub [1,1,1,0,1,0,0,1,1,0,0,1,1,1,0]) (.seq (i6.body.sub [1,1,1,0,1,0,0,1,1,0,0,1,1,1,1,0]) (.seq (.seq (i6.body.sub [1,1,1,0,1,0,0,1,1,0,0,1,1,1,1,1,0,0]) (i6.body.sub [1,1,1,0,1,0,0,1,1,0,0,1,1,1,1,1,0,1])) (i6.body.sub [1,1,1,0,1,0,0,1,1,0,0,1,1,1,1,1,1])))))))) (i6.body.sub [1,1,1,0,1,0,0,1,1,1]))))))) (i6.body.sub [1,1,1,1])))) from rfl]
 generalize i6.body.sub [1,1,1,0,1,0,0,1,1,0,0,1,1,1,1,1,0,1]=T at hIn ⊢
 have hlf:=s.pl.as.few
 have h33:((3:Int) != 3)=false:=by decide
 have h00:((0:Int) != 0)=false:=by decide
 have hz0:wrapI .i64 (areaS s.pl f.parts.l (s.pl.as.l.take 0))=0:=by
  have:areaS s.pl f.parts.l (s.pl.as.l.take 0)=0:=rfl
  rw [this,zt]
  decide
 simp only [i6,IC.sub,V0,Nat.reduceLT,Nat.reduceAdd,Nat.reduceMul,Nat.reduceLeDiff,Nat.reduceEqDiff,reduceCtorEq,hfr,c1,c2,c3,h33,h00]
 refine zb (fun jj st=>∃ (i:Nat) (x1:IObj) (R:yLO),s.pl.as.l.length - i<=jj/\i<=s.pl.as.l.length/\st.own=.cells s.c::x1::.cells [.int .i64 f.id,.int .i64 f.kind,.int .i64 f.cls,.str f.name.1,q.v]::R/\Slots 105 st.t [(2,.ptrM d 0 0),(4,.int .i64 (wrapI .i64 (areaS s.pl f.parts.l (s.pl.as.l.take i)))),(5,.ptrM d 2 0),(37,s.pl.as.v),(38,iv (s.pl.as.l.length:Nat)),(39,iv i)]) s.pl.as.l.length (by omega) ⟨0,_,_,by omega,by omega,rfl,by simp only [V0,Nat.reduceLT,Nat.reduceAdd,Nat.reduceMul,Nat.reduceLeDiff,Nat.reduceEqDiff,reduceCtorEq,hfr,hz0,zcp]⟩ ?_
 clear hfr
 rintro jj ⟨t,own⟩ KA ⟨i,x1,R,hjj,hi,ho,hfr⟩ hnA heA hrA
 dsimp only at ho hfr
 subst ho
 simp only [V3] at hfr
 by_cases h:i<s.pl.as.l.length
 ·have hx:s.pl.as.l[i]?=some s.pl.as.l[i]:=zce h
  have hmem:s.pl.as.l[i]∈s.pl.as.l:=zdr h
  generalize s.pl.as.l[i]=a at hx hmem
  have hrd:rdN (s.pl.as.l.flatMap Ac.c) (i*6) 6=some [.int .i64 a.id,.int .i64 a.fr,.int .i64 a.to,a.via.v,.int .i64 a.l,.int .i64 a.r]:=(zc Ac.c_len 0 6 hx (by omega)).trans rfl
  have hw:wrapI .i64 ((i:Int)+1)=((i+1:Nat):Int):=we
  obtain ⟨cl,cr,k,hk,cp⟩:=hN2 a hmem m (by omega)
  simp only [Pn.c] at cp
  rw [hq2] at cl cr
  have hkl:2<=k.l.length/\k.l.length<=100002:=by
   rw [hk]
   unfold pathL
   have:=fewD hfv a.id
   simp only [zcr,zc8,zc7]
   omega
  have han:=area_next (p:=s.pl) (parts:=f.parts.l) hx
  have gE:∀ (a b c x:IObj) (r:yLO),(a::b::c::(R++x::r))[R.length+1+1+1]?=some x:=fun a b c x r=>by
   simp only [zc1]
   rw [ZZ]
  have sE:∀ (a b c x v:IObj) (r:yLO),(a::b::c::(R++x::r)).set (R.length+1+1+1) v=a::b::c::(R++v::r):=fun a b c x v r=>by
   simp only [List.set_cons_succ]
   rw [YC]
  have hE:∀ (vis:List Nat) (a b c x:IObj) (r:yLO),(hide vis (R.length+1+1+1+1) (a::b::c::(R++x::r)))[R.length+1+1+1]?=some x:=fun vis a b c x r=>by
   rw [zy,gE,zck,if_pos (by simp)]
  cases hlr:f.parts.l.contains a.l==f.parts.l.contains a.r
  ·have hI:=fun K own i n tw rt asv t hfr hK=>hIn K k (by omega) own i n tw rt asv t hkl.1 hfr hK
   simp only [V0,Nat.reduceLT,Nat.reduceAdd,Nat.reduceMul,Nat.reduceLeDiff,Nat.reduceEqDiff,reduceCtorEq,hfr,h,za s.pl.as h,hrd,gE,sE,hE,cl,cr,Sv.c]
   refine ⟨by simp [comm],?_⟩
   simp only [V0,Nat.reduceLT,Nat.reduceAdd,Nat.reduceMul,Nat.reduceLeDiff,Nat.reduceEqDiff,reduceCtorEq,hfr,gE,sE,hE,cl,cr,cp,eqbI,hlr,zbm,Sv.c]
   refine hI _ _ i s.pl.as.l.length (wrapI .i64 (areaS s.pl f.parts.l (s.pl.as.l.take i))) (f.parts.l.contains a.r) s.pl.as.v _ (by simp only [V0,Nat.reduceLT,Nat.reduceAdd,Nat.reduceMul,Nat.reduceLeDiff,Nat.reduceEqDiff,reduceCtorEq,hfr]) fun t' own' ⟨R2,ho2⟩ ht=>?_
   clear hfr
   simp only [V3] at ht
   subst ho2
   have hcr:crossK k.l k.l.length=crossA s.pl a:=by
    unfold crossA
    rw [hk]
   cases hr:f.parts.l.contains a.r
   ·have hct:ctrA s.pl f.parts.l a=crossA s.pl a:=by
     unfold ctrA
     rw [hlr,hr]
     rfl
    rw [hct] at han
    have hsum:wrapI .i64 (wrapI .i64 (areaS s.pl f.parts.l (s.pl.as.l.take i))+crossA s.pl a)=wrapI .i64 (areaS s.pl f.parts.l (s.pl.as.l.take (i+1))):=by rw [w_add,han]
    simp only [V0,Nat.reduceLT,Nat.reduceAdd,Nat.reduceMul,Nat.reduceLeDiff,Nat.reduceEqDiff,reduceCtorEq,ht,hr,hcr,hsum,hw]
    exact hnA _ (s.pl.as.l.length - (i+1)) (by omega) ⟨i+1,x1,_,by omega,by omega,rfl,by simp only [V0,Nat.reduceLT,Nat.reduceAdd,Nat.reduceMul,Nat.reduceLeDiff,Nat.reduceEqDiff,reduceCtorEq,ht,hr,hcr,hsum,hw]⟩
   ·have hct:ctrA s.pl f.parts.l a=0 - crossA s.pl a:=by
     unfold ctrA
     rw [hlr,hr]
     rfl
    rw [hct] at han
    have hsum:wrapI .i64 (wrapI .i64 (areaS s.pl f.parts.l (s.pl.as.l.take i))+wrapI .i64 (0 - crossA s.pl a))=wrapI .i64 (areaS s.pl f.parts.l (s.pl.as.l.take (i+1))):=by rw [w_add2,han]
    simp only [V0,Nat.reduceLT,Nat.reduceAdd,Nat.reduceMul,Nat.reduceLeDiff,Nat.reduceEqDiff,reduceCtorEq,ht,hr,hcr,hsum,hw]
    exact hnA _ (s.pl.as.l.length - (i+1)) (by omega) ⟨i+1,x1,_,by omega,by omega,rfl,by simp only [V0,Nat.reduceLT,Nat.reduceAdd,Nat.reduceMul,Nat.reduceLeDiff,Nat.reduceEqDiff,reduceCtorEq,ht,hr,hcr,hsum,hw]⟩
  ·have hct:ctrA s.pl f.parts.l a=0:=by
    unfold ctrA
    rw [hlr]
    rfl
   rw [hct,Int.add_zero] at han
   simp only [V0,Nat.reduceLT,Nat.reduceAdd,Nat.reduceMul,Nat.reduceLeDiff,Nat.reduceEqDiff,reduceCtorEq,hfr,h,za s.pl.as h,hrd,gE,sE,hE,cl,cr,Sv.c]
   refine ⟨by simp [comm],?_⟩
   simp only [V0,Nat.reduceLT,Nat.reduceAdd,Nat.reduceMul,Nat.reduceLeDiff,Nat.reduceEqDiff,reduceCtorEq,hfr,gE,sE,hE,cl,cr,eqbI,hlr,eqs_tt,hw,Sv.c]
   exact hnA _ (s.pl.as.l.length - (i+1)) (by omega) ⟨i+1,x1,_,by omega,by omega,rfl,by simp only [V0,Nat.reduceLT,Nat.reduceAdd,Nat.reduceMul,Nat.reduceLeDiff,Nat.reduceEqDiff,reduceCtorEq,hfr,hw,han]⟩
 ·rw [zcm (by omega)] at hfr
  simp only [V0,Nat.reduceLT,Nat.reduceAdd,Nat.reduceMul,Nat.reduceLeDiff,Nat.reduceEqDiff,reduceCtorEq,hfr,h]
  refine heA _ _ ?_
  simp only [V0,Nat.reduceLT,Nat.reduceAdd,Nat.reduceMul,Nat.reduceLeDiff,Nat.reduceEqDiff,reduceCtorEq,hfr]
end
end
end Go.Proofs.YtelocmclpfincaaGreatDoor
end
