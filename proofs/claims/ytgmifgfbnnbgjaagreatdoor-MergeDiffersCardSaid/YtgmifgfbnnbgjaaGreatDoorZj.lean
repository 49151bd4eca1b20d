/-
  A part of the proof: the small machine, its simulation and its walks.
-/
import Derived.Test.YtgmifgfbnnbgjaaGreatDoorZd
import Derived.Test.YtgmifgfbnnbgjaaGreatDoorZi
set_option linter.unusedVariables false
set_option linter.unusedSimpArgs false
set_option maxRecDepth 1000000
set_option maxHeartbeats 3200000
section
namespace Go.Proofs.YtgmifgfbnnbgjaaGreatDoor
open Go Go.RowKit
section
def cyG (q:SlOf 1 intc):List IV:=[q.v]
end
section
theorem pts_cl (q:SlOf 2 Pt.c) (n:Nat):clF (n+2) q.v=true:=by
 have hh:∀ (cs:List IV) (k:Nat) (v:IV),Sl 2 cs k v->cs.all (clF (n+1))=true->clF (n+2) v=true:=fun cs k v h hc=>by
  cases h with
  | nil=>rfl
  | row cs n tight hl=>exact hc
 refine hh _ _ _ q.ok ?_
 rw [zbu]
 intro x hx
 obtain ⟨a,_,ha⟩:=List.mem_flatMap.1 hx
 simp only [Pt.c,za4,zbp,or_false] at ha
 rcases ha with rfl | rfl <;> rfl
end
section
structure ArB where
 tw:Int
 oc:SlOf 1 intc
 iv:IV
 ic:List (SlOf 1 intc)
 av:IV
 al:List Int
def arG (a:ArB):List IV:=[.int .i64 a.tw,a.oc.v,a.iv,a.av]
end
section
def OwnT {α:Type} (g:α->List IV) (sz d k0:Nat) (B:Nat->Nat) (τ:Nat) (J:yLO) (lv:IV) (xs:List α):Prop:=(xs=[]/\lv=.nilsl)∨∃ b,xs≠[]/\lv=.slM d (k0+b) 0 xs.length xs.length sz false/\J[b]?=some (.cells (xs.flatMap g))/\B b=τ
section
variable {α:Type} {g:α->List IV} {sz d k0 τ:Nat} {B:Nat->Nat} {J:yLO} {lv:IV} {xs:List α}
theorem OwnT.more (h:OwnT g sz d k0 B τ J lv xs) (r:yLO):OwnT g sz d k0 B τ (J++r) lv xs:=by
 rcases h with h | ⟨b,hne,h1,h2,h3⟩
 ·exact .inl h
 ·exact .inr ⟨b,hne,h1,by rw [zar (zal.1 h2).1]; exact h2,h3⟩
theorem OwnT.len (h:OwnT g sz d k0 B τ J lv xs) {D:Nat} {out:yLM} {ownV own:yLO}:lenV D out ownV own 1 lv=some (.p,.int .i64 (xs.length:Nat),own):=by
 rcases h with ⟨rfl,rfl⟩ | ⟨b,_,rfl,_⟩ <;> rfl
theorem OwnT.scal (h:OwnT g sz d k0 B τ J lv xs):lv.scalar=true:=by
 rcases h with ⟨_,rfl⟩ | ⟨b,_,rfl,_⟩ <;> rfl
theorem OwnT.cells (h:OwnT g sz d k0 B τ J lv xs):lv.cells=[lv]:=by
 rcases h with ⟨_,rfl⟩ | ⟨b,_,rfl,_⟩ <;> rfl
theorem OwnT.set_other {β:Type} {g':β->List IV} {sz' τ' b:Nat} {lv0:IV} {zs:List β} {o:IObj} (hb:B b=τ) (hτ:τ'≠τ) (hO:OwnT g' sz' d k0 B τ' J lv0 zs):OwnT g' sz' d k0 B τ' (J.set b o) lv0 zs:=by
 rcases hO with hO | ⟨b',hne,h1,h2,h3⟩
 ·exact .inl hO
 ·have hbb:b≠b':=fun he=>hτ (by rw [← h3,← he,hb])
  exact .inr ⟨b',hne,h1,by rw [zbq hbb]; exact h2,h3⟩
end
end
section
def nilC:SlOf 1 intc:=nilS _ _
structure DivOK (D:Nat) (U:List (SlOf 1 intc)) (n1 n2 n3:Nat) (J:yLO) (B:Nat->Nat) (lv:IV) (A:List ArB) (rv:IV) (rc:List (SlOf 1 intc)):Prop where
 l:OwnT arG 4 D 1 B 0 J lv A
 ne:A≠[]
 len:A.length<=n1+1
 r:OwnT cyG 1 D 1 B 1 J rv rc
 rl:rc.length<=n1
 rU:∀ c∈rc,c∈U
 el:∀ i a,A[i]?=some a->OwnT cyG 1 D 1 B (2+2*i) J a.iv a.ic/\OwnT intc 1 D 1 B (3+2*i) J a.av a.al/\a.ic.length<=n2/\a.al.length<=n3/\(∀ c∈a.ic,c∈U)/\(0<i->a.oc∈U)/\a.oc∈nilC::U
section
variable {D n1 n2 n3:Nat} {U:List (SlOf 1 intc)} {J:yLO} {B:Nat->Nat} {lv rv:IV} {A:List ArB} {rc:List (SlOf 1 intc)}
theorem DivOK.more (h:DivOK D U n1 n2 n3 J B lv A rv rc) (r:yLO):DivOK D U n1 n2 n3 (J++r) B lv A rv rc :=
 ⟨h.l.more r,h.ne,h.len,h.r.more r,h.rl,h.rU,fun i a ha=>by
  obtain ⟨h1,h2,h3⟩:=h.el i a ha
  exact ⟨h1.more r,h2.more r,h3⟩⟩
theorem DivOK.set {m2 m3:Nat} {J2:yLO} {B2:Nat->Nat} {b i:Nat} {a a':ArB} (h:DivOK D U n1 n2 n3 J B lv A rv rc) (hl:lv=.slM D (1+b) 0 A.length A.length 4 false) (hb:J2[b]?=some (.cells (A.flatMap arG))) (hB:B2 b=0) (ha:A[i]?=some a) (hoc:a'.oc=a.oc)
  (hr:OwnT cyG 1 D 1 B2 1 J2 rv rc) (hm2:n2<=m2) (hm3:n3<=m3)
  (hel:∀ j x,A[j]?=some x->j≠i->OwnT cyG 1 D 1 B2 (2+2*j) J2 x.iv x.ic/\OwnT intc 1 D 1 B2 (3+2*j) J2 x.av x.al)
  (h1:OwnT cyG 1 D 1 B2 (2+2*i) J2 a'.iv a'.ic) (h2:OwnT intc 1 D 1 B2 (3+2*i) J2 a'.av a'.al) (h3:a'.ic.length<=m2) (h4:a'.al.length<=m3) (h5:∀ c∈a'.ic,c∈U) :
  DivOK D U n1 m2 m3 (J2.set b (.cells ((A.set i a').flatMap arG))) B2 lv (A.set i a') rv rc:=by
 have hil:=(zal.1 ha).1
 have hbl:=(zal.1 hb).1
 refine ⟨.inr ⟨b,fun he=>h.ne (by have:=congrArg List.length he; simpa using this),by rw [hl,List.length_set],zbw hbl,hB⟩,fun he=>h.ne (by have:=congrArg List.length he; simpa using this),by rw [List.length_set]; exact h.len,OwnT.set_other hB (by omega) hr,h.rl,h.rU,fun j x hx=>?_⟩
 by_cases hj:j=i
 ·subst hj
  rw [zbw hil] at hx
  cases hx
  obtain ⟨_,_,_,_,_,h6,h7⟩:=h.el j a ha
  exact ⟨OwnT.set_other hB (by omega) h1,OwnT.set_other hB (by omega) h2,h3,h4,h5,by rw [hoc]; exact h6,by rw [hoc]; exact h7⟩
 ·rw [zbq (Ne.symm hj)] at hx
  obtain ⟨_,_,g3,g4,g5⟩:=h.el j x hx
  obtain ⟨g1,g2⟩:=hel j x hx hj
  exact ⟨OwnT.set_other hB (by omega) g1,OwnT.set_other hB (by omega) g2,by omega,by omega,g5⟩
end
end
section
theorem cl_fz:∀ {n:Nat} {v:IV},clF n v=true->Fz n v
 | 0,v,h=>by simp [clF] at h
 | n+1,v,h=>fun m hm lv own=>by
  obtain ⟨m,rfl⟩:∃ q,m=q+1:=⟨m - 1,by omega⟩
  have ih:∀ {cs:List IV},cs.all (clF n)=true->cs.mapM (freeze m lv own)=some cs:=fun h=>zV fun c hc=>cl_fz (zbu.1 h c hc) m (by omega) lv own
  cases v <;> simp only [clF,za3,zaz] at h <;> simp only [freeze] <;> first | rfl | (rw [ih h]; rfl) | (rw [ih h.1,ih h.2])
end
section
def kindZ (f:Ft):Int:=bif shapeI f.kind==3 then f.kind else 0
def keysF (f:Ft):List (Int × Int):=bif shapeI f.kind==2 then [] else f.parts.l.map fun x=>(kindZ f,x)
def partOk (p:Pn) (f:Ft) (x:Int):Bool:=bif shapeI f.kind==1 then (nodeF p x).isSome else bif shapeI f.kind==2 then (arcF p x).isSome else bif shapeI f.kind==3 then p.fs.l.contains x else false
def bad5 (nm:ByteArray->Int) (f:Ft):Bool:=!(f.name.1.toList==(bs []).toList)&&(nm f.name.1 != 0)
structure FtOK (nm:ByteArray->Int) (p:Pn) (f:Ft):Prop where
 few:f.parts.l.length<=64
 asc:ascL f.parts.l=true
 ids:1<=f.id/\f.id<=1073741824/\1<=f.cls/\f.cls<=9
 shape:shapeI f.kind≠0
 name:bad5 nm f=false
 some:f.parts.l≠[]
 one:shapeI f.kind=1->f.parts.l.length<=1
 part:∀ x∈f.parts.l,partOk p f x=true
structure FtsOK (nm:ByteArray->Int) (p:Pn) (fs:List Ft):Prop where
 few:fs.length<=128
 each:∀ f∈fs,FtOK nm p f
 asc:ascL (fs.map Ft.id)=true
 keys:(fs.flatMap keysF).Nodup
theorem Yp:∀ {l:List Int},ascL l=true↔l.Pairwise (·<·)
 | []=>by simp [ascL]
 | [a]=>by simp [ascL]
 | a::b::t=>by
  have ih:=Yp (l:=b::t)
  rw [ascL,za3,decide_eq_true_eq,ih,zbx (a:=a)]
  constructor
  ·rintro ⟨h1,h2⟩
   refine ⟨fun x hx=>?_,h2⟩
   rcases za4.1 hx with rfl | hx
   ·exact h1
   ·exact Int.lt_trans h1 ((zbx.1 h2).1 x hx)
  ·rintro ⟨h1,h2⟩
   exact ⟨h1 b (zbn ..),h2⟩
theorem ascL_sub {l l':List Int} (h:ascL l=true) (hs:l'.Sublist l):ascL l'=true:=Yp.2 ((Yp.1 h).sublist hs)
theorem flatMap_sub {α β:Type} (g:α->List β) {l l':List α} (h:l'.Sublist l):(l'.flatMap g).Sublist (l.flatMap g):=by
 induction h with
 | slnil=>exact .slnil
 | cons a _ ih=>rw [zbg]; exact ih.trans (List.sublist_append_right ..)
 | cons_cons a _ ih=>rw [zbg,zbg]; exact (List.Sublist.refl _).append ih
theorem FtsOK.sub {nm:ByteArray->Int} {p:Pn} {fs fs':List Ft} (h:FtsOK nm p fs) (hs:fs'.Sublist fs):FtsOK nm p fs' :=
 ⟨zbo hs.length_le h.few,fun f hf=>h.each f (hs.subset hf),ascL_sub h.asc (hs.map _),h.keys.sublist (flatMap_sub keysF hs)⟩
theorem keysF_sub {f:Ft} {q:SlOf 1 intc} (h:q.l.Sublist f.parts.l):(keysF { f with parts:=q }).Sublist (keysF f):=by
 unfold keysF
 simp only
 cases shapeI f.kind==2
 ·exact h.map _
 ·exact .slnil
theorem FtOK.parts {nm:ByteArray->Int} {p:Pn} {f:Ft} {q:SlOf 1 intc} (h:FtOK nm p f) (h1:q.l.Sublist f.parts.l) (h2:q.l≠[]):FtOK nm p { f with parts:=q } :=
 ⟨zbo h1.length_le h.few,ascL_sub h.asc h1,h.ids,h.shape,h.name,h2,fun hs=>zbo h1.length_le (h.one hs),fun x hx=>h.part x (h1.subset hx)⟩
theorem set_split {α:Type} {l:List α} {i:Nat} {x:α} (h:l[i]?=some x) (y:α):∃ a b,l=a++x::b/\l.set i y=a++y::b/\a.length=i:=by
 obtain ⟨hi,rfl⟩:=zal.1 h
 exact ⟨l.take i,l.drop (i+1),by simp,by rw [List.set_eq_take_append_cons_drop,if_pos hi],by simp; omega⟩
theorem FtsOK.set {nm:ByteArray->Int} {p:Pn} {fs:List Ft} {i:Nat} {f:Ft} {q:SlOf 1 intc} (h:FtsOK nm p fs) (hi:fs[i]?=some f) (h1:q.l.Sublist f.parts.l) (h2:q.l≠[]):FtsOK nm p (fs.set i { f with parts:=q }):=by
 obtain ⟨a,b,rfl,hb,_⟩:=set_split hi { f with parts:=q }
 rw [hb]
 refine ⟨by have:=h.few; simp only [zaw,zau] at this ⊢; exact this,fun g hg=>?_,?_,?_⟩
 ·rcases List.mem_append.1 hg with hg | hg
  ·exact h.each g (by simp [hg])
  ·rcases za4.1 hg with rfl | hg
   ·exact (h.each f (by simp)).parts h1 h2
   ·exact h.each g (by simp [hg])
 ·have:=h.asc
  simpa using this
 ·refine h.keys.sublist ?_
  rw [List.flatMap_append,List.flatMap_append,zbg,zbg]
  exact (List.Sublist.refl _).append ((keysF_sub h1).append (List.Sublist.refl _))
end
section
theorem flat_take {α:Type} {g:α->List IV} {sz:Nat} (hg:∀ a,(g a).length=sz) {l:List α} {i:Nat} (h:i<=l.length):(l.flatMap g).take (i*sz)=(l.take i).flatMap g:=by
 conv=>lhs; rw [← List.take_append_drop i l,List.flatMap_append]
 rw [List.take_left' (by rw [zn hg,zbl,Nat.min_eq_left h])]
theorem flat_drop {α:Type} {g:α->List IV} {sz:Nat} (hg:∀ a,(g a).length=sz) {l:List α} {i:Nat} (h:i<=l.length):(l.flatMap g).drop (i*sz)=(l.drop i).flatMap g:=by
 conv=>lhs; rw [← List.take_append_drop i l,List.flatMap_append]
 rw [List.drop_left' (by rw [zn hg,zbl,Nat.min_eq_left h])]
theorem slice_lo {sz:Nat} {α:Type} {g:α->List IV} (hg:∀ a,(g a).length=sz) (q:SlOf sz g) {i:Nat} (h:i<=q.l.length) (h0:q.l.length≠0):∃ q2:SlOf sz g,q2.l=q.l.drop i/\∀ (t:List IV) (x:Opd),ρ t x=.int .i64 (i:Int)->sliceI sz t q.v (some x) none none=some q2.v:=by
 have hh:∀ (cs:List IV) (n:Nat) (v:IV),Sl sz cs n v->n≠0->i<=n->∃ tight,∀ (t:List IV) (x:Opd),ρ t x=.int .i64 (i:Int)->sliceI sz t v (some x) none none=some (.slC ((cs.drop (i*sz)).take ((n - i)*sz)) (n - i) sz tight):=fun cs n v hs hn hi=>by
  cases hs with
  | nil=>exact absurd rfl hn
  | row cs n tight hl =>
   refine ⟨tight&&n==n,fun t x hx=>?_⟩
   simp only [sliceI,optI,hx,zM,zf,Option.isSome_none,zaz,if_false]
   rw [if_pos ⟨⟨zaq _,zaq _,hi⟩,trivial⟩]
 obtain ⟨tight,h1⟩:=hh _ _ _ q.ok h0 h
 have e:((q.l.flatMap g).drop (i*sz)).take ((q.l.length - i)*sz)=(q.l.drop i).flatMap g:=by
  rw [flat_drop hg h,za0]
  rw [zn hg,List.length_drop]
  exact zaq _
 refine ⟨mkRow hg (q.l.drop i) (q.l.length - i) tight (by rw [List.length_drop]) (by have:=q.few; omega),rfl,fun t x hx=>?_⟩
 rw [h1 t x hx,e]
 rfl
theorem slOf_cl {sz n:Nat} {α:Type} {g:α->List IV} (hg:∀ a,(g a).all (clF (n+1))=true) (q:SlOf sz g):clF (n+2) q.v=true:=by
 have hh:∀ (cs:List IV) (k:Nat) (v:IV),Sl sz cs k v->cs.all (clF (n+1))=true->clF (n+2) v=true:=fun cs k v hs hc=>by
  cases hs with
  | nil=>rfl
  | row cs k tight hl=>exact hc
 refine hh _ _ _ q.ok ?_
 rw [zbu]
 intro x hx
 obtain ⟨a,_,hxa⟩:=List.mem_flatMap.1 hx
 exact zbu.1 (hg a) x hxa
theorem parts_cl (q:SlOf 1 intc) (n:Nat):clF (n+2) q.v=true:=slOf_cl (fun a=>by simp [intc,zg,clF]) q
theorem ft_fz (a:Ft):∀ x∈a.c,Fz 2 x:=fun x hx=>by
 refine cl_fz (n:=2) ?_
 simp only [Ft.c,zg,za4,zbp,or_false] at hx
 rcases hx with rfl | rfl | rfl | rfl | rfl <;> first | rfl | exact parts_cl a.parts 0
end
end Go.Proofs.YtgmifgfbnnbgjaaGreatDoor
end
