/-
  A part of the proof: the small machine, its simulation and its walks.
-/
import Derived.Test.YtelocmclpfincaaGreatDoorZe
set_option linter.unusedVariables false
set_option linter.unusedSimpArgs false
set_option maxRecDepth 1000000
set_option maxHeartbeats 3200000
section
namespace Go.Proofs.YtelocmclpfincaaGreatDoor
section
section
variable {α:Type}
def up (r:α->α->Int) (x y:α):Prop:=¬ r y x<0
structure Orders (r:α->α->Int):Prop where
 total:∀ x y,up r x y∨up r y x
 trans:∀ x y z,up r x y->up r y z->up r x z
def Srt (r:α->α->Int) (xs:List α) (a c:Nat):Prop:=∀ i j x y,a<=i->i<j->j<c->xs[i]?=some x->xs[j]?=some y->up r x y
def Else (xs ys:List α) (a c:Nat):Prop:=∀ i,i<a∨c<=i->ys[i]?=xs[i]?
theorem Else.refl (xs:List α) (a c:Nat):Else xs xs a c:=fun _ _=>rfl
theorem Else.trans {xs ys zs:List α} {a c:Nat} (h:Else xs ys a c) (h2:Else ys zs a c):Else xs zs a c:=fun i hi=>(h2 i hi).trans (h i hi)
theorem Else.wide {xs ys:List α} {a c a' c':Nat} (h:Else xs ys a c) (h1:a'<=a) (h2:c<=c'):Else xs ys a' c':=fun i hi=>h i (by omega)
theorem zK {l:List α} {i j k:Nat} {x y:α} (hi:i<l.length) (hj:j<l.length):((l.set i x).set j y)[k]?=if k=j then some y else if k=i then some x else l[k]?:=by
 rw [List.getElem?_set,List.getElem?_set,List.length_set]
 by_cases h:k=j
 ·subst h
  simp [hj]
 ·rw [if_neg (Ne.symm h),if_neg h]
  by_cases h2:k=i
  ·subst h2
   simp [hi]
  ·rw [if_neg (Ne.symm h2),if_neg h2]
theorem zE {l:List α} {i j a c:Nat} {x y:α} (hi:i<l.length) (hj:j<l.length) (h1:a<=i/\i<c) (h2:a<=j/\j<c):Else l ((l.set i x).set j y) a c:=fun k hk=>by
 rw [zK hi hj,if_neg (by omega),if_neg (by omega)]
variable {r:α->α->Int}
structure Ins (r:α->α->Int) (zs:List α) (a k i:Nat):Prop where
 all:∀ p q x y,a<=p->p<q->q<=i->p≠k->q≠k->zs[p]?=some x->zs[q]?=some y->up r x y
 one:∀ q x y,k<q->q<=i->zs[k]?=some x->zs[q]?=some y->up r x y
theorem Ins.start {zs:List α} {a i:Nat} (h:Srt r zs a i):Ins r zs a i i :=
 ⟨fun p q x y h1 h2 h3 h4 h5=>h p q x y h1 h2 (by omega),fun q x y h1 h2=>absurd h1 (by omega)⟩
theorem Ins.step {zs:List α} {a k i:Nat} {x y:α} (hr:Orders r) (h:Ins r zs a k i) (ha:a<k) (hk:k<=i) (hi:i<zs.length) (hx:zs[k]?=some x) (hy:zs[k - 1]?=some y) (hlt:r x y<0):Ins r ((zs.set k y).set (k - 1) x) a (k - 1) i:=by
 have hxy:up r x y:=(hr.total x y).resolve_right fun h=>h hlt
 constructor
 ·intro p q u v h1 h2 h3 h4 h5 hu hv
  rw [zK (by omega) (by omega)] at hu hv
  rw [if_neg h4] at hu
  rw [if_neg h5] at hv
  by_cases hp:p=k
  ·rw [if_pos hp] at hu
   cases hu
   rw [if_neg (by omega)] at hv
   exact h.all (k - 1) q y v (by omega) (by omega) h3 (by omega) (by omega) hy hv
  ·rw [if_neg hp] at hu
   by_cases hq:q=k
   ·rw [if_pos hq] at hv
    cases hv
    exact h.all p (k - 1) u y h1 (by omega) (by omega) hp (by omega) hu hy
   ·rw [if_neg hq] at hv
    exact h.all p q u v h1 h2 h3 hp hq hu hv
 ·intro q u v h1 h2 hu hv
  rw [zK (by omega) (by omega)] at hu hv
  rw [if_pos rfl] at hu
  cases hu
  rw [if_neg (by omega)] at hv
  by_cases hq:q=k
  ·rw [if_pos hq] at hv
   cases hv
   exact hxy
  ·rw [if_neg hq] at hv
   exact h.one q x v (by omega) h2 hx hv
theorem Ins.done {zs:List α} {a k i:Nat} (hr:Orders r) (h:Ins r zs a k i) (hk:k<=i) (hi:i<zs.length) (hd:k<=a∨∃ x y,zs[k]?=some x/\zs[k - 1]?=some y/\¬ r x y<0) (ha:a<=k):Srt r zs a (i+1):=by
 intro p q u v h1 h2 h3 hu hv
 by_cases hp:p=k
 ·subst hp
  exact h.one q u v h2 (by omega) hu hv
 by_cases hq:q=k
 ·subst hq
  rcases hd with hd | ⟨x,y,hx,hy,hn⟩
  ·omega
  ·rw [hx] at hv
   cases hv
   by_cases hp2:p=q - 1
   ·subst hp2
    rw [hy] at hu
    cases hu
    exact hn
   ·exact hr.trans _ _ _ (h.all p (q - 1) u _ h1 (by omega) (by omega) hp (by omega) hu hy) hn
 ·exact h.all p q u v h1 h2 (by omega) hp hq hu hv
theorem Srt.join {xs:List α} {a m c:Nat} (h1:Srt r xs a m) (h2:Srt r xs m c) (h:∀ i j x y,a<=i->i<m->m<=j->j<c->xs[i]?=some x->xs[j]?=some y->up r x y):Srt r xs a c:=fun i j x y ha hij hc hx hy=>by
 by_cases hi:i<m
 ·by_cases hj:j<m
  ·exact h1 i j x y ha hij hj hx hy
  ·exact h i j x y ha hi (by omega) hc hx hy
 ·exact h2 i j x y (by omega) hij hc hx hy
theorem Srt.small {xs:List α} {a c:Nat} (h:c<=a+1):Srt r xs a c:=fun i j x y h1 h2 h3=>by omega
theorem Srt.else {xs ys:List α} {a c a' c':Nat} (h:Srt r xs a c) (he:Else xs ys a' c') (hd:c<=a'∨c'<=a):Srt r ys a c:=fun i j x y h1 h2 h3 hx hy=>by
 rw [he i (by omega)] at hx
 rw [he j (by omega)] at hy
 exact h i j x y h1 h2 h3 hx hy
end
end
end Go.Proofs.YtelocmclpfincaaGreatDoor
end
section
namespace Go.Proofs.YtelocmclpfincaaGreatDoor
open Go Go.RowKit
section
section
variable {X:SF} {S:ySM} {α:Type} {g:α->List IV} {e:α->IV} {own0:yLO} {b d:Nat} {out:yLM} {n cp:Nat} {tg:Bool} {gf:FuncId} {caps:List IV} {r:α->α->Int} {Nc:Nat}
theorem x_insS (hr0:Orders r) (hFm:FamOK S X) (hS:NoS S) (hb:b<own0.length) (hE:Elt g e X.sz X.ag) (hc:CmpOK S Nc d out own0 b e gf caps r) (hn:n<65536) (m:Nat) (hm:Nc+n+8<=m) (ownV:yLO) (xs:List α) (J:yLO) (a c:Nat) (hl0:xs.length=n) (hac:a<=c) (hcn:c<=n) :
  ∃ (xs':List α) (J':yLO),(∀ id,callN Ftab S m d out ownV (Bk own0 b (xs.flatMap g)++J) id X.ins [.slM d b 0 n cp X.sz tg,.int .i64 (a:Int),.int .i64 (c:Int),.fn gf [] caps]=some (.x,.tuple [],Bk own0 b (xs'.flatMap g)++J'))/\xs'.Perm xs/\Else xs xs' a c/\Srt r xs' a c:=by
 obtain ⟨m,rfl⟩:∃ q,m=q+1:=⟨m - 1,by omega⟩
 have main:∃ v own',(∀ id,callN Ftab S (m+1) d out ownV (Bk own0 b (xs.flatMap g)++J) id X.ins [.slM d b 0 n cp X.sz tg,.int .i64 (a:Int),.int .i64 (c:Int),.fn gf [] caps]=some (.x,v,own'))/\(v=.tuple []/\∃ (xs':List α) (J':yLO),own'=Bk own0 b (xs'.flatMap g)++J'/\xs'.Perm xs/\Else xs xs' a c/\Srt r xs' a c):=by
  refine zX (i:=cIns X) (hFm.ins.1 _) hFm.ins.2 rfl (lb rfl) fun t hfr=>?_
  simp only [V2,Nat.reduceAdd,cIns] at hfr
  have hw:wrapI .i64 ((a:Int)+1)=((a+1:Nat):Int):=we
  simp only [cIns,V0,sevalprocAttr,hfr,hw]
  refine zb (fun jj st=>∃ (i:Nat) (ys:List α) (J1:yLO),jj=c - i/\a+1<=i/\(ys.Perm xs/\Else xs ys a c/\(i<=c∨c<=a+1)/\Srt r ys a i)/\st.own=Bk own0 b (ys.flatMap g)++J1/\Slots 53 st.t [(0,.slM d b 0 n cp X.sz tg),(1,iv a),(2,iv c),(3,.fn gf [] caps),(8,iv i)]) (c - (a+1)) (by omega) ⟨a+1,xs,J,rfl,by omega,⟨List.Perm.refl _,Else.refl _ _ _,by omega,Srt.small (by omega)⟩,rfl,by simp only [V0,sevalprocAttr,hfr]⟩ ?_
  rintro jj ⟨t,own⟩ KA ⟨i,ys,J1,hjj,hi,⟨hp,hel,hic,hst⟩,ho,hfr⟩ hnA heA hrA
  dsimp only at ho hfr
  subst ho
  simp only [V3] at hfr
  have hly:ys.length=n:=hp.length_eq.trans hl0
  by_cases h:i<c
  ·have hwi:wrapI .i64 ((i:Int)+1)=((i+1:Nat):Int):=we
   simp only [V0,sevalprocAttr,hfr,h]
   refine zb (fun jj st=>∃ (k:Nat) (zs:List α) (J2:yLO),jj=k/\k<=i/\(zs.Perm xs/\Else xs zs a c/\a<=k/\Ins r zs a k i)/\st.own=Bk own0 b (zs.flatMap g)++J2/\Slots 53 st.t [(0,.slM d b 0 n cp X.sz tg),(1,iv a),(2,iv c),(3,.fn gf [] caps),(8,iv i),(9,iv k)]) i (by omega) ⟨i,ys,J1,rfl,by omega,⟨hp,hel,by omega,Ins.start hst⟩,rfl,by simp only [V0,sevalprocAttr,hfr]⟩ ?_
   rintro jj ⟨t,own⟩ KB ⟨k,zs,J2,hjj,hki,⟨hp2,hel2,hak,hIn⟩,ho,hfr⟩ hnB heB hrB
   dsimp only at ho hfr
   subst ho
   simp only [V3] at hfr
   have hlz:zs.length=n:=hp2.length_eq.trans hl0
   by_cases h2:a<k
   ·have hwk:wrapI .i64 ((k:Int) - 1)=((k - 1:Nat):Int):=we
    have hkn:k<n:=by omega
    have hk1:k - 1<n:=by omega
    obtain ⟨x,hx⟩:=gx (l:=zs) (i:=k) (by omega)
    have lx:=hE.ld hx
    obtain ⟨y,hy⟩:=gx (l:=zs) (i:=k - 1) (by omega)
    have ly:=hE.ld hy
    have cc:=fun ownV own id=>hc m (by omega) ownV own id x y
    cases hlt:decide (r x y<0)
    ·simp only [V0,sevalprocAttr,hfr,L1,L2 hb hE,h2,hkn,hk1,hwk,hlz,lx,ly,cc,hlt]
     refine ⟨by simp [comm],?_⟩
     simp only [V0,sevalprocAttr,hfr]
     refine heB _ _ ?_
     simp only [V0,sevalprocAttr,hfr,hwi]
     exact hnA _ (c - (i+1)) (by omega) ⟨i+1,zs,_,rfl,by omega,⟨hp2,hel2,by omega,hIn.done hr0 (by omega) (by omega) (.inr ⟨x,y,hx,hy,of_decide_eq_false hlt⟩) hak⟩,rfl,by simp only [V0,sevalprocAttr,hfr]⟩
    ·simp only [V0,sevalprocAttr,hfr,L1,L2 hb hE,h2,hkn,hk1,hwk,hlz,lx,ly,cc,hlt]
     refine ⟨by simp [comm],?_⟩
     simp only [V0,sevalprocAttr,hfr,L1,L2 hb hE,h2,hkn,hk1,hwk,hlz,lx,ly]
     refine ⟨by simp [comm],?_⟩
     simp only [V0,sevalprocAttr,hfr,hwk]
     exact hnB _ (k - 1) (by omega) ⟨k - 1,_,_,rfl,by omega,⟨(zD hx hy).trans hp2,hel2.trans (zE (by omega) (by omega) (by omega) (by omega)),by omega,hIn.step hr0 h2 (by omega) (by omega) hx hy (of_decide_eq_true hlt)⟩,rfl,by simp only [V0,sevalprocAttr,hfr]⟩
   ·simp only [V0,sevalprocAttr,hfr,h2,gt_iff_lt]
    refine ⟨by simp [comm],?_⟩
    simp only [V0,sevalprocAttr,hfr]
    refine heB _ _ ?_
    simp only [V0,sevalprocAttr,hfr,hwi]
    exact hnA _ (c - (i+1)) (by omega) ⟨i+1,zs,_,rfl,by omega,⟨hp2,hel2,by omega,hIn.done hr0 (by omega) (by omega) (.inl (by omega)) hak⟩,rfl,by simp only [V0,sevalprocAttr,hfr]⟩
  ·simp only [V0,sevalprocAttr,hfr,h]
   refine heA _ _ ?_
   simp only [V0,sevalprocAttr,hfr,zP,Yj]
   refine ⟨_,rfl,rfl,ys,_,rfl,hp,hel,?_⟩
   rcases hic with hic | hic
   ·rw [show c=i by omega]
    exact hst
   ·exact Srt.small hic
 obtain ⟨v,own',h1,rfl,xs',J',rfl,hp⟩:=main
 exact ⟨xs',J',h1,hp⟩
end
end
end Go.Proofs.YtelocmclpfincaaGreatDoor
end
section
namespace Go.Proofs.YtelocmclpfincaaGreatDoor
section
section
variable {α:Type} {r:α->α->Int}
def Heap (r:α->α->Int) (zs:List α) (f hi lo:Nat):Prop:=∀ p ch x y,lo<=p->(ch=2*p+1∨ch=2*p+2)->ch<hi->zs[f+p]?=some x->zs[f+ch]?=some y->up r y x
structure Sift (r:α->α->Int) (zs:List α) (f hi lo q:Nat):Prop where
 all:∀ p ch x y,lo<=p->(ch=2*p+1∨ch=2*p+2)->ch<hi->p≠q->zs[f+p]?=some x->zs[f+ch]?=some y->up r y x
 one:∀ p ch x y,lo<=p->(q=2*p+1∨q=2*p+2)->(ch=2*q+1∨ch=2*q+2)->ch<hi->zs[f+p]?=some x->zs[f+ch]?=some y->up r y x
theorem Sift.start {zs:List α} {f hi lo:Nat} (h:Heap r zs f hi (lo+1)):Sift r zs f hi lo lo :=
 ⟨fun p ch x y h1 h2 h3 h4=>h p ch x y (by omega) h2 h3,fun p ch x y h1 h2=>by omega⟩
theorem Sift.none {zs:List α} {f hi lo q:Nat} (h:Sift r zs f hi lo q) (hq:hi<=2*q+1):Heap r zs f hi lo:=fun p ch x y h1 h2 h3 hx hy=>by
 by_cases hp:p=q
 ·omega
 ·exact h.all p ch x y h1 h2 h3 hp hx hy
theorem Sift.stop {zs:List α} {f hi lo q:Nat} {u w:α} (hr:Orders r) (h:Sift r zs f hi lo q) (hu:zs[f+q]?=some u) (hbig:∀ ch y,(ch=2*q+1∨ch=2*q+2)->ch<hi->zs[f+ch]?=some y->up r y w) (hn:¬ r u w<0):Heap r zs f hi lo:=fun p ch x y h1 h2 h3 hx hy=>by
 by_cases hp:p=q
 ·subst hp
  rw [hu] at hx
  cases hx
  exact hr.trans y w _ (hbig ch y h2 h3 hy) hn
 ·exact h.all p ch x y h1 h2 h3 hp hx hy
theorem Sift.step {zs:List α} {f hi lo q c:Nat} {u w:α} (hr:Orders r) (h:Sift r zs f hi lo q) (hq:lo<=q) (hc:c=2*q+1∨c=2*q+2) (hch:c<hi) (hl:f+hi<=zs.length) (hw:zs[f+c]?=some w) (hbig:∀ ch y,(ch=2*q+1∨ch=2*q+2)->ch<hi->zs[f+ch]?=some y->up r y w) (hlt:r u w<0):Sift r ((zs.set (f+q) w).set (f+c) u) f hi lo c:=by
 have huw:up r u w:=(hr.total u w).resolve_right fun h=>h hlt
 constructor
 ·intro p ch x y h1 h2 h3 h4 hx hy
  rw [zK (by omega) (by omega)] at hx hy
  rw [if_neg (by omega)] at hx
  by_cases hp:p=q
  ·subst hp
   rw [if_pos rfl] at hx
   cases hx
   by_cases hcc:ch=c
   ·rw [if_pos (by omega)] at hy
    cases hy
    exact huw
   ·rw [if_neg (by omega),if_neg (by omega)] at hy
    exact hbig ch y h2 h3 hy
  ·rw [if_neg (by omega)] at hx
   rw [if_neg (by omega)] at hy
   by_cases hcq:ch=q
   ·rw [if_pos (by omega)] at hy
    cases hy
    exact h.one p c x _ h1 (by omega) hc hch hx hw
   ·rw [if_neg (by omega)] at hy
    exact h.all p ch x y h1 h2 h3 hp hx hy
 ·intro p ch x y h1 h2 h3 h4 hx hy
  have hpq:p=q:=by omega
  subst hpq
  rw [zK (by omega) (by omega)] at hx hy
  rw [if_neg (by omega),if_pos rfl] at hx
  cases hx
  rw [if_neg (by omega),if_neg (by omega)] at hy
  exact h.all c ch _ y (by omega) h3 h4 (by omega) hw hy
theorem big_one {zs:List α} {f hi q:Nat} {w:α} (hr:Orders r) (hw:zs[f+(2*q+1)]?=some w) (h:¬ 2*q+1+1<hi):∀ ch y,(ch=2*q+1∨ch=2*q+2)->ch<hi->zs[f+ch]?=some y->up r y w:=fun ch y h1 h2 hy=>by
 rcases h1 with rfl | rfl
 ·rw [hw] at hy
  cases hy
  exact (hr.total _ _).elim id id
 ·omega
theorem big_fst {zs:List α} {f hi q:Nat} {x y w:α} (hr:Orders r) (hx:zs[f+(2*q+1)]?=some x) (hy:zs[f+(2*q+1)+1]?=some y) (hw:zs[f+(2*q+1)]?=some w) (hn:¬ r x y<0):∀ ch z,(ch=2*q+1∨ch=2*q+2)->ch<hi->zs[f+ch]?=some z->up r z w:=fun ch z h1 h2 hz=>by
 rw [hx] at hw
 cases hw
 rcases h1 with rfl | rfl
 ·rw [hx] at hz
  cases hz
  exact (hr.total _ _).elim id id
 ·rw [show f+(2*q+2)=f+(2*q+1)+1 by omega,hy] at hz
  cases hz
  exact hn
theorem big_snd {zs:List α} {f hi q:Nat} {x y w:α} (hr:Orders r) (hx:zs[f+(2*q+1)]?=some x) (hy:zs[f+(2*q+1)+1]?=some y) (hw:zs[f+(2*q+1+1)]?=some w) (hn:r x y<0):∀ ch z,(ch=2*q+1∨ch=2*q+2)->ch<hi->zs[f+ch]?=some z->up r z w:=fun ch z h1 h2 hz=>by
 rw [show f+(2*q+1+1)=f+(2*q+1)+1 by omega,hy] at hw
 cases hw
 rcases h1 with rfl | rfl
 ·rw [hx] at hz
  cases hz
  exact (hr.total _ _).resolve_right fun h=>h hn
 ·rw [show f+(2*q+2)=f+(2*q+1)+1 by omega,hy] at hz
  cases hz
  exact (hr.total _ _).elim id id
end
end
end Go.Proofs.YtelocmclpfincaaGreatDoor
end
section
namespace Go.Proofs.YtelocmclpfincaaGreatDoor
open Go Go.RowKit
section
section
variable {X:SF} {S:ySM} {α:Type} {g:α->List IV} {e:α->IV} {own0:yLO} {b d:Nat} {out:yLM} {n cp:Nat} {tg:Bool} {gf:FuncId} {caps:List IV} {r:α->α->Int} {Nc:Nat}
theorem x_siftS (hr0:Orders r) (hFm:FamOK S X) (hS:NoS S) (hb:b<own0.length) (hE:Elt g e X.sz X.ag) (hc:CmpOK S Nc d out own0 b e gf caps r) (hn:n<65536) (m:Nat) (hm:Nc+n+8<=m) (ownV:yLO) (xs:List α) (J:yLO) (zl:Int) (lo hi f:Nat) (hl0:xs.length=n) (hzl:zl=(lo:Int)) (hlo:lo<=n) (hhi:f+hi<=n) (hhp:Heap r xs f hi (lo+1)) :
  ∃ (xs':List α) (J':yLO),(∀ id,callN Ftab S m d out ownV (Bk own0 b (xs.flatMap g)++J) id X.sift [.slM d b 0 n cp X.sz tg,.int .i64 zl,.int .i64 (hi:Int),.int .i64 (f:Int),.fn gf [] caps]=some (.x,.tuple [],Bk own0 b (xs'.flatMap g)++J'))/\xs'.Perm xs/\Else xs xs' f (f+hi)/\Heap r xs' f hi lo:=by
 obtain ⟨m,rfl⟩:∃ q,m=q+1:=⟨m - 1,by omega⟩
 have main:∃ v own',(∀ id,callN Ftab S (m+1) d out ownV (Bk own0 b (xs.flatMap g)++J) id X.sift [.slM d b 0 n cp X.sz tg,.int .i64 zl,.int .i64 (hi:Int),.int .i64 (f:Int),.fn gf [] caps]=some (.x,v,own'))/\(v=.tuple []/\∃ (xs':List α) (J':yLO),own'=Bk own0 b (xs'.flatMap g)++J'/\xs'.Perm xs/\Else xs xs' f (f+hi)/\Heap r xs' f hi lo):=by
  refine zX (i:=cSift X) (hFm.sift.1 _) hFm.sift.2 rfl (lb rfl) fun t hfr=>?_
  simp only [V2,Nat.reduceAdd,cSift] at hfr
  subst hzl
  simp only [cSift,V0,sevalprocAttr,hfr]
  refine zb (fun jj st=>∃ (q:Nat) (zs:List α) (J2:yLO),jj=hi - q/\q<=n/\(zs.Perm xs/\Else xs zs f (f+hi)/\lo<=q/\Sift r zs f hi lo q)/\st.own=Bk own0 b (zs.flatMap g)++J2/\Slots 82 st.t [(0,.slM d b 0 n cp X.sz tg),(1,iv lo),(2,iv hi),(3,iv f),(4,.fn gf [] caps),(10,iv q)]) (hi - lo) (by omega) ⟨lo,xs,J,rfl,hlo,⟨List.Perm.refl _,Else.refl _ _ _,zcs _,Sift.start hhp⟩,rfl,by simp only [V0,sevalprocAttr,hfr]⟩ ?_
  rintro jj ⟨t,own⟩ KA ⟨q,zs,J2,hjj,hq,⟨hp,hel,hlq,hsi⟩,ho,hfr⟩ hnA heA hrA
  dsimp only at ho hfr
  subst ho
  simp only [V3] at hfr
  have hlz:zs.length=n:=hp.length_eq.trans hl0
  have hm2:wrapI .i64 (2*(q:Int))=((2*q:Nat):Int):=we
  have hm3:wrapI .i64 (((2*q:Nat):Int)+1)=((2*q+1:Nat):Int):=we
  have hm4:wrapI .i64 (((2*q+1:Nat):Int)+1)=((2*q+1+1:Nat):Int):=we
  by_cases h:hi<=2*q+1
  ·simp only [V0,sevalprocAttr,hfr,L1,L2 hb hE,hm2,hm3,h]
   refine heA _ _ ?_
   simp only [V0,sevalprocAttr,hfr,zP,zr,Yj]
   exact ⟨_,rfl,rfl,zs,_,rfl,hp,hel,hsi.none h⟩
  ·have hi1:wrapI .i64 ((f:Int)+((2*q+1:Nat):Int))=((f+(2*q+1):Nat):Int):=we
   have hi2:wrapI .i64 (((f+(2*q+1):Nat):Int)+1)=((f+(2*q+1)+1:Nat):Int):=we
   have hi3:wrapI .i64 ((f:Int)+(q:Int))=((f+q:Nat):Int):=we
   have hi4:wrapI .i64 ((f:Int)+((2*q+1+1:Nat):Int))=((f+(2*q+1+1):Nat):Int):=we
   have b1:f+(2*q+1)<n:=by omega
   have b3:f+q<n:=by omega
   by_cases h2:2*q+1+1<hi
   ·have b2:f+(2*q+1)+1<n:=by omega
    have b4:f+(2*q+1+1)<n:=by omega
    obtain ⟨x,hx⟩:=gx (l:=zs) (i:=f+(2*q+1)) (by omega)
    have lx:=hE.ld hx
    obtain ⟨y,hy⟩:=gx (l:=zs) (i:=f+(2*q+1)+1) (by omega)
    have ly:=hE.ld hy
    have cc:=fun ownV own id=>hc m (by omega) ownV own id x y
    cases hlt:decide (r x y<0)
    ·simp only [V0,sevalprocAttr,hfr,L1,L2 hb hE,hm2,hm3,hm4,h,hi1,hi2,b1,b2,h2,hlz,lx,ly,cc,hlt]
     refine ⟨by simp [comm],?_⟩
     simp only [V0,sevalprocAttr,hfr,L1,L2 hb hE,hi1,hi3]
     obtain ⟨u,hu⟩:=gx (l:=zs) (i:=f+q) (by omega)
     have lu:=hE.ld hu
     obtain ⟨w,hw⟩:=gx (l:=zs) (i:=f+(2*q+1)) (by omega)
     have lw:=hE.ld hw
     have cd:=fun ownV own id=>hc m (by omega) ownV own id u w
     cases hlt2:decide (r u w<0)
     ·simp only [V0,sevalprocAttr,hfr,L1,L2 hb hE,hi1,hi3,b1,b3,hlz,lu,lw,cd,hlt2]
      refine ⟨by simp [comm],?_⟩
      simp only [V0,sevalprocAttr,hfr]
      refine hrA _ ?_
      simp only [V0,sevalprocAttr,hfr,zP,zr,Yj]
      exact ⟨_,rfl,rfl,zs,_,rfl,hp,hel,hsi.stop hr0 hu (big_fst hr0 hx hy hw (of_decide_eq_false hlt)) (of_decide_eq_false hlt2)⟩
     ·simp only [V0,sevalprocAttr,hfr,L1,L2 hb hE,hi1,hi3,b1,b3,hlz,lu,lw,cd,hlt2]
      refine ⟨by simp [comm],?_⟩
      simp only [V0,sevalprocAttr,hfr,L1,L2 hb hE,hi1,hi3,b1,b3,hlz,lu,lw]
      refine ⟨by simp [comm],?_⟩
      simp only [V0,sevalprocAttr,hfr]
      exact hnA _ (hi - (2*q+1)) (by omega) ⟨2*q+1,_,_,rfl,by omega,⟨(zD hu hw).trans hp,hel.trans (zE (by omega) (by omega) (by omega) (by omega)),by omega,hsi.step hr0 hlq (by omega) (by omega) (by omega) hw (big_fst hr0 hx hy hw (of_decide_eq_false hlt)) (of_decide_eq_true hlt2)⟩,rfl,by simp only [V0,sevalprocAttr,hfr]⟩
    ·simp only [V0,sevalprocAttr,hfr,L1,L2 hb hE,hm2,hm3,hm4,h,hi1,hi2,b1,b2,h2,hlz,lx,ly,cc,hlt]
     refine ⟨by simp [comm],?_⟩
     simp only [V0,sevalprocAttr,hfr,L1,L2 hb hE,hm4,hi4,hi3]
     obtain ⟨u,hu⟩:=gx (l:=zs) (i:=f+q) (by omega)
     have lu:=hE.ld hu
     obtain ⟨w,hw⟩:=gx (l:=zs) (i:=f+(2*q+1+1)) (by omega)
     have lw:=hE.ld hw
     have cd:=fun ownV own id=>hc m (by omega) ownV own id u w
     cases hlt2:decide (r u w<0)
     ·simp only [V0,sevalprocAttr,hfr,L1,L2 hb hE,hi4,hi3,b4,b3,hlz,lu,lw,cd,hlt2]
      refine ⟨by simp [comm],?_⟩
      simp only [V0,sevalprocAttr,hfr]
      refine hrA _ ?_
      simp only [V0,sevalprocAttr,hfr,zP,zr,Yj]
      exact ⟨_,rfl,rfl,zs,_,rfl,hp,hel,hsi.stop hr0 hu (big_snd hr0 hx hy hw (of_decide_eq_true hlt)) (of_decide_eq_false hlt2)⟩
     ·simp only [V0,sevalprocAttr,hfr,L1,L2 hb hE,hi4,hi3,b4,b3,hlz,lu,lw,cd,hlt2]
      refine ⟨by simp [comm],?_⟩
      simp only [V0,sevalprocAttr,hfr,L1,L2 hb hE,hi4,hi3,b4,b3,hlz,lu,lw]
      refine ⟨by simp [comm],?_⟩
      simp only [V0,sevalprocAttr,hfr]
      exact hnA _ (hi - (2*q+1+1)) (by omega) ⟨2*q+1+1,_,_,rfl,by omega,⟨(zD hu hw).trans hp,hel.trans (zE (by omega) (by omega) (by omega) (by omega)),by omega,hsi.step hr0 hlq (by omega) (by omega) (by omega) hw (big_snd hr0 hx hy hw (of_decide_eq_true hlt)) (of_decide_eq_true hlt2)⟩,rfl,by simp only [V0,sevalprocAttr,hfr]⟩
   ·simp only [V0,sevalprocAttr,hfr,L1,L2 hb hE,hm2,hm3,hm4,h,h2]
    refine ⟨by simp [comm],?_⟩
    simp only [V0,sevalprocAttr,hfr,L1,L2 hb hE,hi1,hi3]
    obtain ⟨u,hu⟩:=gx (l:=zs) (i:=f+q) (by omega)
    have lu:=hE.ld hu
    obtain ⟨w,hw⟩:=gx (l:=zs) (i:=f+(2*q+1)) (by omega)
    have lw:=hE.ld hw
    have cd:=fun ownV own id=>hc m (by omega) ownV own id u w
    cases hlt2:decide (r u w<0)
    ·simp only [V0,sevalprocAttr,hfr,L1,L2 hb hE,hi1,hi3,b1,b3,hlz,lu,lw,cd,hlt2]
     refine ⟨by simp [comm],?_⟩
     simp only [V0,sevalprocAttr,hfr]
     refine hrA _ ?_
     simp only [V0,sevalprocAttr,hfr,zP,zr,Yj]
     exact ⟨_,rfl,rfl,zs,_,rfl,hp,hel,hsi.stop hr0 hu (big_one hr0 hw h2) (of_decide_eq_false hlt2)⟩
    ·simp only [V0,sevalprocAttr,hfr,L1,L2 hb hE,hi1,hi3,b1,b3,hlz,lu,lw,cd,hlt2]
     refine ⟨by simp [comm],?_⟩
     simp only [V0,sevalprocAttr,hfr,L1,L2 hb hE,hi1,hi3,b1,b3,hlz,lu,lw]
     refine ⟨by simp [comm],?_⟩
     simp only [V0,sevalprocAttr,hfr]
     exact hnA _ (hi - (2*q+1)) (by omega) ⟨2*q+1,_,_,rfl,by omega,⟨(zD hu hw).trans hp,hel.trans (zE (by omega) (by omega) (by omega) (by omega)),by omega,hsi.step hr0 hlq (by omega) (by omega) (by omega) hw (big_one hr0 hw h2) (of_decide_eq_true hlt2)⟩,rfl,by simp only [V0,sevalprocAttr,hfr]⟩
 obtain ⟨v,own',h1,rfl,xs',J',rfl,hp⟩:=main
 exact ⟨xs',J',h1,hp⟩
end
end
end Go.Proofs.YtelocmclpfincaaGreatDoor
end
section
namespace Go.Proofs.YtelocmclpfincaaGreatDoor
section
section
variable {α:Type} {r:α->α->Int}
theorem cut3 (l:List α) {a c:Nat} (h:a<=c):l=l.take a++((l.drop a).take (c - a)++l.drop c):=by
 have e:l.drop c=(l.drop a).drop (c - a):=by rw [List.drop_drop]; congr 1; omega
 rw [e,List.take_append_drop,List.take_append_drop]
theorem Else.part {xs ys:List α} {a c:Nat} (h:Else xs ys a c) (hp:ys.Perm xs) (hac:a<=c):((ys.drop a).take (c - a)).Perm ((xs.drop a).take (c - a)):=by
 have h1:ys.take a=xs.take a:=List.ext_getElem? fun i=>by
  rw [zdt,zdt]
  split
  ·exact h i (.inl ‹_›)
  ·rfl
 have h2:ys.drop c=xs.drop c:=List.ext_getElem? fun i=>by
  rw [List.getElem?_drop,List.getElem?_drop]
  exact h _ (.inr (by omega))
 rw [cut3 ys hac,cut3 xs hac,h1,h2] at hp
 exact (List.perm_append_right_iff _).1 ((List.perm_append_left_iff _).1 hp)
theorem Else.from {xs ys:List α} {a c p:Nat} {x:α} (h:Else xs ys a c) (hp:ys.Perm xs) (h1:a<=p) (h2:p<c) (hx:ys[p]?=some x):∃ q,a<=q/\q<c/\xs[q]?=some x:=by
 have hm:x∈(ys.drop a).take (c - a):=by
  refine zdq (i:=p - a) ?_
  rw [zdt,if_pos (by omega),List.getElem?_drop,show a+(p - a)=p by omega]
  exact hx
 obtain ⟨i,hi⟩:=List.getElem?_of_mem ((h.part hp (by omega)).mem_iff.1 hm)
 rw [zdt] at hi
 split at hi
 ·rw [List.getElem?_drop] at hi
  exact ⟨a+i,by omega,by omega,hi⟩
 ·cases hi
theorem Heap.max {zs:List α} {f hi:Nat} (hr:Orders r) (h:Heap r zs f hi 0) (hl:f+hi<=zs.length):∀ (p:Nat) (x y:α),p<hi->zs[f]?=some x->zs[f+p]?=some y->up r y x
 | 0,x,y,hp,hx,hy=>by
  rw [Nat.add_zero,hx] at hy
  cases hy
  exact (hr.total _ _).elim id id
 | p+1,x,y,hp,hx,hy=>by
  have hq:p / 2<p+1:=by omega
  have hz:zs[f+p / 2]?=some zs[f+p / 2]:=zce (by omega)
  generalize zs[f+p / 2]=z at hz
  exact hr.trans y z x (h (p / 2) (p+1) z y (Nat.zero_le _) (by omega) hp hz hy) (Heap.max hr h hl (p / 2) x z (by omega) hx hz)
structure Popd (r:α->α->Int) (ys:List α) (a c i:Nat):Prop where
 heap:Heap r ys a i 0
 srt:Srt r ys (a+i) c
 cross:∀ p q x y,a<=p->p<a+i->a+i<=q->q<c->ys[p]?=some x->ys[q]?=some y->up r x y
theorem Popd.start {ys:List α} {a c:Nat} (h:Heap r ys a (c - a) 0) (hac:a<=c):Popd r ys a c (c - a) :=
 ⟨h,fun i j x y h1 h2 h3=>by omega,fun p q x y h1 h2 h3 h4=>by omega⟩
theorem Popd.swap {ys:List α} {a c k:Nat} {x y:α} (h:Popd r ys a c (k+1)) (hk:a+k<ys.length):Heap r ((ys.set a y).set (a+k) x) a k (0+1):=fun p ch u v h1 h2 h3 hu hv=>by
 rw [zK (by omega) (by omega),if_neg (by omega),if_neg (by omega)] at hu hv
 exact h.heap p ch u v (Nat.zero_le _) h2 (by omega) hu hv
theorem Popd.next {ys zs:List α} {a c k:Nat} {x y:α} (hr:Orders r) (h:Popd r ys a c (k+1)) (hk:a+(k+1)<=ys.length) (hkc:a+k<c) (hx:ys[a]?=some x) (hy:ys[a+k]?=some y) (he:Else ((ys.set a y).set (a+k) x) zs a (a+k)) (hp:zs.Perm ((ys.set a y).set (a+k) x)) (hh:Heap r zs a k 0):Popd r zs a c k:=by
 have hat:∀ j,a+k<=j->zs[j]?=if j=a+k then some x else ys[j]?:=fun j hj=>by
  rw [he j (.inr hj),zK (by omega) (by omega)]
  by_cases h1:j=a+k
  ·rw [if_pos h1,if_pos h1]
  ·rw [if_neg h1,if_neg h1,if_neg (by omega)]
 have hin:∀ p u,a<=p->p<a+k->zs[p]?=some u->up r u x/\∀ q v,a+k<q->q<c->ys[q]?=some v->up r u v:=fun p u h1 h2 hu=>by
  obtain ⟨q,g1,g2,g3⟩:=he.from hp h1 h2 hu
  rw [zK (by omega) (by omega),if_neg (by omega)] at g3
  by_cases hq:q=a
  ·rw [if_pos hq] at g3
   cases g3
   exact ⟨h.heap.max hr hk k x _ (by omega) hx hy,fun q v h3 h4 hv=>h.cross (a+k) q _ v (by omega) (by omega) (by omega) h4 hy hv⟩
  ·rw [if_neg hq] at g3
   refine ⟨h.heap.max hr hk (q - a) x u (by omega) hx (by rw [show a+(q - a)=q by omega]; exact g3),fun q' v h3 h4 hv=>h.cross q q' u v g1 (by omega) (by omega) h4 g3 hv⟩
 refine ⟨hh,fun i j u v h1 h2 h3 hu hv=>?_,fun p q u v h1 h2 h3 h4 hu hv=>?_⟩
 ·rw [hat i h1] at hu
  rw [hat j (by omega),if_neg (by omega)] at hv
  by_cases hi:i=a+k
  ·rw [if_pos hi] at hu
   cases hu
   exact h.cross a j _ v (zcs _) (by omega) (by omega) h3 hx hv
  ·rw [if_neg hi] at hu
   exact h.srt i j u v (by omega) h2 h3 hu hv
 ·rw [hat q h3] at hv
  by_cases hq:q=a+k
  ·rw [if_pos hq] at hv
   cases hv
   exact (hin p u h1 h2 hu).1
  ·rw [if_neg hq] at hv
   exact (hin p u h1 h2 hu).2 q v (by omega) h4 hv
end
end
end Go.Proofs.YtelocmclpfincaaGreatDoor
end
section
namespace Go.Proofs.YtelocmclpfincaaGreatDoor
open Go Go.RowKit
section
section
variable {X:SF} {S:ySM} {α:Type} {g:α->List IV} {e:α->IV} {own0:yLO} {b d:Nat} {out:yLM} {n cp:Nat} {tg:Bool} {gf:FuncId} {caps:List IV} {r:α->α->Int} {Nc:Nat}
theorem x_heapS (hr0:Orders r) (hFm:FamOK S X) (hS:NoS S) (hb:b<own0.length) (hE:Elt g e X.sz X.ag) (hc:CmpOK S Nc d out own0 b e gf caps r) (hn:n<65536) (m:Nat) (hm:Nc+n+12<=m) (ownV:yLO) (xs:List α) (J:yLO) (a c:Nat) (hl0:xs.length=n) (hac:a<c) (hcn:c<=n) :
  ∃ (xs':List α) (J':yLO),(∀ id,callN Ftab S m d out ownV (Bk own0 b (xs.flatMap g)++J) id X.heap [.slM d b 0 n cp X.sz tg,.int .i64 (a:Int),.int .i64 (c:Int),.fn gf [] caps]=some (.x,.tuple [],Bk own0 b (xs'.flatMap g)++J'))/\xs'.Perm xs/\Else xs xs' a c/\Srt r xs' a c:=by
 obtain ⟨m,rfl⟩:∃ q,m=q+1:=⟨m - 1,by omega⟩
 have main:∃ v own',(∀ id,callN Ftab S (m+1) d out ownV (Bk own0 b (xs.flatMap g)++J) id X.heap [.slM d b 0 n cp X.sz tg,.int .i64 (a:Int),.int .i64 (c:Int),.fn gf [] caps]=some (.x,v,own'))/\(v=.tuple []/\∃ (xs':List α) (J':yLO),own'=Bk own0 b (xs'.flatMap g)++J'/\xs'.Perm xs/\Else xs xs' a c/\Srt r xs' a c):=by
  refine zX (i:=cHeap X) (hFm.heap.1 _) hFm.heap.2 rfl (lb rfl) fun t hfr=>?_
  simp only [V2,Nat.reduceAdd,cHeap] at hfr
  have e1:wrapI .i64 ((c:Int) - (a:Int))=((c - a:Nat):Int):=we
  have e2:wrapI .i64 (((c - a:Nat):Int) - 1)=((c - a - 1:Nat):Int):=we
  have e3:wrapI .i64 (Int.tdiv ((c - a - 1:Nat):Int) 2)=(((c - a - 1) / 2:Nat):Int):=YH _ 2 (by omega)
  have e0:((2:Int)=0)=False:=eq_false (by decide)
  simp only [cHeap,V0,sevalprocAttr,hfr,e1,e2,e3,e0]
  refine zb (fun jj st=>∃ (i:Nat) (z:Int) (ys:List α) (J1:yLO),jj=i/\z=(i:Int) - 1/\i<=(c - a - 1) / 2+1/\(ys.Perm xs/\Else xs ys a c/\Heap r ys a (c - a) i)/\st.own=Bk own0 b (ys.flatMap g)++J1/\Slots 60 st.t [(0,.slM d b 0 n cp X.sz tg),(1,iv a),(2,iv c),(3,.fn gf [] caps),(8,iv a),(9,.int .i64 0),(10,iv (c - a:Nat)),(11,iv z)]) ((c - a - 1) / 2+1) (by omega) ⟨(c - a - 1) / 2+1,_,xs,J,rfl,(by omega:(((c - a - 1) / 2:Nat):Int)=(((c - a - 1) / 2+1:Nat):Int) - 1),by omega,⟨List.Perm.refl _,Else.refl _ _ _,fun p ch x y h1 h2 h3=>by omega⟩,rfl,by simp only [V0,sevalprocAttr,hfr]⟩ ?_
  rintro jj ⟨t,own⟩ KA ⟨i,z,ys,J1,hjj,hz,hi,⟨hp,hel,hhp⟩,ho,hfr⟩ hnA heA hrA
  dsimp only at ho hfr
  subst ho
  simp only [V3] at hfr
  have hly:ys.length=n:=hp.length_eq.trans hl0
  by_cases h:0<=z
  ·obtain ⟨k,rfl⟩:∃ k:Nat,z=(k:Int):=⟨z.toNat,by omega⟩
   have hw:wrapI .i64 ((k:Int) - 1)=(k:Int) - 1:=wrap_eqi rfl (by omega) (by omega)
   obtain rfl:i=k+1:=by omega
   obtain ⟨ys',J1',hs,hp',hel',hhp'⟩:=x_siftS hr0 (cp:=cp) (tg:=tg) (d:=d) (out:=out) hFm hS hb hE hc hn m (by omega) (Bk own0 b (ys.flatMap g)++(J1++[.free])) ys (J1++[.free]) (k:Int) k (c - a) a hly rfl (by omega) (by omega) hhp
   simp only [V0,sevalprocAttr,hfr,L1,L2 hb hE,h,hs,hw]
   exact hnA _ k (by omega) ⟨k,_,ys',_,rfl,rfl,by omega,⟨hp'.trans hp,hel.trans (hel'.wide (zcs _) (by omega)),hhp'⟩,rfl,by simp only [V0,sevalprocAttr,hfr]⟩
  ·simp only [V0,sevalprocAttr,hfr,L1,L2 hb hE,h]
   refine heA _ _ ?_
   simp only [V0,sevalprocAttr,hfr,e2]
   have hi0:i=0:=by omega
   subst hi0
   refine zb (fun jj st=>∃ (i:Nat) (z:Int) (ys:List α) (J1:yLO),jj=i/\z=(i:Int) - 1/\i<=c - a/\(ys.Perm xs/\Else xs ys a c/\Popd r ys a c i)/\st.own=Bk own0 b (ys.flatMap g)++J1/\Slots 60 st.t [(0,.slM d b 0 n cp X.sz tg),(1,iv a),(2,iv c),(3,.fn gf [] caps),(8,iv a),(9,.int .i64 0),(10,iv (c - a:Nat)),(12,iv z)]) (c - a) (by omega) ⟨c - a,_,ys,J1,rfl,(by omega:((c - a - 1:Nat):Int)=((c - a:Nat):Int) - 1),by omega,⟨hp,hel,Popd.start hhp (by omega)⟩,rfl,by simp only [V0,sevalprocAttr,hfr]⟩ ?_
   clear hly hp hel hhp
   rintro jj ⟨t,own⟩ KB ⟨i,z,ys,J1,hjj,hz,hi,⟨hp,hel,hpo⟩,ho,hfr⟩ hnB heB hrB
   dsimp only at ho hfr
   subst ho
   simp only [V3] at hfr
   have hly:ys.length=n:=hp.length_eq.trans hl0
   by_cases h:0<=z
   ·obtain ⟨k,rfl⟩:∃ k:Nat,z=(k:Int):=⟨z.toNat,by omega⟩
    have hw:wrapI .i64 ((k:Int) - 1)=(k:Int) - 1:=wrap_eqi rfl (by omega) (by omega)
    have hw2:wrapI .i64 ((a:Int)+(k:Int))=((a+k:Nat):Int):=we
    have b1:a<n:=by omega
    have b2:a+k<n:=by omega
    obtain ⟨x,hx⟩:=gx (l:=ys) (i:=a) (by omega)
    have lx:=hE.ld hx
    obtain ⟨y,hy⟩:=gx (l:=ys) (i:=a+k) (by omega)
    have ly:=hE.ld hy
    obtain rfl:i=k+1:=by omega
    obtain ⟨ys',J1',hs,hp',hel',hhp'⟩:=x_siftS hr0 (cp:=cp) (tg:=tg) (d:=d) (out:=out) hFm hS hb hE hc hn m (by omega) (Bk own0 b (((ys.set a y).set (a+k) x).flatMap g)++(J1++[.free])) ((ys.set a y).set (a+k) x) (J1++[.free]) 0 0 k a (by simp [hly]) rfl (by omega) (by omega) (hpo.swap (by omega))
    simp only [V0,sevalprocAttr,hfr,L1,L2 hb hE,h,hw2,b1,b2,hly,lx,ly]
    refine ⟨by simp [comm],?_⟩
    simp only [V0,sevalprocAttr,hfr,L1,L2 hb hE,hs,hw]
    exact hnB _ k (by omega) ⟨k,_,ys',_,rfl,rfl,by omega,⟨(hp'.trans (zD hx hy)).trans hp,hel.trans ((zE (by omega) (by omega) (by omega) (by omega)).trans (hel'.wide (zcs _) (by omega))),hpo.next hr0 (by omega) (by omega) hx hy hel' hp' hhp'⟩,rfl,by simp only [V0,sevalprocAttr,hfr]⟩
   ·simp only [V0,sevalprocAttr,hfr,L1,L2 hb hE,h]
    refine heB _ _ ?_
    simp only [V0,sevalprocAttr,hfr,zP,zr,Yj]
    obtain rfl:i=0:=by omega
    exact ⟨_,rfl,rfl,ys,_,rfl,hp,hel,hpo.srt⟩
 obtain ⟨v,own',h1,rfl,xs',J',rfl,hp⟩:=main
 exact ⟨xs',J',h1,hp⟩
end
end
end Go.Proofs.YtelocmclpfincaaGreatDoor
end
section
namespace Go.Proofs.YtelocmclpfincaaGreatDoor
section
section
variable {α:Type} {r:α->α->Int}
structure PE (r:α->α->Int) (zs:List α) (a c i j:Nat) (x:α):Prop where
 piv:zs[a]?=some x
 left:∀ k y,a<k->k<i->zs[k]?=some y->¬ r x y<0
 right:∀ k y,j<k->k<c->zs[k]?=some y->r x y<0
theorem PE.start {xs:List α} {a c p:Nat} {x y:α} (ha:a<xs.length) (hp:p<xs.length) (hx:xs[a]?=some x) (hy:xs[p]?=some y):PE r ((xs.set a y).set p x) a c (a+1) (c - 1) y:=by
 refine ⟨?_,fun k y h1 h2=>by omega,fun k y h1 h2=>by omega⟩
 rw [zK ha hp]
 by_cases h:a=p
 ·subst h
  rw [if_pos rfl,← hx,hy]
 ·rw [if_neg h,if_pos rfl]
theorem PE.up {zs:List α} {a c i j:Nat} {x y:α} (h:PE r zs a c i j x) (hy:zs[i]?=some y) (hn:¬ r x y<0):PE r zs a c (i+1) j x :=
 ⟨h.piv,fun k z h1 h2 hz=>by
  by_cases hk:k=i
  ·subst hk
   rw [hy] at hz
   cases hz
   exact hn
  ·exact h.left k z h1 (by omega) hz,h.right⟩
theorem PE.down {zs:List α} {a c i j:Nat} {x y:α} (h:PE r zs a c i j x) (hy:zs[j]?=some y) (hn:r x y<0):PE r zs a c i (j - 1) x :=
 ⟨h.piv,h.left,fun k z h1 h2 hz=>by
  by_cases hk:k=j
  ·subst hk
   rw [hy] at hz
   cases hz
   exact hn
  ·exact h.right k z (by omega) h2 hz⟩
theorem PE.swap {zs:List α} {a c i j:Nat} {x u v:α} (h:PE r zs a c i j x) (ha:a<i) (hij:i<=j) (hi:i<zs.length) (hj:j<zs.length) (hu:zs[i]?=some u) (hv:zs[j]?=some v) (h1:r x u<0) (h2:¬ r x v<0):PE r ((zs.set i v).set j u) a c (i+1) (j - 1) x:=by
 refine ⟨?_,fun k z g1 g2 hz=>?_,fun k z g1 g2 hz=>?_⟩
 ·rw [zK hi hj,if_neg (by omega),if_neg (by omega)]
  exact h.piv
 ·rw [zK hi hj] at hz
  by_cases hk:k=j
  ·have:i=j:=by omega
   subst this
   rw [hu] at hv
   cases hv
   exact absurd h1 h2
  ·rw [if_neg hk] at hz
   by_cases hk2:k=i
   ·rw [if_pos hk2] at hz
    cases hz
    exact h2
   ·rw [if_neg hk2] at hz
    exact h.left k z g1 (by omega) hz
 ·rw [zK hi hj] at hz
  by_cases hk:k=j
  ·rw [if_pos hk] at hz
   cases hz
   exact h1
  ·rw [if_neg hk] at hz
   by_cases hk2:k=i
   ·omega
   ·rw [if_neg hk2] at hz
    exact h.right k z (by omega) g2 hz
structure DivE (r:α->α->Int) (zs:List α) (a c q:Nat) (x:α):Prop where
 left:∀ k y,a<=k->k<q->zs[k]?=some y->¬ r x y<0
 right:∀ k y,q<=k->k<c->zs[k]?=some y->r x y<0
theorem PE.done {zs:List α} {a c i j:Nat} {x:α} (hr:Orders r) (h:PE r zs a c i j x) (hij:j<i):DivE r zs a c i x :=
 ⟨fun k y h1 h2 hy=>by
  by_cases hk:k=a
  ·subst hk
   rw [h.piv] at hy
   cases hy
   exact (hr.total _ _).elim id id
  ·exact h.left k y (by omega) h2 hy,fun k y h1 h2 hy=>h.right k y (by omega) h2 hy⟩
end
end
section
section
variable {α:Type} {r:α->α->Int}
structure PF (r:α->α->Int) (zs:List α) (a c i j:Nat) (x:α):Prop where
 piv:zs[a]?=some x
 left:∀ k y,a<k->k<i->zs[k]?=some y->r y x<0
 right:∀ k y,j<k->k<c->zs[k]?=some y->¬ r y x<0
theorem PF.start {xs:List α} {a c p:Nat} {x y:α} (ha:a<xs.length) (hp:p<xs.length) (hx:xs[a]?=some x) (hy:xs[p]?=some y):PF r ((xs.set a y).set p x) a c (a+1) (c - 1) y:=by
 refine ⟨?_,fun k y h1 h2=>by omega,fun k y h1 h2=>by omega⟩
 rw [zK ha hp]
 by_cases h:a=p
 ·subst h
  rw [if_pos rfl,← hx,hy]
 ·rw [if_neg h,if_pos rfl]
theorem PF.up {zs:List α} {a c i j:Nat} {x y:α} (h:PF r zs a c i j x) (hy:zs[i]?=some y) (hn:r y x<0):PF r zs a c (i+1) j x :=
 ⟨h.piv,fun k z h1 h2 hz=>by
  by_cases hk:k=i
  ·subst hk
   rw [hy] at hz
   cases hz
   exact hn
  ·exact h.left k z h1 (by omega) hz,h.right⟩
theorem PF.down {zs:List α} {a c i j:Nat} {x y:α} (h:PF r zs a c i j x) (hy:zs[j]?=some y) (hn:¬ r y x<0):PF r zs a c i (j - 1) x :=
 ⟨h.piv,h.left,fun k z h1 h2 hz=>by
  by_cases hk:k=j
  ·subst hk
   rw [hy] at hz
   cases hz
   exact hn
  ·exact h.right k z (by omega) h2 hz⟩
theorem PF.swap {zs:List α} {a c i j:Nat} {x u v:α} (h:PF r zs a c i j x) (ha:a<i) (hij:i<=j) (hi:i<zs.length) (hj:j<zs.length) (hu:zs[i]?=some u) (hv:zs[j]?=some v) (h1:¬ r u x<0) (h2:r v x<0):PF r ((zs.set i v).set j u) a c (i+1) (j - 1) x:=by
 refine ⟨?_,fun k z g1 g2 hz=>?_,fun k z g1 g2 hz=>?_⟩
 ·rw [zK hi hj,if_neg (by omega),if_neg (by omega)]
  exact h.piv
 ·rw [zK hi hj] at hz
  by_cases hk:k=j
  ·have:i=j:=by omega
   subst this
   rw [hu] at hv
   cases hv
   exact absurd h2 h1
  ·rw [if_neg hk] at hz
   by_cases hk2:k=i
   ·rw [if_pos hk2] at hz
    cases hz
    exact h2
   ·rw [if_neg hk2] at hz
    exact h.left k z g1 (by omega) hz
 ·rw [zK hi hj] at hz
  by_cases hk:k=j
  ·rw [if_pos hk] at hz
   cases hz
   exact h1
  ·rw [if_neg hk] at hz
   by_cases hk2:k=i
   ·omega
   ·rw [if_neg hk2] at hz
    exact h.right k z (by omega) g2 hz
structure DivP (r:α->α->Int) (zs:List α) (a c q:Nat) (x:α):Prop where
 piv:zs[q]?=some x
 left:∀ k y,a<=k->k<q->zs[k]?=some y->r y x<0
 right:∀ k y,q<k->k<c->zs[k]?=some y->¬ r y x<0
theorem PF.done {zs:List α} {a c i j:Nat} {x v:α} (h:PF r zs a c i j x) (hij:j<i) (haj:a<=j) (ha:a<zs.length) (hj:j<zs.length) (hv:zs[j]?=some v):DivP r ((zs.set j x).set a v) a c j x:=by
 refine ⟨?_,fun k y h1 h2 hy=>?_,fun k y h1 h2 hy=>?_⟩
 ·rw [zK hj ha]
  by_cases hk:j=a
  ·rw [if_pos hk,← hv,hk,h.piv]
  ·rw [if_neg hk,if_pos rfl]
 ·rw [zK hj ha] at hy
  by_cases hk:k=a
  ·rw [if_pos hk] at hy
   cases hy
   exact h.left j _ (by omega) hij hv
  ·rw [if_neg hk,if_neg (by omega)] at hy
   exact h.left k y (by omega) (by omega) hy
 ·rw [zK hj ha,if_neg (by omega),if_neg (by omega)] at hy
  exact h.right k y h1 h2 hy
theorem DivP.srt {xs:List α} {a c q:Nat} {x:α} (hr:Orders r) (h:DivP r xs a c q x) (h1:Srt r xs a q) (h2:Srt r xs (q+1) c):Srt r xs a c:=fun i j u v g1 g2 g3 hu hv=>by
 have hl:∀ k y,a<=k->k<q->xs[k]?=some y->up r y x:=fun k y k1 k2 hy=>(hr.total y x).resolve_right fun h'=>h' (h.left k y k1 k2 hy)
 by_cases hi:i<q
 ·by_cases hj:j<q
  ·exact h1 i j u v g1 g2 hj hu hv
  ·by_cases hjq:j=q
   ·subst hjq
    rw [h.piv] at hv
    cases hv
    exact hl i u g1 hi hu
   ·exact hr.trans u x v (hl i u g1 hi hu) (h.right j v (by omega) g3 hv)
 ·by_cases hiq:i=q
  ·subst hiq
   rw [h.piv] at hu
   cases hu
   exact h.right j v g2 g3 hv
  ·exact h2 i j u v (by omega) g2 g3 hu hv
end
end
section
section
variable {α:Type} {r:α->α->Int}
theorem Srt.mono {xs:List α} {a c a' c':Nat} (h:Srt r xs a c) (h1:a<=a') (h2:c'<=c):Srt r xs a' c':=fun i j x y g1 g2 g3=>h i j x y (by omega) g2 (by omega)
theorem Srt.ext {xs:List α} {a i:Nat} {x y:α} (hr:Orders r) (h:Srt r xs a i) (hx:xs[i - 1]?=some x) (hy:xs[i]?=some y) (hn:¬ r y x<0):Srt r xs a (i+1):=fun p q u v h1 h2 h3 hu hv=>by
 by_cases hq:q=i
 ·subst hq
  rw [hy] at hv
  cases hv
  by_cases hp:p=q - 1
  ·subst hp
   rw [hx] at hu
   cases hu
   exact hn
  ·exact hr.trans _ _ _ (h p (q - 1) u x h1 (by omega) (by omega) hu hx) hn
 ·exact h p q u v h1 h2 (by omega) hu hv
def Pre (r:α->α->Int) (xs:List α) (a c:Nat):Prop:=∀ k x y,0<a->a<=k->k<c->xs[a - 1]?=some x->xs[k]?=some y->¬ r y x<0
theorem Pre.move {xs ys:List α} {a c:Nat} (h:Pre r xs a c) (hp:ys.Perm xs) (he:Else xs ys a c):Pre r ys a c:=fun k x y h0 h1 h2 hx hy=>by
 rw [he (a - 1) (by omega)] at hx
 obtain ⟨q,g1,g2,g3⟩:=he.from hp h1 h2 hy
 exact h q x y h0 g1 g2 hx g3
theorem Pre.at {xs ys:List α} {a c k:Nat} {x y:α} (h:Pre r xs a c) (hp:ys.Perm xs) (he:Else xs ys a c) (h0:0<a) (h1:a<=k) (h2:k<c) (hx:ys[a - 1]?=some x) (hy:ys[k]?=some y):¬ r y x<0:=h.move hp he k x y h0 h1 h2 hx hy
structure Mv (xs ys:List α) (a c:Nat):Prop where
 perm:ys.Perm xs
 els:Else xs ys a c
theorem Mv.refl (xs:List α) (a c:Nat):Mv xs xs a c:=⟨List.Perm.refl _,Else.refl _ _ _⟩
theorem Mv.trans {xs ys zs:List α} {a c:Nat} (h:Mv xs ys a c) (h2:Mv ys zs a c):Mv xs zs a c:=⟨h2.perm.trans h.perm,h.els.trans h2.els⟩
theorem Mv.wide {xs ys:List α} {a c a' c':Nat} (h:Mv xs ys a c) (h1:a'<=a) (h2:c<=c'):Mv xs ys a' c':=⟨h.perm,h.els.wide h1 h2⟩
theorem Mv.all {xs ys:List α} {a c b d:Nat} {P:α->Prop} (h:Mv xs ys b d) (h1:a<=b) (h2:d<=c) (hP:∀ k x,a<=k->k<c->xs[k]?=some x->P x):∀ k x,a<=k->k<c->ys[k]?=some x->P x:=fun k x g1 g2 hx=>by
 by_cases hk:b<=k/\k<d
 ·obtain ⟨q,q1,q2,q3⟩:=h.els.from h.perm hk.1 hk.2 hx
  exact hP q x (by omega) (by omega) q3
 ·rw [h.els k (by omega)] at hx
  exact hP k x g1 g2 hx
end
end
section
section
variable {α:Type} {r:α->α->Int}
theorem Mv.swap {xs ys:List α} {a c i j:Nat} {x y:α} (h:Mv xs ys a c) (hi:i<ys.length) (hj:j<ys.length) (h1:a<=i/\i<c) (h2:a<=j/\j<c) (hp:((ys.set i x).set j y).Perm ys):Mv xs ((ys.set i x).set j y) a c:=⟨hp.trans h.perm,h.els.trans (zE hi hj h1 h2)⟩
structure Stg (r:α->α->Int) (ys:List α) (x y a c:Nat):Prop where
 lo:a<=x
 hi:y<=c
 pre:Pre r ys x y
 rest:∀ zs,Mv ys zs x y->Srt r zs x y->Srt r zs a c
theorem Stg.start {ys:List α} {a c:Nat} (h:Pre r ys a c):Stg r ys a c a c:=⟨zcs _,zcs _,h,fun _ _ h=>h⟩
theorem Stg.move {ys zs:List α} {x y a c:Nat} (h:Stg r ys x y a c) (hm:Mv ys zs x y):Stg r zs x y a c:=⟨h.lo,h.hi,h.pre.move hm.perm hm.els,fun us hu hs=>h.rest us (hm.trans hu) hs⟩
theorem Stg.trans {ys zs:List α} {x y x' y' a c:Nat} (h:Stg r ys x y a c) (hm:Mv ys zs x y) (h2:Stg r zs x' y' x y):Stg r zs x' y' a c :=
 ⟨zd7 h.lo h2.lo,zd7 h2.hi h.hi,h2.pre,fun us hu hs=>h.rest us (hm.trans (hu.wide h2.lo h2.hi)) (h2.rest us hu hs)⟩
theorem Pre.cut {ys:List α} {a c c':Nat} (h:Pre r ys a c) (hc:c'<=c):Pre r ys a c':=fun k x y h0 h1 h2=>h k x y h0 h1 (by omega)
theorem Stg.low {ys zs:List α} {a c q:Nat} {x pv:α} (hr:Orders r) (hpre:Pre r ys a c) (h0:0<a) (haq:a<q) (hqc:q<=c) (hx:ys[a - 1]?=some x) (hn:¬ r x pv<0) (hm:Mv ys zs a c) (hd:DivE r zs a c q pv) (hl:c<=zs.length):Stg r zs q c a c:=by
 have hp:=hpre.move hm.perm hm.els
 have hx2:zs[a - 1]?=some x:=(hm.els (a - 1) (by omega)).trans hx
 have low:∀ k k' y z,a<=k->k<q->a<=k'->k'<c->zs[k]?=some y->zs[k']?=some z->up r y z:=fun k k' y z h1 h2 h3 h4 hy hz =>
  hr.trans _ _ _ (hr.trans y pv x (hd.left k y h1 h2 hy) hn) (hp k' x z h0 h3 h4 hx2 hz)
 refine ⟨by omega,zcs _,fun k u v g0 g1 g2 hu hv=>low (q - 1) k u v (by omega) (by omega) (by omega) g2 hu hv,fun us hu hs=>?_⟩
 have hlow:∀ k' z,q<=k'->k'<c->us[k']?=some z->∀ k y,a<=k->k<q->zs[k]?=some y->up r y z :=
  hu.all (zcs _) (zcs _) (P:=fun z=>∀ k y,a<=k->k<q->zs[k]?=some y->up r y z) fun k' z h1 h2 hz k y h3 h4 hy=>low k k' y z h3 h4 (by omega) h2 hy hz
 refine Srt.join (m:=q) (fun i j u v g1 g2 g3 hu1 hv1=>?_) hs fun i j u v g1 g2 g3 g4 hu1 hv1=>?_
 ·rw [hu.els i (by omega)] at hu1
  rw [hu.els j (by omega)] at hv1
  exact low i j u v g1 (by omega) (by omega) (by omega) hu1 hv1
 ·rw [hu.els i (by omega)] at hu1
  exact hlow j v g3 g4 hv1 i u g1 g2 hu1
theorem DivP.move {ys zs:List α} {a c q b d:Nat} {x:α} (h:DivP r ys a c q x) (hm:Mv ys zs b d) (hb:a<=b/\d<=q∨q<b/\d<=c):DivP r zs a c q x:=by
 refine ⟨(hm.els q (by omega)).trans h.piv,fun k y h1 h2 hy=>?_,fun k y h1 h2 hy=>?_⟩
 ·by_cases hk:b<=k/\k<d
  ·obtain ⟨k2,q1,q2,q3⟩:=hm.els.from hm.perm hk.1 hk.2 hy
   exact h.left k2 y (by omega) (by omega) q3
  ·rw [hm.els k (by omega)] at hy
   exact h.left k y h1 h2 hy
 ·by_cases hk:b<=k/\k<d
  ·obtain ⟨k2,q1,q2,q3⟩:=hm.els.from hm.perm hk.1 hk.2 hy
   exact h.right k2 y (by omega) (by omega) q3
  ·rw [hm.els k (by omega)] at hy
   exact h.right k y h1 h2 hy
theorem DivP.pre_right {ys:List α} {a c q:Nat} {x:α} (h:DivP r ys a c q x):Pre r ys (q+1) c:=fun k u v _ h1 h2 hu hv=>by
 rw [Nat.add_sub_cancel,h.piv] at hu
 cases hu
 exact h.right k v (by omega) h2 hv
theorem Stg.right {ys zs:List α} {a c q:Nat} {x:α} (hr:Orders r) (h:DivP r ys a c q x) (haq:a<=q) (hm:Mv ys zs a q) (hs:Srt r zs a q):Stg r zs (q+1) c a c:=by
 have h2:=h.move hm (.inl ⟨zcs _,zcs _⟩)
 exact ⟨by omega,zcs _,h2.pre_right,fun us hu hus=>(h2.move hu (.inr ⟨by omega,zcs _⟩)).srt hr (hs.else hu.els (.inl (by omega))) hus⟩
theorem Stg.left {ys zs:List α} {a c q:Nat} {x:α} (hr:Orders r) (h:DivP r ys a c q x) (hpre:Pre r ys a c) (haq:a<=q) (hqc:q<c) (hm:Mv ys zs (q+1) c) (hs:Srt r zs (q+1) c):Stg r zs a q a c:=by
 have h2:=h.move hm (.inr ⟨by omega,zcs _⟩)
 have hp:Pre r zs a c:=hpre.move hm.perm (hm.els.wide (by omega) (zcs _))
 exact ⟨zcs _,by omega,hp.cut (by omega),fun us hu hus=>(h2.move hu (.inl ⟨zcs _,zcs _⟩)).srt hr hus (hs.else hu.els (.inr (by omega)))⟩
end
end
end Go.Proofs.YtelocmclpfincaaGreatDoor
end
section
namespace Go.Proofs.YtelocmclpfincaaGreatDoor
open Go Go.RowKit
section
section
variable {X:SF} {S:ySM} {α:Type} {g:α->List IV} {e:α->IV} {own0:yLO} {b d:Nat} {out:yLM} {n cp:Nat} {tg:Bool} {gf:FuncId} {caps:List IV} {r:α->α->Int} {Nc:Nat}
theorem x_revS (hFm:FamOK S X) (hS:NoS S) (hb:b<own0.length) (hE:Elt g e X.sz X.ag) (hc:CmpOK S Nc d out own0 b e gf caps r) (hn:n<65536) (m:Nat) (hm:Nc+n+8<=m) (ownV:yLO) (xs:List α) (J:yLO) (a c:Nat) (hl0:xs.length=n) (hac:a<c) (hcn:c<=n) :
  ∃ (xs':List α) (J':yLO),(∀ id,callN Ftab S m d out ownV (Bk own0 b (xs.flatMap g)++J) id X.rev [.slM d b 0 n cp X.sz tg,.int .i64 (a:Int),.int .i64 (c:Int),.fn gf [] caps]=some (.x,.tuple [],Bk own0 b (xs'.flatMap g)++J'))/\Mv xs xs' a c:=by
 obtain ⟨m,rfl⟩:∃ q,m=q+1:=⟨m - 1,by omega⟩
 have main:∃ v own',(∀ id,callN Ftab S (m+1) d out ownV (Bk own0 b (xs.flatMap g)++J) id X.rev [.slM d b 0 n cp X.sz tg,.int .i64 (a:Int),.int .i64 (c:Int),.fn gf [] caps]=some (.x,v,own'))/\(v=.tuple []/\∃ (xs':List α) (J':yLO),own'=Bk own0 b (xs'.flatMap g)++J'/\Mv xs xs' a c):=by
  refine zX (i:=cRev X) (hFm.rev.1 _) hFm.rev.2 rfl (lb rfl) fun t hfr=>?_
  simp only [V2,Nat.reduceAdd,cRev] at hfr
  have e1:wrapI .i64 ((c:Int) - 1)=((c - 1:Nat):Int):=we
  simp only [cRev,V0,sevalprocAttr,hfr,e1]
  refine zb (fun jj st=>∃ (i:Nat) (j:Nat) (ys:List α) (J1:yLO),jj=j - i/\(a<=i/\j<c)/\Mv xs ys a c/\st.own=Bk own0 b (ys.flatMap g)++J1/\Slots 34 st.t [(0,.slM d b 0 n cp X.sz tg),(8,iv i),(9,iv j)]) (c - 1 - a) (by omega) ⟨a,c - 1,xs,J,rfl,by omega,Mv.refl _ _ _,rfl,by simp only [V0,sevalprocAttr,hfr]⟩ ?_
  rintro jj ⟨t,own⟩ KA ⟨i,j,ys,J1,hjj,hj,hp,ho,hfr⟩ hnA heA hrA
  dsimp only at ho hfr
  subst ho
  simp only [V3] at hfr
  have hly:ys.length=n:=hp.perm.length_eq.trans hl0
  by_cases h:i<j
  ·have hi:i<n:=by omega
   have hjn:j<n:=by omega
   have e2:wrapI .i64 ((i:Int)+1)=((i+1:Nat):Int):=we
   have e3:wrapI .i64 ((j:Int) - 1)=((j - 1:Nat):Int):=we
   obtain ⟨x,hx⟩:=gx (l:=ys) (i:=i) (by omega)
   have lx:=hE.ld hx
   obtain ⟨y,hy⟩:=gx (l:=ys) (i:=j) (by omega)
   have ly:=hE.ld hy
   simp only [V0,sevalprocAttr,hfr,L1,L2 hb hE,h,hi,hjn,hly,lx,ly]
   refine ⟨by simp [comm],?_⟩
   simp only [V0,sevalprocAttr,hfr,e2,e3]
   exact hnA _ (j - 1 - (i+1)) (by omega) ⟨i+1,j - 1,_,_,rfl,by omega,hp.swap (by omega) (by omega) (by omega) (by omega) (zD hx hy),rfl,by simp only [V0,sevalprocAttr,hfr]⟩
  ·simp only [V0,sevalprocAttr,hfr,h]
   refine heA _ _ ?_
   simp only [V0,sevalprocAttr,hfr,zP,zr,Yj]
   exact ⟨_,rfl,rfl,ys,_,rfl,hp⟩
 obtain ⟨v,own',h1,rfl,xs',J',rfl,hp⟩:=main
 exact ⟨xs',J',h1,hp⟩
end
end
section
section
variable {X:SF} {S:ySM} {α:Type} {g:α->List IV} {e:α->IV} {own0:yLO} {b d:Nat} {out:yLM} {n cp:Nat} {tg:Bool} {gf:FuncId} {caps:List IV} {r:α->α->Int} {Nc:Nat}
theorem x_pivS (hFm:FamOK S X) (hS:NoS S) (hb:b<own0.length) (hE:Elt g e X.sz X.ag) (hc:CmpOK S Nc d out own0 b e gf caps r) (hn:n<65536) (m:Nat) (hm:Nc+12<=m) (ownV:yLO) (xs:List α) (J:yLO) (a c:Nat) (hl0:xs.length=n) (hac:a+12<c) (hcn:c<=n) :
  ∃ (xs':List α) (J':yLO) (p:Nat) (w:Int),(∀ id,callN Ftab S m d out ownV (Bk own0 b (xs.flatMap g)++J) id X.piv [.slM d b 0 n cp X.sz tg,.int .i64 (a:Int),.int .i64 (c:Int),.fn gf [] caps]=some (.x,.tuple [.int .i64 (p:Int),.int .i64 w],Bk own0 b (xs'.flatMap g)++J'))/\Mv xs xs' a c/\a<=p/\p<c:=by
 obtain ⟨m,rfl⟩:∃ q,m=q+1:=⟨m - 1,by omega⟩
 have main:∃ v own',(∀ id,callN Ftab S (m+1) d out ownV (Bk own0 b (xs.flatMap g)++J) id X.piv [.slM d b 0 n cp X.sz tg,.int .i64 (a:Int),.int .i64 (c:Int),.fn gf [] caps]=some (.x,v,own'))/\(∃ (xs':List α) (J':yLO) (p:Nat) (w:Int),v=.tuple [.int .i64 (p:Int),.int .i64 w]/\own'=Bk own0 b (xs'.flatMap g)++J'/\Mv xs xs' a c/\a<=p/\p<c):=by
  refine zX (i:=cPiv X) (hFm.piv.1 _) hFm.piv.2 rfl (lb rfl) fun t hfr=>?_
  simp only [V2,Nat.reduceAdd,cPiv] at hfr
  have e1:wrapI .i64 ((c:Int) - (a:Int))=((c - a:Nat):Int):=we
  have e2:wrapI .i64 (Int.tdiv ((c - a:Nat):Int) 4)=(((c - a) / 4:Nat):Int):=YH _ 4 (by omega)
  have e0:((4:Int)=0)=False:=eq_false (by decide)
  have hL1:4*((c - a) / 4)<=c - a:=Nat.mul_div_le _ _
  have hL2:3<=(c - a) / 4:=by omega
  generalize (c - a) / 4=L at e2 hL1 hL2
  have m1:wrapI .i64 ((L:Int)*1)=((L*1:Nat):Int):=we
  have m2:wrapI .i64 ((L:Int)*2)=((L*2:Nat):Int):=we
  have m3:wrapI .i64 ((L:Int)*3)=((L*3:Nat):Int):=we
  have a1:wrapI .i64 ((a:Int)+((L*1:Nat):Int))=((a+L*1:Nat):Int):=we
  have a2:wrapI .i64 ((a:Int)+((L*2:Nat):Int))=((a+L*2:Nat):Int):=we
  have a3:wrapI .i64 ((a:Int)+((L*3:Nat):Int))=((a+L*3:Nat):Int):=we
  have h8:(8:Int)<=((c - a:Nat):Int):=by omega
  by_cases h50:(50:Int)<=((c - a:Nat):Int)
  ·obtain ⟨z1,J1,p1,h1,g1⟩:=x_medA (cp:=cp) (tg:=tg) (d:=d) (out:=out) hFm hS hb hE hc hn m (by omega) xs J [.free] 0 (a+L*1) hl0 (by omega) (by omega)
   obtain ⟨z2,J2,p2,h2,g2⟩:=x_medA (cp:=cp) (tg:=tg) (d:=d) (out:=out) hFm hS hb hE hc hn m (by omega) xs J (J1++[.free]) z1 (a+L*2) hl0 (by omega) (by omega)
   obtain ⟨z3,J3,p3,h3,g3⟩:=x_medA (cp:=cp) (tg:=tg) (d:=d) (out:=out) hFm hS hb hE hc hn m (by omega) xs J (J2++[.free]) z2 (a+L*3) hl0 (by omega) (by omega)
   obtain ⟨z4,J4,p4,h4,g4⟩:=x_med (cp:=cp) (tg:=tg) (d:=d) (out:=out) hFm hS hb hE hc hn m (by omega) xs J (J3++[.free]) z3 p1 p2 p3 hl0 (by omega) (by omega) (by omega)
   have hp:a<=p4/\p4<c:=by omega
   simp only [cPiv,V0,sevalprocAttr,hfr,L1,L2 hb hE,e0,e1,e2,m1,m2,m3,a1,a2,a3,yz,yF,h8,h50,h1,h2,h3,h4]
   cases hz0:z4==0
   ·cases hz1:z4==12
    ·simp only [V0,sevalprocAttr,hfr,hz0,hz1,zr]
     exact ⟨_,rfl,xs,_,p4,_,rfl,rfl,Mv.refl _ _ _,hp⟩
    ·simp only [V0,sevalprocAttr,hfr,hz0,hz1,zr]
     exact ⟨_,rfl,xs,_,p4,_,rfl,rfl,Mv.refl _ _ _,hp⟩
   ·simp only [V0,sevalprocAttr,hfr,hz0,zr]
    exact ⟨_,rfl,xs,_,p4,_,rfl,rfl,Mv.refl _ _ _,hp⟩
  ·obtain ⟨z4,J4,p4,h4,g4⟩:=x_med (cp:=cp) (tg:=tg) (d:=d) (out:=out) hFm hS hb hE hc hn m (by omega) xs J [.free] 0 (a+L*1) (a+L*2) (a+L*3) hl0 (by omega) (by omega) (by omega)
   have hp:a<=p4/\p4<c:=by omega
   simp only [cPiv,V0,sevalprocAttr,hfr,L1,L2 hb hE,e0,e1,e2,m1,m2,m3,a1,a2,a3,yz,yF,h8,h50,h4]
   cases hz0:z4==0
   ·cases hz1:z4==12
    ·simp only [V0,sevalprocAttr,hfr,hz0,hz1,zr]
     exact ⟨_,rfl,xs,_,p4,_,rfl,rfl,Mv.refl _ _ _,hp⟩
    ·simp only [V0,sevalprocAttr,hfr,hz0,hz1,zr]
     exact ⟨_,rfl,xs,_,p4,_,rfl,rfl,Mv.refl _ _ _,hp⟩
   ·simp only [V0,sevalprocAttr,hfr,hz0,zr]
    exact ⟨_,rfl,xs,_,p4,_,rfl,rfl,Mv.refl _ _ _,hp⟩
 obtain ⟨v,own',h1,xs',J',p,w,rfl,rfl,h2⟩:=main
 exact ⟨xs',J',p,w,h1,h2⟩
end
end
section
section
variable {X:SF} {S:ySM} {α:Type} {g:α->List IV} {e:α->IV} {own0:yLO} {b d:Nat} {out:yLM} {n cp:Nat} {tg:Bool} {gf:FuncId} {caps:List IV} {r:α->α->Int} {Nc:Nat}
theorem x_parES (hr0:Orders r) (hFm:FamOK S X) (hS:NoS S) (hb:b<own0.length) (hE:Elt g e X.sz X.ag) (hc:CmpOK S Nc d out own0 b e gf caps r) (hn:n<65536) (m:Nat) (hm:Nc+n+12<=m) (ownV:yLO) (xs:List α) (J:yLO) (a c p:Nat) (hl0:xs.length=n) (hap:a<=p) (hpc:p<c) (hcn:c<=n) :
  ∃ (xs':List α) (J':yLO) (q:Nat),(∀ id,callN Ftab S m d out ownV (Bk own0 b (xs.flatMap g)++J) id X.parE [.slM d b 0 n cp X.sz tg,.int .i64 (a:Int),.int .i64 (c:Int),.int .i64 (p:Int),.fn gf [] caps]=some (.x,.int .i64 (q:Int),Bk own0 b (xs'.flatMap g)++J'))/\(xs'.Perm xs/\Else xs xs' a c/\∃ pv,xs[p]?=some pv/\DivE r xs' a c q pv)/\a<q/\q<=c:=by
 obtain ⟨m,rfl⟩:∃ q,m=q+1:=⟨m - 1,by omega⟩
 have main:∃ v own',(∀ id,callN Ftab S (m+1) d out ownV (Bk own0 b (xs.flatMap g)++J) id X.parE [.slM d b 0 n cp X.sz tg,.int .i64 (a:Int),.int .i64 (c:Int),.int .i64 (p:Int),.fn gf [] caps]=some (.x,v,own'))/\(∃ (xs':List α) (J':yLO) (q:Nat),v=.int .i64 (q:Int)/\own'=Bk own0 b (xs'.flatMap g)++J'/\(xs'.Perm xs/\Else xs xs' a c/\∃ pv,xs[p]?=some pv/\DivE r xs' a c q pv)/\a<q/\q<=c):=by
  refine zX (i:=cParE X) (hFm.parE.1 _) hFm.parE.2 rfl (lb rfl) fun t hfr=>?_
  simp only [V2,Nat.reduceAdd,cParE] at hfr
  have e1:wrapI .i64 ((a:Int)+1)=((a+1:Nat):Int):=we
  have e2:wrapI .i64 ((c:Int) - 1)=((c - 1:Nat):Int):=we
  have ha:a<n:=by omega
  have hpn:p<n:=by omega
  obtain ⟨x,hx⟩:=gx (l:=xs) (i:=a) (by omega)
  have lx:=hE.ld hx
  obtain ⟨pv,hy⟩:=gx (l:=xs) (i:=p) (by omega)
  have ly:=hE.ld hy
  simp only [cParE,V0,sevalprocAttr,hfr,L1,L2 hb hE,ha,hpn,hl0,lx,ly]
  refine ⟨by simp [comm],?_⟩
  simp only [V0,sevalprocAttr,hfr,e1,e2]
  refine zb (fun jj st=>∃ (i:Nat) (j:Nat) (ys:List α) (J1:yLO),j+1 - i<=jj/\(a+1<=i/\i<=c)/\(a<=j/\j<c)/\(ys.Perm xs/\Else xs ys a c/\PE r ys a c i j pv)/\st.own=Bk own0 b (ys.flatMap g)++J1/\Slots 90 st.t [(0,.slM d b 0 n cp X.sz tg),(1,iv a),(4,.fn gf [] caps),(11,iv i),(12,iv j)]) (c+1) (by omega) ⟨a+1,c - 1,_,_,by omega,by omega,by omega,⟨zD hx hy,zE (by omega) (by omega) (by omega) (by omega),PE.start (by omega) (by omega) hx hy⟩,rfl,by simp only [V0,sevalprocAttr,hfr]⟩ ?_
  have hpv:=hy
  clear lx ly hx hy x
  rintro jjA ⟨t,own⟩ KA ⟨i,j,ys,J1,hjj,h1,h2,⟨hp,hel,hpe⟩,ho,hfr⟩ hnA heA hrA
  dsimp only at ho hfr
  subst ho
  simp only [V3] at hfr
  simp only [V0,sevalprocAttr,hfr]
  refine zb (fun jj st=>∃ (i2:Nat) (ys2:List α) (J2:yLO),n - i2<=jj/\(i<=i2/\i2<=c)/\(ys2.Perm xs/\Else xs ys2 a c/\PE r ys2 a c i2 j pv)/\st.own=Bk own0 b (ys2.flatMap g)++J2/\Slots 90 st.t [(0,.slM d b 0 n cp X.sz tg),(1,iv a),(4,.fn gf [] caps),(11,iv i2),(12,iv j)]) n (by omega) ⟨i,ys,_,by omega,by omega,⟨hp,hel,hpe⟩,rfl,by simp only [V0,sevalprocAttr,hfr]⟩ ?_
  rintro jjB ⟨t,own⟩ KB ⟨i2,ys2,J2,hjB,hB,⟨hpB,helB,hpeB⟩,ho,hfr⟩ hnB heB hrB
  have keyB:∀ (i2:Nat) (ys2:List α) (J2:yLO) (t:List IV),(i<=i2/\i2<=c)->(ys2.Perm xs/\Else xs ys2 a c/\PE r ys2 a c i2 j pv)->(j<i2∨∃ y,ys2[i2]?=some y/\r pv y<0)->Slots 90 t [(0,.slM d b 0 n cp X.sz tg),(1,iv a),(4,.fn gf [] caps),(11,iv i2),(12,iv j)]->KB (.exit 2) ⟨t,Bk own0 b (ys2.flatMap g)++J2⟩:=by
   clear hjB hB hpB helB hpeB hfr ho hnB hrB i2 ys2 J2 t own
   intro i2 ys2 J2 t hB ⟨hpB,helB,hpeB⟩ hxB hfr
   simp only [V3] at hfr
   refine heB _ _ ?_
   simp only [V0,sevalprocAttr,hfr]
   refine zb (fun jj st=>∃ (j2:Nat) (ys3:List α) (J3:yLO),j2<=jj/\(a<=j2/\j2<=j)/\(ys3.Perm xs/\Else xs ys3 a c/\PE r ys3 a c i2 j2 pv/\(j<i2∨∃ y,ys3[i2]?=some y/\r pv y<0))/\st.own=Bk own0 b (ys3.flatMap g)++J3/\Slots 90 st.t [(0,.slM d b 0 n cp X.sz tg),(1,iv a),(4,.fn gf [] caps),(11,iv i2),(12,iv j2)]) n (by omega) ⟨j,ys2,J2,by omega,by omega,⟨hpB,helB,hpeB,hxB⟩,rfl,by simp only [V0,sevalprocAttr,hfr]⟩ ?_
   rintro jjC ⟨t,own⟩ KC ⟨j2,ys3,J3,hjC,hC,⟨hpC,helC,hpeC,hxC⟩,ho,hfr⟩ hnC heC hrC
   have keyC:∀ (j2:Nat) (ys3:List α) (J3:yLO) (t:List IV),(a<=j2/\j2<=j)->(ys3.Perm xs/\Else xs ys3 a c/\PE r ys3 a c i2 j2 pv/\(j<i2∨∃ y,ys3[i2]?=some y/\r pv y<0))->(j2<i2∨∃ y,ys3[j2]?=some y/\¬ r pv y<0)->Slots 90 t [(0,.slM d b 0 n cp X.sz tg),(1,iv a),(4,.fn gf [] caps),(11,iv i2),(12,iv j2)]->KC (.exit 4) ⟨t,Bk own0 b (ys3.flatMap g)++J3⟩:=by
    clear hjC hC hpC helC hpeC hxC hfr ho hnC hrC j2 ys3 J3 t own
    intro j2 ys3 J3 t hC ⟨hpC,helC,hpeC,hxC⟩ hzC hfr
    simp only [V3] at hfr
    refine heC _ _ ?_
    simp only [V0,sevalprocAttr,hfr]
    by_cases hg:j2<i2
    ·simp only [V0,sevalprocAttr,hfr,L1,L2 hb hE,hg]
     refine heA _ _ ?_
     simp only [V0,sevalprocAttr,hfr,zr]
     exact ⟨_,rfl,ys3,_,i2,rfl,rfl,⟨hpC,helC,pv,hpv,hpeC.done hr0 hg⟩,by omega,by omega⟩
    ·have hi:i2<n:=by omega
     have hj:j2<n:=by omega
     have hly:ys3.length=n:=hpC.length_eq.trans hl0
     have e3:wrapI .i64 ((i2:Int)+1)=((i2+1:Nat):Int):=we
     have e4:wrapI .i64 ((j2:Int) - 1)=((j2 - 1:Nat):Int):=we
     obtain ⟨x,hx⟩:=gx (l:=ys3) (i:=i2) (by omega)
     have lx:=hE.ld hx
     obtain ⟨y,hy⟩:=gx (l:=ys3) (i:=j2) (by omega)
     have ly:=hE.ld hy
     simp only [V0,sevalprocAttr,hfr,L1,L2 hb hE,hg,hi,hj,hly,lx,ly]
     refine ⟨by simp [comm],?_⟩
     simp only [V0,sevalprocAttr,hfr,e3,e4]
     have q1:¬ j<i2:=by omega
     have hu2:r pv x<0:=by
      rcases hxC with h | ⟨u,hu,hu2⟩
      ·exact absurd h q1
      ·rw [hx] at hu
       cases hu
       exact hu2
     have hw2:¬ r pv y<0:=by
      rcases hzC with h | ⟨w,hw,hw2⟩
      ·exact absurd h hg
      ·rw [hy] at hw
       cases hw
       exact hw2
     clear hxC hzC hxB
     exact hnA _ (j2 - 1+1 - (i2+1)) (by omega) ⟨i2+1,j2 - 1,_,_,zcs _,by omega,by omega,⟨(zD hx hy).trans hpC,helC.trans (zE (by omega) (by omega) (by omega) (by omega)),hpeC.swap (by omega) (by omega) (by omega) (by omega) hx hy hu2 hw2⟩,rfl,by simp only [V0,sevalprocAttr,hfr]⟩
   dsimp only at ho hfr
   subst ho
   simp only [V3] at hfr
   have hly:ys3.length=n:=hpC.length_eq.trans hl0
   by_cases h:i2<=j2
   ·have hi:a<n:=by omega
    have hj:j2<n:=by omega
    have e3:wrapI .i64 ((j2:Int) - 1)=((j2 - 1:Nat):Int):=we
    obtain ⟨x,hx⟩:=gx (l:=ys3) (i:=a) (by omega)
    have lx:=hE.ld hx
    obtain ⟨y,hy⟩:=gx (l:=ys3) (i:=j2) (by omega)
    have ly:=hE.ld hy
    have cc:=fun ownV own id=>hc m (by omega) ownV own id x y
    cases hlt:decide (r x y<0)
    ·simp only [V0,sevalprocAttr,hfr,L1,L2 hb hE,h,hi,hj,hly,lx,ly,cc,hlt]
     refine ⟨by simp [comm],?_⟩
     simp only [V0,sevalprocAttr,hfr,e3]
     rw [hpeC.piv] at hx
     cases hx
     exact keyC j2 ys3 _ _ hC ⟨hpC,helC,hpeC,hxC⟩ (.inr ⟨y,hy,of_decide_eq_false hlt⟩) (by simp only [V0,sevalprocAttr,hfr])
    ·simp only [V0,sevalprocAttr,hfr,L1,L2 hb hE,h,hi,hj,hly,lx,ly,cc,hlt]
     refine ⟨by simp [comm],?_⟩
     simp only [V0,sevalprocAttr,hfr,e3]
     rw [hpeC.piv] at hx
     cases hx
     exact hnC _ (j2 - 1) (by omega) ⟨j2 - 1,ys3,_,by omega,by omega,⟨hpC,helC,hpeC.down hy (of_decide_eq_true hlt),hxC⟩,rfl,by simp only [V0,sevalprocAttr,hfr]⟩
   ·simp only [V0,sevalprocAttr,hfr,h,Int.ofNat_le]
    refine ⟨by simp [comm],?_⟩
    simp only [V0,sevalprocAttr,hfr]
    exact keyC j2 ys3 _ _ hC ⟨hpC,helC,hpeC,hxC⟩ (.inl (by omega)) (by simp only [V0,sevalprocAttr,hfr])
  dsimp only at ho hfr
  subst ho
  simp only [V3] at hfr
  have hly:ys2.length=n:=hpB.length_eq.trans hl0
  by_cases h:i2<=j
  ·have hi:a<n:=by omega
   have hj:i2<n:=by omega
   have e3:wrapI .i64 ((i2:Int)+1)=((i2+1:Nat):Int):=we
   obtain ⟨x,hx⟩:=gx (l:=ys2) (i:=a) (by omega)
   have lx:=hE.ld hx
   obtain ⟨y,hy⟩:=gx (l:=ys2) (i:=i2) (by omega)
   have ly:=hE.ld hy
   have cc:=fun ownV own id=>hc m (by omega) ownV own id x y
   cases hlt:decide (r x y<0)
   ·simp only [V0,sevalprocAttr,hfr,L1,L2 hb hE,h,hi,hj,hly,lx,ly,cc,hlt]
    refine ⟨by simp [comm],?_⟩
    simp only [V0,sevalprocAttr,hfr,e3]
    rw [hpeB.piv] at hx
    cases hx
    exact hnB _ (n - (i2+1)) (by omega) ⟨i2+1,ys2,_,by omega,by omega,⟨hpB,helB,hpeB.up hy (of_decide_eq_false hlt)⟩,rfl,by simp only [V0,sevalprocAttr,hfr]⟩
   ·simp only [V0,sevalprocAttr,hfr,L1,L2 hb hE,h,hi,hj,hly,lx,ly,cc,hlt]
    refine ⟨by simp [comm],?_⟩
    simp only [V0,sevalprocAttr,hfr,e3]
    rw [hpeB.piv] at hx
    cases hx
    exact keyB i2 ys2 _ _ hB ⟨hpB,helB,hpeB⟩ (.inr ⟨y,hy,of_decide_eq_true hlt⟩) (by simp only [V0,sevalprocAttr,hfr])
  ·simp only [V0,sevalprocAttr,hfr,h,Int.ofNat_le]
   refine ⟨by simp [comm],?_⟩
   simp only [V0,sevalprocAttr,hfr]
   exact keyB i2 ys2 _ _ hB ⟨hpB,helB,hpeB⟩ (.inl (by omega)) (by simp only [V0,sevalprocAttr,hfr])
 obtain ⟨v,own',h1,xs',J',q,rfl,rfl,h2⟩:=main
 exact ⟨xs',J',q,h1,h2⟩
end
end
section
section
variable {X:SF} {S:ySM} {α:Type} {g:α->List IV} {e:α->IV} {own0:yLO} {b d:Nat} {out:yLM} {n cp:Nat} {tg:Bool} {gf:FuncId} {caps:List IV} {r:α->α->Int} {Nc:Nat}
theorem x_parS (hFm:FamOK S X) (hS:NoS S) (hb:b<own0.length) (hE:Elt g e X.sz X.ag) (hc:CmpOK S Nc d out own0 b e gf caps r) (hn:n<65536) (m:Nat) (hm:Nc+n+12<=m) (ownV:yLO) (xs:List α) (J:yLO) (a c p:Nat) (hl0:xs.length=n) (hap:a<=p) (hpc:p<c) (hcn:c<=n) :
  ∃ (xs':List α) (J':yLO) (q:Nat) (w:Bool),(∀ id,callN Ftab S m d out ownV (Bk own0 b (xs.flatMap g)++J) id X.par [.slM d b 0 n cp X.sz tg,.int .i64 (a:Int),.int .i64 (c:Int),.int .i64 (p:Int),.fn gf [] caps]=some (.x,.tuple [.int .i64 (q:Int),.bool w],Bk own0 b (xs'.flatMap g)++J'))/\(xs'.Perm xs/\Else xs xs' a c/\∃ pv,xs[p]?=some pv/\DivP r xs' a c q pv)/\a<=q/\q<c:=by
 obtain ⟨m,rfl⟩:∃ q,m=q+1:=⟨m - 1,by omega⟩
 have main:∃ v own',(∀ id,callN Ftab S (m+1) d out ownV (Bk own0 b (xs.flatMap g)++J) id X.par [.slM d b 0 n cp X.sz tg,.int .i64 (a:Int),.int .i64 (c:Int),.int .i64 (p:Int),.fn gf [] caps]=some (.x,v,own'))/\(∃ (xs':List α) (J':yLO) (q:Nat) (w:Bool),v=.tuple [.int .i64 (q:Int),.bool w]/\own'=Bk own0 b (xs'.flatMap g)++J'/\(xs'.Perm xs/\Else xs xs' a c/\∃ pv,xs[p]?=some pv/\DivP r xs' a c q pv)/\a<=q/\q<c):=by
  refine zX (i:=cPar X) (hFm.par.1 _) hFm.par.2 rfl (lb rfl) fun t hfr=>?_
  simp only [V2,Nat.reduceAdd,cPar] at hfr
  obtain ⟨i,hi0⟩:∃ i:Nat,i=a+1:=⟨_,rfl⟩
  obtain ⟨j,hj0⟩:∃ j:Nat,j=c - 1:=⟨_,rfl⟩
  have e1:wrapI .i64 ((a:Int)+1)=((i:Nat):Int):=we
  have e2:wrapI .i64 ((c:Int) - 1)=((j:Nat):Int):=we
  have ha:a<n:=by omega
  have hpn:p<n:=by omega
  obtain ⟨x0,hx0⟩:=gx (l:=xs) (i:=a) (by omega)
  have lx0:=hE.ld hx0
  obtain ⟨y0,hy0⟩:=gx (l:=xs) (i:=p) (by omega)
  have ly0:=hE.ld hy0
  simp only [cPar,V0,sevalprocAttr,hfr,L1,L2 hb hE,ha,hpn,hl0,lx0,ly0]
  refine ⟨by simp [comm],?_⟩
  simp only [V0,sevalprocAttr,hfr,e1,e2]
  refine zb (fun jj st=>∃ (i2:Nat) (ys1:List α) (J2:yLO),n - i2<=jj/\(i<=i2/\i2<=c)/\(ys1.Perm xs/\Else xs ys1 a c/\PF r ys1 a c i2 j y0)/\st.own=Bk own0 b (ys1.flatMap g)++J2/\Slots 178 st.t [(0,.slM d b 0 n cp X.sz tg),(1,iv a),(4,.fn gf [] caps),(12,iv i2),(13,iv j)]) n (by omega) ⟨i,_,_,by omega,by omega,⟨zD hx0 hy0,zE (by omega) (by omega) (by omega) (by omega),by subst hi0 hj0; exact PF.start (by omega) (by omega) hx0 hy0⟩,rfl,by simp only [V0,sevalprocAttr,hfr]⟩ ?_
  rintro jjB ⟨t,own⟩ KB ⟨i2,ys1,J2,hjB,hB,⟨hpB,helB,hfB⟩,ho,hfr⟩ hnB heB hrB
  have keyB:∀ (i2:Nat) (ys1:List α) (J2:yLO) (t:List IV),(i<=i2/\i2<=c)->(ys1.Perm xs/\Else xs ys1 a c/\PF r ys1 a c i2 j y0)->(j<i2∨∃ y,ys1[i2]?=some y/\¬ r y y0<0)->Slots 178 t [(0,.slM d b 0 n cp X.sz tg),(1,iv a),(4,.fn gf [] caps),(12,iv i2),(13,iv j)]->KB (.exit 0) ⟨t,Bk own0 b (ys1.flatMap g)++J2⟩:=by
   clear hjB hB hpB helB hfB hfr ho hnB hrB i2 ys1 J2 t own
   intro i2 ys1 J2 t hB ⟨hpB,helB,hfB⟩ hxB hfr
   simp only [V3] at hfr
   refine heB _ _ ?_
   simp only [V0,sevalprocAttr,hfr]
   refine zb (fun jj st=>∃ (j2:Nat) (ys2:List α) (J3:yLO),j2<=jj/\(a<=j2/\j2<=j)/\(ys2.Perm xs/\Else xs ys2 a c/\PF r ys2 a c i2 j2 y0/\(j<i2∨∃ y,ys2[i2]?=some y/\¬ r y y0<0))/\st.own=Bk own0 b (ys2.flatMap g)++J3/\Slots 178 st.t [(0,.slM d b 0 n cp X.sz tg),(1,iv a),(4,.fn gf [] caps),(12,iv i2),(13,iv j2)]) n (by omega) ⟨j,ys1,J2,by omega,by omega,⟨hpB,helB,hfB,hxB⟩,rfl,by simp only [V0,sevalprocAttr,hfr]⟩ ?_
   rintro jjC ⟨t,own⟩ KC ⟨j2,ys2,J3,hjC,hC,⟨hpC,helC,hfC,hxC⟩,ho,hfr⟩ hnC heC hrC
   have keyC:∀ (j2:Nat) (ys2:List α) (J3:yLO) (t:List IV),(a<=j2/\j2<=j)->(ys2.Perm xs/\Else xs ys2 a c/\PF r ys2 a c i2 j2 y0/\(j<i2∨∃ y,ys2[i2]?=some y/\¬ r y y0<0))->(j2<i2∨∃ y,ys2[j2]?=some y/\r y y0<0)->Slots 178 t [(0,.slM d b 0 n cp X.sz tg),(1,iv a),(4,.fn gf [] caps),(12,iv i2),(13,iv j2)]->KC (.exit 2) ⟨t,Bk own0 b (ys2.flatMap g)++J3⟩:=by
    clear hjC hC hpC helC hfC hxC hfr ho hnC hrC j2 ys2 J3 t own
    intro j2 ys2 J3 t hC ⟨hpC,helC,hfC,hxC⟩ hzC hfr
    simp only [V3] at hfr
    refine heC _ _ ?_
    simp only [V0,sevalprocAttr,hfr]
    by_cases hg:j2<i2
    ·simp only [V0,sevalprocAttr,hfr,L1,L2 hb hE,hg]
     have ha:a<n:=by omega
     have hj:j2<n:=by omega
     have hly:ys2.length=n:=hpC.length_eq.trans hl0
     obtain ⟨x,hx⟩:=gx (l:=ys2) (i:=j2) (by omega)
     have lx:=hE.ld hx
     obtain ⟨y,hy⟩:=gx (l:=ys2) (i:=a) (by omega)
     have ly:=hE.ld hy
     simp only [V0,sevalprocAttr,hfr,L1,L2 hb hE,ha,hj,hly,lx,ly]
     refine ⟨by simp [comm],?_⟩
     simp only [V0,sevalprocAttr,hfr,zr]
     rw [hfC.piv] at hy
     cases hy
     have hdv:=hfC.done hg (by omega) (by omega) (by omega) hx
     clear hxB hxC hzC
     exact ⟨_,rfl,_,_,j2,_,rfl,rfl,⟨(zD hx hfC.piv).trans hpC,helC.trans (zE (by omega) (by omega) (by omega) (by omega)),_,hy0,hdv⟩,by omega,by omega⟩
    ·have hi:i2<n:=by omega
     have hj:j2<n:=by omega
     have hly:ys2.length=n:=hpC.length_eq.trans hl0
     have e3:wrapI .i64 ((i2:Int)+1)=((i2+1:Nat):Int):=we
     have e4:wrapI .i64 ((j2:Int) - 1)=((j2 - 1:Nat):Int):=we
     obtain ⟨x,hx⟩:=gx (l:=ys2) (i:=i2) (by omega)
     have lx:=hE.ld hx
     obtain ⟨y,hy⟩:=gx (l:=ys2) (i:=j2) (by omega)
     have ly:=hE.ld hy
     simp only [V0,sevalprocAttr,hfr,L1,L2 hb hE,hg,hi,hj,hly,lx,ly]
     refine ⟨by simp [comm],?_⟩
     simp only [V0,sevalprocAttr,hfr,L1,L2 hb hE,e3,e4]
     have q1:¬ j<i2:=by clear hxB hxC hzC; omega
     have hu2:¬ r x y0<0:=by
      rcases hxC with h | ⟨u,hu,hu2⟩
      ·exact absurd h q1
      ·rw [hx] at hu
       cases hu
       exact hu2
     have hw2:r y y0<0:=by
      rcases hzC with h | ⟨w,hw,hw2⟩
      ·exact absurd h hg
      ·rw [hy] at hw
       cases hw
       exact hw2
     clear hxC hzC hxB
     refine zb (fun jj st=>∃ (i:Nat) (j:Nat) (ys:List α) (J1:yLO),j+1 - i<=jj/\(a+1<=i/\i<=c)/\(a<=j/\j<c)/\(ys.Perm xs/\Else xs ys a c/\PF r ys a c i j y0)/\st.own=Bk own0 b (ys.flatMap g)++J1/\Slots 178 st.t [(0,.slM d b 0 n cp X.sz tg),(1,iv a),(4,.fn gf [] caps),(12,iv i),(13,iv j)]) (c+1) (by omega) ⟨i2+1,j2 - 1,_,_,by omega,by omega,by omega,⟨(zD hx hy).trans hpC,helC.trans (zE (by omega) (by omega) (by omega) (by omega)),hfC.swap (by omega) (by omega) (by omega) (by omega) hx hy hu2 hw2⟩,rfl,by simp only [V0,sevalprocAttr,hfr]⟩ ?_
     clear hu2 hw2 lx ly hx hy x y
     rintro jjA ⟨t,own⟩ KA ⟨i4,j4,ys3,J3,hjj,h1,h2,⟨hp,hel,hf⟩,ho,hfr⟩ hnA heA hrA
     dsimp only at ho hfr
     subst ho
     simp only [V3] at hfr
     simp only [V0,sevalprocAttr,hfr]
     refine zb (fun jj st=>∃ (i3:Nat) (ys4:List α) (J4:yLO),n - i3<=jj/\(i4<=i3/\i3<=c)/\(ys4.Perm xs/\Else xs ys4 a c/\PF r ys4 a c i3 j4 y0)/\st.own=Bk own0 b (ys4.flatMap g)++J4/\Slots 178 st.t [(0,.slM d b 0 n cp X.sz tg),(1,iv a),(4,.fn gf [] caps),(12,iv i3),(13,iv j4)]) n (by omega) ⟨i4,ys3,_,by omega,by omega,⟨hp,hel,hf⟩,rfl,by simp only [V0,sevalprocAttr,hfr]⟩ ?_
     rintro jjD ⟨t,own⟩ KD ⟨i3,ys4,J4,hjD,hD,⟨hpD,helD,hfD⟩,ho,hfr⟩ hnD heD hrD
     have keyD:∀ (i3:Nat) (ys4:List α) (J4:yLO) (t:List IV),(i4<=i3/\i3<=c)->(ys4.Perm xs/\Else xs ys4 a c/\PF r ys4 a c i3 j4 y0)->(j4<i3∨∃ y,ys4[i3]?=some y/\¬ r y y0<0)->Slots 178 t [(0,.slM d b 0 n cp X.sz tg),(1,iv a),(4,.fn gf [] caps),(12,iv i3),(13,iv j4)]->KD (.exit 6) ⟨t,Bk own0 b (ys4.flatMap g)++J4⟩:=by
      clear hjD hD hpD helD hfD hfr ho hnD hrD i3 ys4 J4 t own
      intro i3 ys4 J4 t hD ⟨hpD,helD,hfD⟩ hxD hfr
      simp only [V3] at hfr
      refine heD _ _ ?_
      simp only [V0,sevalprocAttr,hfr]
      refine zb (fun jj st=>∃ (j3:Nat) (ys5:List α) (J5:yLO),j3<=jj/\(a<=j3/\j3<=j4)/\(ys5.Perm xs/\Else xs ys5 a c/\PF r ys5 a c i3 j3 y0/\(j4<i3∨∃ y,ys5[i3]?=some y/\¬ r y y0<0))/\st.own=Bk own0 b (ys5.flatMap g)++J5/\Slots 178 st.t [(0,.slM d b 0 n cp X.sz tg),(1,iv a),(4,.fn gf [] caps),(12,iv i3),(13,iv j3)]) n (by omega) ⟨j4,ys4,J4,by omega,by omega,⟨hpD,helD,hfD,hxD⟩,rfl,by simp only [V0,sevalprocAttr,hfr]⟩ ?_
      rintro jjG ⟨t,own⟩ KG ⟨j3,ys5,J5,hjG,hG,⟨hpE,helE,hfE,hxE⟩,ho,hfr⟩ hnG heG hrG
      have keyG:∀ (j3:Nat) (ys5:List α) (J5:yLO) (t:List IV),(a<=j3/\j3<=j4)->(ys5.Perm xs/\Else xs ys5 a c/\PF r ys5 a c i3 j3 y0/\(j4<i3∨∃ y,ys5[i3]?=some y/\¬ r y y0<0))->(j3<i3∨∃ y,ys5[j3]?=some y/\r y y0<0)->Slots 178 t [(0,.slM d b 0 n cp X.sz tg),(1,iv a),(4,.fn gf [] caps),(12,iv i3),(13,iv j3)]->KG (.exit 8) ⟨t,Bk own0 b (ys5.flatMap g)++J5⟩:=by
       clear hjG hG hpE helE hfE hxE hfr ho hnG hrG j3 ys5 J5 t own
       intro j3 ys5 J5 t hG ⟨hpE,helE,hfE,hxE⟩ hzE hfr
       simp only [V3] at hfr
       refine heG _ _ ?_
       simp only [V0,sevalprocAttr,hfr]
       by_cases hg:j3<i3
       ·simp only [V0,sevalprocAttr,hfr,L1,L2 hb hE,hg]
        refine heA _ _ ?_
        simp only [V0,sevalprocAttr,hfr]
        have ha:a<n:=by omega
        have hj:j3<n:=by omega
        have hly:ys5.length=n:=hpE.length_eq.trans hl0
        obtain ⟨x,hx⟩:=gx (l:=ys5) (i:=j3) (by omega)
        have lx:=hE.ld hx
        obtain ⟨y,hy⟩:=gx (l:=ys5) (i:=a) (by omega)
        have ly:=hE.ld hy
        simp only [V0,sevalprocAttr,hfr,L1,L2 hb hE,ha,hj,hly,lx,ly]
        refine ⟨by simp [comm],?_⟩
        simp only [V0,sevalprocAttr,hfr,zr]
        rw [hfE.piv] at hy
        cases hy
        have hdv:=hfE.done hg (by omega) (by omega) (by omega) hx
        clear hxE hzE hxD
        exact ⟨_,rfl,_,_,j3,_,rfl,rfl,⟨(zD hx hfE.piv).trans hpE,helE.trans (zE (by omega) (by omega) (by omega) (by omega)),_,hy0,hdv⟩,by omega,by omega⟩
       ·have hi:i3<n:=by omega
        have hj:j3<n:=by omega
        have hly:ys5.length=n:=hpE.length_eq.trans hl0
        have e3:wrapI .i64 ((i3:Int)+1)=((i3+1:Nat):Int):=we
        have e4:wrapI .i64 ((j3:Int) - 1)=((j3 - 1:Nat):Int):=we
        obtain ⟨x,hx⟩:=gx (l:=ys5) (i:=i3) (by omega)
        have lx:=hE.ld hx
        obtain ⟨y,hy⟩:=gx (l:=ys5) (i:=j3) (by omega)
        have ly:=hE.ld hy
        simp only [V0,sevalprocAttr,hfr,L1,L2 hb hE,hg,hi,hj,hly,lx,ly]
        refine ⟨by simp [comm],?_⟩
        simp only [V0,sevalprocAttr,hfr,e3,e4]
        have q1:¬ j4<i3:=by clear hxE hzE hxD; omega
        have hu2:¬ r x y0<0:=by
         rcases hxE with h | ⟨u,hu,hu2⟩
         ·exact absurd h q1
         ·rw [hx] at hu
          cases hu
          exact hu2
        have hw2:r y y0<0:=by
         rcases hzE with h | ⟨w,hw,hw2⟩
         ·exact absurd h hg
         ·rw [hy] at hw
          cases hw
          exact hw2
        clear hxE hzE hxD
        exact hnA _ (j3 - 1+1 - (i3+1)) (by omega) ⟨i3+1,j3 - 1,_,_,zcs _,by omega,by omega,⟨(zD hx hy).trans hpE,helE.trans (zE (by omega) (by omega) (by omega) (by omega)),hfE.swap (by omega) (by omega) (by omega) (by omega) hx hy hu2 hw2⟩,rfl,by simp only [V0,sevalprocAttr,hfr]⟩
      dsimp only at ho hfr
      subst ho
      simp only [V3] at hfr
      have hly:ys5.length=n:=hpE.length_eq.trans hl0
      by_cases h:i3<=j3
      ·have hi:j3<n:=by omega
       have hj:a<n:=by omega
       have e3:wrapI .i64 ((j3:Int) - 1)=((j3 - 1:Nat):Int):=we
       obtain ⟨x,hx⟩:=gx (l:=ys5) (i:=j3) (by omega)
       have lx:=hE.ld hx
       obtain ⟨y,hy⟩:=gx (l:=ys5) (i:=a) (by omega)
       have ly:=hE.ld hy
       have cc:=fun ownV own id=>hc m (by omega) ownV own id x y
       cases hlt:decide (r x y<0)
       ·simp only [V0,sevalprocAttr,hfr,L1,L2 hb hE,h,hi,hj,hly,lx,ly,cc,hlt]
        refine ⟨by simp [comm],?_⟩
        simp only [V0,sevalprocAttr,hfr,e3]
        rw [hfE.piv] at hy
        cases hy
        exact hnG _ (j3 - 1) (by omega) ⟨j3 - 1,ys5,_,by omega,by omega,⟨hpE,helE,hfE.down hx (of_decide_eq_false hlt),hxE⟩,rfl,by simp only [V0,sevalprocAttr,hfr]⟩
       ·simp only [V0,sevalprocAttr,hfr,L1,L2 hb hE,h,hi,hj,hly,lx,ly,cc,hlt]
        refine ⟨by simp [comm],?_⟩
        simp only [V0,sevalprocAttr,hfr,e3]
        rw [hfE.piv] at hy
        cases hy
        exact keyG j3 ys5 _ _ hG ⟨hpE,helE,hfE,hxE⟩ (.inr ⟨_,hx,of_decide_eq_true hlt⟩) (by simp only [V0,sevalprocAttr,hfr])
      ·simp only [V0,sevalprocAttr,hfr,h,Int.ofNat_le]
       refine ⟨by simp [comm],?_⟩
       simp only [V0,sevalprocAttr,hfr]
       exact keyG j3 ys5 _ _ hG ⟨hpE,helE,hfE,hxE⟩ (.inl (by omega)) (by simp only [V0,sevalprocAttr,hfr])
     dsimp only at ho hfr
     subst ho
     simp only [V3] at hfr
     have hly:ys4.length=n:=hpD.length_eq.trans hl0
     by_cases h:i3<=j4
     ·have hi:i3<n:=by omega
      have hj:a<n:=by omega
      have e3:wrapI .i64 ((i3:Int)+1)=((i3+1:Nat):Int):=we
      obtain ⟨x,hx⟩:=gx (l:=ys4) (i:=i3) (by omega)
      have lx:=hE.ld hx
      obtain ⟨y,hy⟩:=gx (l:=ys4) (i:=a) (by omega)
      have ly:=hE.ld hy
      have cc:=fun ownV own id=>hc m (by omega) ownV own id x y
      cases hlt:decide (r x y<0)
      ·simp only [V0,sevalprocAttr,hfr,L1,L2 hb hE,h,hi,hj,hly,lx,ly,cc,hlt]
       refine ⟨by simp [comm],?_⟩
       simp only [V0,sevalprocAttr,hfr,e3]
       rw [hfD.piv] at hy
       cases hy
       exact keyD i3 ys4 _ _ hD ⟨hpD,helD,hfD⟩ (.inr ⟨_,hx,of_decide_eq_false hlt⟩) (by simp only [V0,sevalprocAttr,hfr])
      ·simp only [V0,sevalprocAttr,hfr,L1,L2 hb hE,h,hi,hj,hly,lx,ly,cc,hlt]
       refine ⟨by simp [comm],?_⟩
       simp only [V0,sevalprocAttr,hfr,e3]
       rw [hfD.piv] at hy
       cases hy
       exact hnD _ (n - (i3+1)) (by omega) ⟨i3+1,ys4,_,by omega,by omega,⟨hpD,helD,hfD.up hx (of_decide_eq_true hlt)⟩,rfl,by simp only [V0,sevalprocAttr,hfr]⟩
     ·simp only [V0,sevalprocAttr,hfr,h,Int.ofNat_le]
      refine ⟨by simp [comm],?_⟩
      simp only [V0,sevalprocAttr,hfr]
      exact keyD i3 ys4 _ _ hD ⟨hpD,helD,hfD⟩ (.inl (by omega)) (by simp only [V0,sevalprocAttr,hfr])
   dsimp only at ho hfr
   subst ho
   simp only [V3] at hfr
   have hly:ys2.length=n:=hpC.length_eq.trans hl0
   by_cases h:i2<=j2
   ·have hi:j2<n:=by omega
    have hj:a<n:=by omega
    have e3:wrapI .i64 ((j2:Int) - 1)=((j2 - 1:Nat):Int):=we
    obtain ⟨x,hx⟩:=gx (l:=ys2) (i:=j2) (by omega)
    have lx:=hE.ld hx
    obtain ⟨y,hy⟩:=gx (l:=ys2) (i:=a) (by omega)
    have ly:=hE.ld hy
    have cc:=fun ownV own id=>hc m (by omega) ownV own id x y
    cases hlt:decide (r x y<0)
    ·simp only [V0,sevalprocAttr,hfr,L1,L2 hb hE,h,hi,hj,hly,lx,ly,cc,hlt]
     refine ⟨by simp [comm],?_⟩
     simp only [V0,sevalprocAttr,hfr,e3]
     rw [hfC.piv] at hy
     cases hy
     exact hnC _ (j2 - 1) (by omega) ⟨j2 - 1,ys2,_,by omega,by omega,⟨hpC,helC,hfC.down hx (of_decide_eq_false hlt),hxC⟩,rfl,by simp only [V0,sevalprocAttr,hfr]⟩
    ·simp only [V0,sevalprocAttr,hfr,L1,L2 hb hE,h,hi,hj,hly,lx,ly,cc,hlt]
     refine ⟨by simp [comm],?_⟩
     simp only [V0,sevalprocAttr,hfr,e3]
     rw [hfC.piv] at hy
     cases hy
     exact keyC j2 ys2 _ _ hC ⟨hpC,helC,hfC,hxC⟩ (.inr ⟨_,hx,of_decide_eq_true hlt⟩) (by simp only [V0,sevalprocAttr,hfr])
   ·simp only [V0,sevalprocAttr,hfr,h,Int.ofNat_le]
    refine ⟨by simp [comm],?_⟩
    simp only [V0,sevalprocAttr,hfr]
    exact keyC j2 ys2 _ _ hC ⟨hpC,helC,hfC,hxC⟩ (.inl (by omega)) (by simp only [V0,sevalprocAttr,hfr])
  dsimp only at ho hfr
  subst ho
  simp only [V3] at hfr
  have hly:ys1.length=n:=hpB.length_eq.trans hl0
  by_cases h:i2<=j
  ·have hi:i2<n:=by omega
   have hj:a<n:=by omega
   have e3:wrapI .i64 ((i2:Int)+1)=((i2+1:Nat):Int):=we
   obtain ⟨x,hx⟩:=gx (l:=ys1) (i:=i2) (by omega)
   have lx:=hE.ld hx
   obtain ⟨y,hy⟩:=gx (l:=ys1) (i:=a) (by omega)
   have ly:=hE.ld hy
   have cc:=fun ownV own id=>hc m (by omega) ownV own id x y
   cases hlt:decide (r x y<0)
   ·simp only [V0,sevalprocAttr,hfr,L1,L2 hb hE,h,hi,hj,hly,lx,ly,cc,hlt]
    refine ⟨by simp [comm],?_⟩
    simp only [V0,sevalprocAttr,hfr,e3]
    rw [hfB.piv] at hy
    cases hy
    exact keyB i2 ys1 _ _ hB ⟨hpB,helB,hfB⟩ (.inr ⟨_,hx,of_decide_eq_false hlt⟩) (by simp only [V0,sevalprocAttr,hfr])
   ·simp only [V0,sevalprocAttr,hfr,L1,L2 hb hE,h,hi,hj,hly,lx,ly,cc,hlt]
    refine ⟨by simp [comm],?_⟩
    simp only [V0,sevalprocAttr,hfr,e3]
    rw [hfB.piv] at hy
    cases hy
    exact hnB _ (n - (i2+1)) (by omega) ⟨i2+1,ys1,_,by omega,by omega,⟨hpB,helB,hfB.up hx (of_decide_eq_true hlt)⟩,rfl,by simp only [V0,sevalprocAttr,hfr]⟩
  ·simp only [V0,sevalprocAttr,hfr,h,Int.ofNat_le]
   refine ⟨by simp [comm],?_⟩
   simp only [V0,sevalprocAttr,hfr]
   exact keyB i2 ys1 _ _ hB ⟨hpB,helB,hfB⟩ (.inl (by omega)) (by simp only [V0,sevalprocAttr,hfr])
 obtain ⟨v,own',h1,xs',J',q,w,rfl,rfl,h2⟩:=main
 exact ⟨xs',J',q,w,h1,h2⟩
end
end
section
section
variable {X:SF} {S:ySM} {α:Type} {g:α->List IV} {e:α->IV} {own0:yLO} {b d:Nat} {out:yLM} {n cp:Nat} {tg:Bool} {gf:FuncId} {caps:List IV} {r:α->α->Int} {Nc:Nat}
theorem x_partS (hr0:Orders r) (hFm:FamOK S X) (hS:NoS S) (hb:b<own0.length) (hE:Elt g e X.sz X.ag) (hc:CmpOK S Nc d out own0 b e gf caps r) (hn:n<65536) (m:Nat) (hm:Nc+n+12<=m) (ownV:yLO) (xs:List α) (J:yLO) (a c:Nat) (hl0:xs.length=n) (hac:a<c) (hcn:c<=n) (hpre:Pre r xs a c) :
  ∃ (xs':List α) (J':yLO) (w:Bool),(∀ id,callN Ftab S m d out ownV (Bk own0 b (xs.flatMap g)++J) id X.part [.slM d b 0 n cp X.sz tg,.int .i64 (a:Int),.int .i64 (c:Int),.fn gf [] caps]=some (.x,.bool w,Bk own0 b (xs'.flatMap g)++J'))/\xs'.Perm xs/\Else xs xs' a c/\(w=true->Srt r xs' a c):=by
 obtain ⟨m,rfl⟩:∃ q,m=q+1:=⟨m - 1,by omega⟩
 have main:∃ v own',(∀ id,callN Ftab S (m+1) d out ownV (Bk own0 b (xs.flatMap g)++J) id X.part [.slM d b 0 n cp X.sz tg,.int .i64 (a:Int),.int .i64 (c:Int),.fn gf [] caps]=some (.x,v,own'))/\(∃ (xs':List α) (J':yLO) (w:Bool),v=.bool w/\own'=Bk own0 b (xs'.flatMap g)++J'/\xs'.Perm xs/\Else xs xs' a c/\(w=true->Srt r xs' a c)):=by
  refine zX (i:=cPart X) (hFm.part.1 _) hFm.part.2 rfl (lb rfl) fun t hfr=>?_
  simp only [V2,Nat.reduceAdd,cPart] at hfr
  have e1:wrapI .i64 ((a:Int)+1)=((a+1:Nat):Int):=we
  simp only [cPart,V0,sevalprocAttr,hfr,e1]
  refine zb (fun jj st=>∃ (i:Nat) (k:Nat) (ys:List α) (J1:yLO),5 - k<=jj/\(a+1<=i/\i<=c/\k<=5)/\(ys.Perm xs/\Else xs ys a c/\Srt r ys a i)/\st.own=Bk own0 b (ys.flatMap g)++J1/\Slots 141 st.t [(0,.slM d b 0 n cp X.sz tg),(1,iv a),(2,iv c),(3,.fn gf [] caps),(9,iv i),(10,iv k)]) 5 (by omega) ⟨a+1,0,xs,J,by omega,by omega,⟨List.Perm.refl _,Else.refl _ _ _,Srt.small (zcs _)⟩,rfl,by simp only [V0,sevalprocAttr,hfr,zcp]⟩ ?_
  rintro jjA ⟨t,own⟩ KA ⟨i,k,ys,J1,hjj,h1,⟨hp,hel,hso⟩,ho,hfr⟩ hnA heA hrA
  dsimp only at ho hfr
  subst ho
  simp only [V3] at hfr
  by_cases h5:(k:Int)<5
  ·simp only [V0,sevalprocAttr,hfr,h5]
   refine zb (fun jj st=>∃ (i2:Nat) (zs:List α) (J2:yLO),n - i2<=jj/\(i<=i2/\i2<=c)/\(zs.Perm xs/\Else xs zs a c/\Srt r zs a i2)/\st.own=Bk own0 b (zs.flatMap g)++J2/\Slots 141 st.t [(0,.slM d b 0 n cp X.sz tg),(1,iv a),(2,iv c),(3,.fn gf [] caps),(9,iv i2),(10,iv k)]) n (by omega) ⟨i,_,_,by omega,by omega,⟨hp,hel,hso⟩,rfl,by simp only [V0,sevalprocAttr,hfr]⟩ ?_
   rintro jjB ⟨t,own⟩ KB ⟨i2,zs,J2,hjB,cnB,⟨hpB,helB,hsB⟩,ho,hfr⟩ hnB heB hrB
   have keyB:∀ (i2:Nat) (zs:List α) (J2:yLO) (t:List IV),(i<=i2/\i2<=c)->(zs.Perm xs/\Else xs zs a c/\Srt r zs a i2)->Slots 141 t [(0,.slM d b 0 n cp X.sz tg),(1,iv a),(2,iv c),(3,.fn gf [] caps),(9,iv i2),(10,iv k)]->KB (.exit 2) ⟨t,Bk own0 b (zs.flatMap g)++J2⟩:=by
    clear hjB cnB hpB helB hsB hfr ho hnB hrB i2 zs J2 t own
    intro i2 zs J2 t cnB ⟨hpB,helB,hsB⟩ hfr
    simp only [V3] at hfr
    refine heB _ _ ?_
    simp only [V0,sevalprocAttr,hfr]
    by_cases hic:i2=c
    ·have hbe:((i2:Int)==(c:Int))=true:=by simp [hic]
     simp only [V0,sevalprocAttr,hfr,hbe]
     refine hrA _ ?_
     simp only [V0,sevalprocAttr,hfr,zr,res1]
     exact ⟨_,rfl,zs,_,_,rfl,rfl,hpB,helB,fun _=>hic ▸ hsB⟩
    ·have hbe:((i2:Int)==(c:Int))=false:=by
      rw [beq_eq_false_iff_ne]
      omega
     have e5:wrapI .i64 ((c:Int) - (a:Int))=((c - a:Nat):Int):=we
     by_cases h50:((c - a:Nat):Int)<50
     ·simp only [V0,sevalprocAttr,hfr,hbe,e5,h50]
      refine hrA _ ?_
      simp only [V0,sevalprocAttr,hfr,zr,res1]
      exact ⟨_,rfl,zs,_,_,rfl,rfl,hpB,helB,fun h=>absurd h (by simp)⟩
     ·have hi:i2<n:=by omega
      have hj:i2 - 1<n:=by omega
      have hly:zs.length=n:=hpB.length_eq.trans hl0
      have e3:wrapI .i64 ((i2:Int) - 1)=((i2 - 1:Nat):Int):=we
      have e6:wrapI .i64 ((i2:Int) - (a:Int))=((i2 - a:Nat):Int):=we
      obtain ⟨x,hx⟩:=gx (l:=zs) (i:=i2) (by omega)
      have lx:=hE.ld hx
      obtain ⟨y,hy⟩:=gx (l:=zs) (i:=i2 - 1) (by omega)
      have ly:=hE.ld hy
      have hls:((zs.set i2 y).set (i2 - 1) x).length=n:=by rw [List.length_set,List.length_set]; exact hly
      have hps:((zs.set i2 y).set (i2 - 1) x).Perm xs:=(zD hx hy).trans hpB
      have hes:Else zs ((zs.set i2 y).set (i2 - 1) x) (i2 - 1) (i2+1):=zE (by omega) (by omega) (by omega) (by omega)
      have hees:Else xs ((zs.set i2 y).set (i2 - 1) x) a c:=helB.trans (hes.wide (by omega) (by omega))
      have hss:Srt r ((zs.set i2 y).set (i2 - 1) x) a (i2 - 1):=(hsB.mono (zcs _) (by omega)).else hes (.inl (zcs _))
      simp only [V0,sevalprocAttr,hfr,L1,L2 hb hE,hbe,e5,h50,e3,hi,hj,hly,lx,ly]
      refine ⟨by simp [comm],?_⟩
      clear lx ly
      generalize (zs.set i2 y).set (i2 - 1) x=us at hls hps hees hss ⊢
      clear hes hx hy
      by_cases h2:(2:Int)<=((i2 - a:Nat):Int)
      ·simp only [V0,sevalprocAttr,hfr,L1,L2 hb hE,e6,h2,e3]
       refine zb (fun jj st=>∃ (j4:Nat) (vs:List α) (J4:yLO),j4<=jj/\(a<=j4/\j4<i2)/\(vs.Perm xs/\Else xs vs a c/\Ins r vs a j4 (i2 - 1))/\st.own=Bk own0 b (vs.flatMap g)++J4/\Slots 141 st.t [(0,.slM d b 0 n cp X.sz tg),(1,iv a),(2,iv c),(3,.fn gf [] caps),(9,iv i2),(10,iv k),(11,iv j4)]) n (by omega) ⟨i2 - 1,_,_,by omega,by omega,⟨hps,hees,Ins.start hss⟩,rfl,by simp only [V0,sevalprocAttr,hfr]⟩ ?_
       rintro jjC ⟨t,own⟩ KC ⟨j4,vs,J4,hjC,cnC,⟨hpC,helC,hsC⟩,ho,hfr⟩ hnC heC hrC
       have keyC:∀ (j4:Nat) (vs:List α) (J4:yLO) (t:List IV),(a<=j4/\j4<i2)->(vs.Perm xs/\Else xs vs a c/\Ins r vs a j4 (i2 - 1))->(j4<=a∨∃ x y,vs[j4]?=some x/\vs[j4 - 1]?=some y/\¬ r x y<0)->Slots 141 t [(0,.slM d b 0 n cp X.sz tg),(1,iv a),(2,iv c),(3,.fn gf [] caps),(9,iv i2),(10,iv k),(11,iv j4)]->KC (.exit 4) ⟨t,Bk own0 b (vs.flatMap g)++J4⟩:=by
        clear hjC cnC hpC helC hsC hfr ho hnC hrC j4 vs J4 t own
        intro j4 vs J4 t cnC ⟨hpC,helC,hsC⟩ hxC hfr
        simp only [V3] at hfr
        refine heC _ _ ?_
        simp only [V0,sevalprocAttr,hfr]
        have hsC:=hsC.done hr0 (by clear hxC; omega) (by clear hxC; have:=hpC.length_eq; omega) hxC cnC.1
        clear hxC
        rw [show i2 - 1+1=i2 by omega] at hsC
        have e7:wrapI .i64 ((c:Int) - (i2:Int))=((c - i2:Nat):Int):=we
        by_cases h3:(2:Int)<=((c - i2:Nat):Int)
        ·have e8:wrapI .i64 ((i2:Int)+1)=((i2+1:Nat):Int):=we
         simp only [V0,sevalprocAttr,hfr,L1,L2 hb hE,e7,h3,e8]
         refine zb (fun jj st=>∃ (j5:Nat) (ws:List α) (J5:yLO),n - j5<=jj/\(i2+1<=j5/\j5<=c)/\(ws.Perm xs/\Else xs ws a c/\Srt r ws a i2)/\st.own=Bk own0 b (ws.flatMap g)++J5/\Slots 141 st.t [(0,.slM d b 0 n cp X.sz tg),(1,iv a),(2,iv c),(3,.fn gf [] caps),(9,iv i2),(10,iv k),(12,iv j5)]) n (by omega) ⟨i2+1,_,_,by omega,by omega,⟨hpC,helC,hsC⟩,rfl,by simp only [V0,sevalprocAttr,hfr]⟩ ?_
         rintro jjD1 ⟨t,own⟩ KD1 ⟨j5,ws,J5,hjD1,cnD1,⟨hpD,helD,hsD⟩,ho,hfr⟩ hnD1 heD1 hrD1
         have keyD1:∀ (j5:Nat) (ws:List α) (J5:yLO) (t:List IV),(i2+1<=j5/\j5<=c)->(ws.Perm xs/\Else xs ws a c/\Srt r ws a i2)->Slots 141 t [(0,.slM d b 0 n cp X.sz tg),(1,iv a),(2,iv c),(3,.fn gf [] caps),(9,iv i2),(10,iv k),(12,iv j5)]->KD1 (.exit 6) ⟨t,Bk own0 b (ws.flatMap g)++J5⟩:=by
          clear hjD1 cnD1 hpD helD hsD hfr ho hnD1 hrD1 j5 ws J5 t own
          intro j5 ws J5 t cnD1 ⟨hpD,helD,hsD⟩ hfr
          simp only [V3] at hfr
          refine heD1 _ _ ?_
          simp only [V0,sevalprocAttr,hfr]
          have e9:wrapI .i64 ((k:Int)+1)=((k+1:Nat):Int):=we
          simp only [V0,sevalprocAttr,hfr,e9]
          exact hnA _ (5 - (k+1)) (by omega) ⟨i2,k+1,ws,_,by omega,by omega,⟨hpD,helD,hsD⟩,rfl,by simp only [V0,sevalprocAttr,hfr]⟩
         dsimp only at ho hfr
         subst ho
         simp only [V3] at hfr
         have hly:ws.length=n:=hpD.length_eq.trans hl0
         by_cases h:j5<c
         ·have hi:j5<n:=by omega
          have hj:j5 - 1<n:=by omega
          have e3:wrapI .i64 ((j5:Int) - 1)=((j5 - 1:Nat):Int):=we
          have e4:wrapI .i64 ((j5:Int)+1)=((j5+1:Nat):Int):=we
          obtain ⟨x,hx⟩:=gx (l:=ws) (i:=j5) (by omega)
          have lx:=hE.ld hx
          obtain ⟨y,hy⟩:=gx (l:=ws) (i:=j5 - 1) (by omega)
          have ly:=hE.ld hy
          have cc:=fun ownV own id=>hc m (by omega) ownV own id x y
          cases hlt:decide (r x y<0)
          ·simp only [V0,sevalprocAttr,hfr,L1,L2 hb hE,h,hi,hj,e3,hly,lx,ly,cc,hlt]
           refine ⟨by simp [comm],?_⟩
           simp only [V0,sevalprocAttr,hfr]
           exact keyD1 j5 ws _ _ cnD1 ⟨hpD,helD,hsD⟩ (by simp only [V0,sevalprocAttr,hfr])
          ·simp only [V0,sevalprocAttr,hfr,L1,L2 hb hE,h,hi,hj,e3,hly,lx,ly,cc,hlt]
           refine ⟨by simp [comm],?_⟩
           simp only [V0,sevalprocAttr,hfr,L1,L2 hb hE,h,hi,hj,e3,hly,lx,ly]
           refine ⟨by simp [comm],?_⟩
           simp only [V0,sevalprocAttr,hfr,e3,e4]
           exact hnD1 _ (n - (j5+1)) (by omega) ⟨j5+1,_,_,by omega,by omega,⟨(zD hx hy).trans hpD,helD.trans (zE (by omega) (by omega) (by omega) (by omega)),hsD.else (zE (a:=i2) (c:=c) (by omega) (by omega) (by omega) (by omega)) (.inl (zcs _))⟩,rfl,by simp only [V0,sevalprocAttr,hfr]⟩
         ·simp only [V0,sevalprocAttr,hfr,L1,L2 hb hE,h]
          exact keyD1 j5 ws _ _ cnD1 ⟨hpD,helD,hsD⟩ (by simp only [V0,sevalprocAttr,hfr])
        ·simp only [V0,sevalprocAttr,hfr,L1,L2 hb hE,e7,h3]
         have e9:wrapI .i64 ((k:Int)+1)=((k+1:Nat):Int):=we
         simp only [V0,sevalprocAttr,hfr,e9]
         exact hnA _ (5 - (k+1)) (by omega) ⟨i2,k+1,vs,_,by omega,by omega,⟨hpC,helC,hsC⟩,rfl,by simp only [V0,sevalprocAttr,hfr]⟩
       dsimp only at ho hfr
       subst ho
       simp only [V3] at hfr
       have hly:vs.length=n:=hpC.length_eq.trans hl0
       by_cases h:(1:Int)<=(j4:Int)
       ·have hi:j4<n:=by omega
        have hj:j4 - 1<n:=by omega
        have e3:wrapI .i64 ((j4:Int) - 1)=((j4 - 1:Nat):Int):=we
        have e4:True:=trivial
        obtain ⟨x,hx⟩:=gx (l:=vs) (i:=j4) (by omega)
        have lx:=hE.ld hx
        obtain ⟨y,hy⟩:=gx (l:=vs) (i:=j4 - 1) (by omega)
        have ly:=hE.ld hy
        have cc:=fun ownV own id=>hc m (by omega) ownV own id x y
        cases hlt:decide (r x y<0)
        ·simp only [V0,sevalprocAttr,hfr,L1,L2 hb hE,h,hi,hj,e3,hly,lx,ly,cc,hlt]
         refine ⟨by simp [comm],?_⟩
         simp only [V0,sevalprocAttr,hfr]
         exact keyC j4 vs _ _ cnC ⟨hpC,helC,hsC⟩ (.inr ⟨_,_,hx,hy,of_decide_eq_false hlt⟩) (by simp only [V0,sevalprocAttr,hfr])
        ·simp only [V0,sevalprocAttr,hfr,L1,L2 hb hE,h,hi,hj,e3,hly,lx,ly,cc,hlt]
         refine ⟨by simp [comm],?_⟩
         simp only [V0,sevalprocAttr,hfr,L1,L2 hb hE,h,hi,hj,e3,hly,lx,ly]
         refine ⟨by simp [comm],?_⟩
         simp only [V0,sevalprocAttr,hfr,e3,e4]
         have haj:a<j4:=by
          rcases Nat.lt_or_ge a j4 with h9 | h9
          ·exact h9
          ·have h9:j4=a:=Nat.le_antisymm h9 cnC.1
           exact absurd (of_decide_eq_true hlt) (hpre.at hpC helC (by omega) (by omega) (by omega) (h9 ▸ hy) hx)
         exact hnC _ ((j4 - 1)) (by omega) ⟨j4 - 1,_,_,by omega,by omega,⟨(zD hx hy).trans hpC,helC.trans (zE (by omega) (by omega) (by omega) (by omega)),hsC.step hr0 haj (by omega) (by omega) hx hy (of_decide_eq_true hlt)⟩,rfl,by simp only [V0,sevalprocAttr,hfr]⟩
       ·simp only [V0,sevalprocAttr,hfr,L1,L2 hb hE,h]
        exact keyC j4 vs _ _ cnC ⟨hpC,helC,hsC⟩ (.inl (by omega)) (by simp only [V0,sevalprocAttr,hfr])
      ·simp only [V0,sevalprocAttr,hfr,L1,L2 hb hE,e6,h2]
       have hsu:Srt r us a i2:=Srt.small (by omega)
       have e7:wrapI .i64 ((c:Int) - (i2:Int))=((c - i2:Nat):Int):=we
       by_cases h3:(2:Int)<=((c - i2:Nat):Int)
       ·have e8:wrapI .i64 ((i2:Int)+1)=((i2+1:Nat):Int):=we
        simp only [V0,sevalprocAttr,hfr,L1,L2 hb hE,e7,h3,e8]
        refine zb (fun jj st=>∃ (j5:Nat) (ws:List α) (J5:yLO),n - j5<=jj/\(i2+1<=j5/\j5<=c)/\(ws.Perm xs/\Else xs ws a c/\Srt r ws a i2)/\st.own=Bk own0 b (ws.flatMap g)++J5/\Slots 141 st.t [(0,.slM d b 0 n cp X.sz tg),(1,iv a),(2,iv c),(3,.fn gf [] caps),(9,iv i2),(10,iv k),(12,iv j5)]) n (by omega) ⟨i2+1,_,_,by omega,by omega,⟨hps,hees,hsu⟩,rfl,by simp only [V0,sevalprocAttr,hfr]⟩ ?_
        rintro jjD2 ⟨t,own⟩ KD2 ⟨j5,ws,J5,hjD2,cnD2,⟨hpD,helD,hsD⟩,ho,hfr⟩ hnD2 heD2 hrD2
        have keyD2:∀ (j5:Nat) (ws:List α) (J5:yLO) (t:List IV),(i2+1<=j5/\j5<=c)->(ws.Perm xs/\Else xs ws a c/\Srt r ws a i2)->Slots 141 t [(0,.slM d b 0 n cp X.sz tg),(1,iv a),(2,iv c),(3,.fn gf [] caps),(9,iv i2),(10,iv k),(12,iv j5)]->KD2 (.exit 6) ⟨t,Bk own0 b (ws.flatMap g)++J5⟩:=by
         clear hjD2 cnD2 hpD helD hsD hfr ho hnD2 hrD2 j5 ws J5 t own
         intro j5 ws J5 t cnD2 ⟨hpD,helD,hsD⟩ hfr
         simp only [V3] at hfr
         refine heD2 _ _ ?_
         simp only [V0,sevalprocAttr,hfr]
         have e9:wrapI .i64 ((k:Int)+1)=((k+1:Nat):Int):=we
         simp only [V0,sevalprocAttr,hfr,e9]
         exact hnA _ (5 - (k+1)) (by omega) ⟨i2,k+1,ws,_,by omega,by omega,⟨hpD,helD,hsD⟩,rfl,by simp only [V0,sevalprocAttr,hfr]⟩
        dsimp only at ho hfr
        subst ho
        simp only [V3] at hfr
        have hly:ws.length=n:=hpD.length_eq.trans hl0
        by_cases h:j5<c
        ·have hi:j5<n:=by omega
         have hj:j5 - 1<n:=by omega
         have e3:wrapI .i64 ((j5:Int) - 1)=((j5 - 1:Nat):Int):=we
         have e4:wrapI .i64 ((j5:Int)+1)=((j5+1:Nat):Int):=we
         obtain ⟨x,hx⟩:=gx (l:=ws) (i:=j5) (by omega)
         have lx:=hE.ld hx
         obtain ⟨y,hy⟩:=gx (l:=ws) (i:=j5 - 1) (by omega)
         have ly:=hE.ld hy
         have cc:=fun ownV own id=>hc m (by omega) ownV own id x y
         cases hlt:decide (r x y<0)
         ·simp only [V0,sevalprocAttr,hfr,L1,L2 hb hE,h,hi,hj,e3,hly,lx,ly,cc,hlt]
          refine ⟨by simp [comm],?_⟩
          simp only [V0,sevalprocAttr,hfr]
          exact keyD2 j5 ws _ _ cnD2 ⟨hpD,helD,hsD⟩ (by simp only [V0,sevalprocAttr,hfr])
         ·simp only [V0,sevalprocAttr,hfr,L1,L2 hb hE,h,hi,hj,e3,hly,lx,ly,cc,hlt]
          refine ⟨by simp [comm],?_⟩
          simp only [V0,sevalprocAttr,hfr,L1,L2 hb hE,h,hi,hj,e3,hly,lx,ly]
          refine ⟨by simp [comm],?_⟩
          simp only [V0,sevalprocAttr,hfr,e3,e4]
          exact hnD2 _ (n - (j5+1)) (by omega) ⟨j5+1,_,_,by omega,by omega,⟨(zD hx hy).trans hpD,helD.trans (zE (by omega) (by omega) (by omega) (by omega)),hsD.else (zE (a:=i2) (c:=c) (by omega) (by omega) (by omega) (by omega)) (.inl (zcs _))⟩,rfl,by simp only [V0,sevalprocAttr,hfr]⟩
        ·simp only [V0,sevalprocAttr,hfr,L1,L2 hb hE,h]
         exact keyD2 j5 ws _ _ cnD2 ⟨hpD,helD,hsD⟩ (by simp only [V0,sevalprocAttr,hfr])
       ·simp only [V0,sevalprocAttr,hfr,L1,L2 hb hE,e7,h3]
        have e9:wrapI .i64 ((k:Int)+1)=((k+1:Nat):Int):=we
        simp only [V0,sevalprocAttr,hfr,e9]
        exact hnA _ (5 - (k+1)) (by omega) ⟨i2,k+1,_,_,by omega,by omega,⟨hps,hees,hsu⟩,rfl,by simp only [V0,sevalprocAttr,hfr]⟩
   dsimp only at ho hfr
   subst ho
   simp only [V3] at hfr
   have hly:zs.length=n:=hpB.length_eq.trans hl0
   by_cases h:i2<c
   ·have hi:i2<n:=by omega
    have hj:i2 - 1<n:=by omega
    have e3:wrapI .i64 ((i2:Int) - 1)=((i2 - 1:Nat):Int):=we
    have e4:wrapI .i64 ((i2:Int)+1)=((i2+1:Nat):Int):=we
    obtain ⟨x,hx⟩:=gx (l:=zs) (i:=i2) (by omega)
    have lx:=hE.ld hx
    obtain ⟨y,hy⟩:=gx (l:=zs) (i:=i2 - 1) (by omega)
    have ly:=hE.ld hy
    have cc:=fun ownV own id=>hc m (by omega) ownV own id x y
    cases hlt:decide (r x y<0)
    ·simp only [V0,sevalprocAttr,hfr,L1,L2 hb hE,h,hi,hj,e3,hly,lx,ly,cc,hlt]
     refine ⟨by simp [comm],?_⟩
     simp only [V0,sevalprocAttr,hfr,e3,e4]
     exact hnB _ (n - (i2+1)) (by omega) ⟨i2+1,zs,_,by omega,by omega,⟨hpB,helB,hsB.ext hr0 hy hx (of_decide_eq_false hlt)⟩,rfl,by simp only [V0,sevalprocAttr,hfr]⟩
    ·simp only [V0,sevalprocAttr,hfr,L1,L2 hb hE,h,hi,hj,e3,hly,lx,ly,cc,hlt]
     refine ⟨by simp [comm],?_⟩
     simp only [V0,sevalprocAttr,hfr]
     exact keyB i2 zs _ _ cnB ⟨hpB,helB,hsB⟩ (by simp only [V0,sevalprocAttr,hfr])
   ·simp only [V0,sevalprocAttr,hfr,L1,L2 hb hE,h]
    refine ⟨by simp [comm],?_⟩
    simp only [V0,sevalprocAttr,hfr]
    exact keyB i2 zs _ _ cnB ⟨hpB,helB,hsB⟩ (by simp only [V0,sevalprocAttr,hfr])
  ·simp only [V0,sevalprocAttr,hfr,h5]
   refine heA _ _ ?_
   simp only [V0,sevalprocAttr,hfr,zr,res1]
   exact ⟨_,rfl,ys,_,_,rfl,rfl,hp,hel,fun h=>absurd h (by simp)⟩
 obtain ⟨v,own',h1,xs',J',w,rfl,rfl,h2⟩:=main
 exact ⟨xs',J',w,h1,h2⟩
end
end
section
section
variable {X:SF} {S:ySM} {α:Type} {g:α->List IV} {e:α->IV} {own0:yLO} {b d:Nat} {out:yLM} {n cp:Nat} {tg:Bool} {gf:FuncId} {caps:List IV} {r:α->α->Int} {Nc:Nat}
theorem x_brkS (hFm:FamOK S X) (hS:NoS S) (hb:b<own0.length) (hE:Elt g e X.sz X.ag) (hc:CmpOK S Nc d out own0 b e gf caps r) (hn:n<65536) (m:Nat) (hm:Nc+n+12<=m) (ownV:yLO) (xs:List α) (J:yLO) (a c:Nat) (hl0:xs.length=n) (hac:a+12<c) (hcn:c<=n) (hP:PowOK S Nc) :
  ∃ (xs':List α) (J':yLO),(∀ id,callN Ftab S m d out ownV (Bk own0 b (xs.flatMap g)++J) id X.brk [.slM d b 0 n cp X.sz tg,.int .i64 (a:Int),.int .i64 (c:Int),.fn gf [] caps]=some (.x,.tuple [],Bk own0 b (xs'.flatMap g)++J'))/\Mv xs xs' a c:=by
 obtain ⟨m,rfl⟩:∃ q,m=q+1:=⟨m - 1,by omega⟩
 have main:∃ v own',(∀ id,callN Ftab S (m+1) d out ownV (Bk own0 b (xs.flatMap g)++J) id X.brk [.slM d b 0 n cp X.sz tg,.int .i64 (a:Int),.int .i64 (c:Int),.fn gf [] caps]=some (.x,v,own'))/\(v=.tuple []/\∃ (xs':List α) (J':yLO),own'=Bk own0 b (xs'.flatMap g)++J'/\Mv xs xs' a c):=by
  refine zX (i:=cBrk X) (hFm.brk.1 _) hFm.brk.2 rfl (lb rfl) fun t hfr=>?_
  simp only [V2,Nat.reduceAdd,cBrk] at hfr
  have e1:wrapI .i64 ((c:Int) - (a:Int))=((c - a:Nat):Int):=we
  have h8:(8:Int)<=((c - a:Nat):Int):=by omega
  have hu:wrapI .u64 ((c - a:Nat):Int)=((c - a:Nat):Int):=by
   rw [zt]
   exact IntWalk.u64_in _ (by omega)
  have hpw:=hP (c - a) (by omega) (by omega) m (by omega)
  have hpl:=lenN_le (x:=c - a) (by omega) (by omega)
  have hpos:0<2 ^ lenN (c - a):=Nat.pow_pos (by omega)
  generalize 2 ^ lenN (c - a)=P at hpw hpl hpos
  have e2:wrapI .i64 (Int.tdiv ((c - a:Nat):Int) 4)=(((c - a) / 4:Nat):Int):=YH _ 4 (by omega)
  have e0:((4:Int)=0)=False:=eq_false (by decide)
  have hL1:4*((c - a) / 4)<=c - a:=Nat.mul_div_le _ _
  have hL2:3<=(c - a) / 4:=by omega
  generalize (c - a) / 4=L at e2 hL1 hL2
  have m2:wrapI .i64 ((L:Int)*2)=((L*2:Nat):Int):=we
  have a2:wrapI .i64 ((a:Int)+((L*2:Nat):Int))=((a+L*2:Nat):Int):=we
  have s1:wrapI .i64 (((a+L*2:Nat):Int) - 1)=((a+L*2 - 1:Nat):Int):=we
  have p1:wrapI .i64 (((a+L*2:Nat):Int)+1)=((a+L*2+1:Nat):Int):=we
  have hp1:wrapI .u64 ((P:Int) - 1)=((P - 1:Nat):Int):=by
   rw [zt,show (P:Int) - 1=((P - 1:Nat):Int) by omega]
   exact IntWalk.u64_in _ (by omega)
  simp only [cBrk,V0,sevalprocAttr,hfr,L1,L2 hb hE,yz,yF,yt,e0,e1,h8,hu,hpw,e2,m2,a2,s1,e_conv]
  refine zb (fun jj st=>∃ (i:Nat) (z:Int) (ys:List α) (J1:yLO),a+L*2+2 - i<=jj/\(a+L*2 - 1<=i/\i<=a+L*2+2)/\Mv xs ys a c/\st.own=Bk own0 b (ys.flatMap g)++(J++.cells [.int .u64 z]::J1)/\Slots 67 st.t [(0,.slM d b 0 n cp X.sz tg),(1,iv a),(8,iv (c - a:Nat)),(9,.ptrM d (own0.length+J.length) 0),(10,.int .u64 (P:Int)),(11,iv i)]) 3 (by omega) ⟨a+L*2 - 1,_,xs,_,by omega,by omega,Mv.refl _ _ _,rfl,by simp only [V0,sevalprocAttr,hfr,e1,e2,hpw]⟩ ?_
  rintro jj ⟨t,own⟩ KA ⟨i,z,ys,J1,hjj,h1,hp,ho,hfr⟩ hnA heA hrA
  dsimp only at ho hfr
  subst ho
  simp only [V3] at hfr
  have hly:ys.length=n:=hp.perm.length_eq.trans hl0
  by_cases h:i<=a+L*2+1
  ·have i1:wrapI .i64 ((i:Int)+1)=((i+1:Nat):Int):=we
   obtain ⟨w,J2,hnx⟩:=gives_next (d:=d) (out:=out) hS hb m (by omega) (ys.flatMap g) J (J1++[.free]) z
   obtain ⟨v,hv1,hv⟩:=mask_le w P hpos (by omega)
   have hcv:wrapI .i64 (v:Int)=(v:Int):=ZR rfl (by omega)
   simp only [V0,sevalprocAttr,hfr,L1,L2 hb hE,yz,yF,yt,e0,e2,m2,a2,p1,h,hnx,hp1,hv,hcv,e_conv]
   by_cases h2:c - a<=v
   ·have sv:wrapI .i64 ((v:Int) - ((c - a:Nat):Int))=((v - (c - a):Nat):Int):=we
    have o1:wrapI .i64 ((a:Int)+(((v - (c - a)):Nat):Int))=((a+(v - (c - a)):Nat):Int):=we
    have hi:i<n:=by omega
    have hj:a+(v - (c - a))<n:=by omega
    obtain ⟨x,hx⟩:=gx (l:=ys) (i:=i) (by omega)
    have lx:=hE.ld hx
    obtain ⟨y,hy⟩:=gx (l:=ys) (i:=a+(v - (c - a))) (by omega)
    have ly:=hE.ld hy
    simp only [V0,sevalprocAttr,hfr,L1,L2 hb hE,yz,yF,yt,h2,sv,o1,hi,hj,hly,lx,ly]
    refine ⟨by simp [comm],?_⟩
    simp only [V0,sevalprocAttr,hfr,i1]
    exact hnA _ (a+L*2+2 - (i+1)) (by omega) ⟨i+1,w,_,_,by omega,by omega,hp.swap (by omega) (by omega) (by omega) (by omega) (zD hx hy),rfl,by simp only [V0,sevalprocAttr,hfr]⟩
   ·have o1:wrapI .i64 ((a:Int)+((v:Nat):Int))=((a+v:Nat):Int):=we
    have hi:i<n:=by omega
    have hj:a+v<n:=by omega
    obtain ⟨x,hx⟩:=gx (l:=ys) (i:=i) (by omega)
    have lx:=hE.ld hx
    obtain ⟨y,hy⟩:=gx (l:=ys) (i:=a+v) (by omega)
    have ly:=hE.ld hy
    simp only [V0,sevalprocAttr,hfr,L1,L2 hb hE,yz,yF,yt,h2,o1,hi,hj,hly,lx,ly]
    refine ⟨by simp [comm],?_⟩
    simp only [V0,sevalprocAttr,hfr,i1]
    exact hnA _ (a+L*2+2 - (i+1)) (by omega) ⟨i+1,w,_,_,by omega,by omega,hp.swap (by omega) (by omega) (by omega) (by omega) (zD hx hy),rfl,by simp only [V0,sevalprocAttr,hfr]⟩
  ·simp only [V0,sevalprocAttr,hfr,L1,L2 hb hE,e0,e2,m2,a2,p1,h]
   refine heA _ _ ?_
   simp only [V0,sevalprocAttr,hfr,zP,zr,Yj]
   exact ⟨_,rfl,rfl,ys,_,rfl,hp⟩
 obtain ⟨v,own',h1,rfl,xs',J',rfl,hp⟩:=main
 exact ⟨xs',J',h1,hp⟩
end
end
section
section
variable {X:SF} {S:ySM} {α:Type} {g:α->List IV} {e:α->IV} {own0:yLO} {b d:Nat} {out:yLM} {n cp:Nat} {tg:Bool} {gf:FuncId} {caps:List IV} {r:α->α->Int} {Nc:Nat}
theorem x_pdq1S (hr0:Orders r) (hFm:FamOK S X) (hS:NoS S) (hb:b<own0.length) (hE:Elt g e X.sz X.ag) (hc:CmpOK S Nc d out own0 b e gf caps r) (hn:n<65536) (m:Nat) (hm:Nc+n+14<=m) {K:yKM} (ys:List α) (J:yLO) (t:List IV) (a c:Nat) (lim:Int) (wb wp:Bool)  (hly:ys.length=n) (hac:a<=c) (hcn:c<=n) (hfr:Slots 148 t [(0,.slM d b 0 n cp X.sz tg),(1,iv (a:Nat)),(2,iv (c:Nat)),(3,.int .i64 lim),(4,.fn gf [] caps),(10,.bool wb),(11,.bool wp),(12,iv (c - a:Nat))]) (hR:∀ (ys':List α) (J':yLO) (t':List IV),Mv ys ys' a c->Srt r ys' a c->K .ret ⟨t',Bk own0 b (ys'.flatMap g)++J'⟩) (hK:∀ t',12<c - a->Slots 148 t' [(0,.slM d b 0 n cp X.sz tg),(1,iv (a:Nat)),(2,iv (c:Nat)),(3,.int .i64 lim),(4,.fn gf [] caps),(10,.bool wb),(11,.bool wp),(12,iv (c - a:Nat))]->K .normal ⟨t',Bk own0 b (ys.flatMap g)++J⟩) :
  Ex (callN Ftab S m) d out m ((cPdq X).body.sub [1,1,0,0,0,1,0]) K ⟨t,Bk own0 b (ys.flatMap g)++J⟩:=by
 simp only [V3] at hfr
 by_cases h12:((c - a:Nat):Int)<=12
 ·obtain ⟨ys',J',hs,hp,hp2,hp3⟩:=x_insS (cp:=cp) (tg:=tg) (d:=d) (out:=out) hr0 hFm hS hb hE hc hn m (by omega) (Bk own0 b (ys.flatMap g)++(J++[.free])) ys (J++[.free]) a c hly hac hcn
  simp only [cPdq,IC.sub,V0,sevalprocAttr,hfr,L1,L2 hb hE,h12,hs]
  exact hR _ _ _ ⟨hp,hp2⟩ hp3
 ·simp only [cPdq,IC.sub,V0,sevalprocAttr,hfr,L1,L2 hb hE,h12]
  exact hK _ (by omega) (by simp only [V0,sevalprocAttr,hfr])
theorem x_pdq2S (hr0:Orders r) (hFm:FamOK S X) (hS:NoS S) (hb:b<own0.length) (hE:Elt g e X.sz X.ag) (hc:CmpOK S Nc d out own0 b e gf caps r) (hn:n<65536) (m:Nat) (hm:Nc+n+14<=m) {K:yKM} (ys:List α) (J:yLO) (t:List IV) (a c:Nat) (lim:Int) (wb wp:Bool) (h12:12<c - a) (hly:ys.length=n) (hac:a<=c) (hcn:c<=n) (hfr:Slots 148 t [(0,.slM d b 0 n cp X.sz tg),(1,iv (a:Nat)),(2,iv (c:Nat)),(3,.int .i64 lim),(4,.fn gf [] caps),(10,.bool wb),(11,.bool wp),(12,iv (c - a:Nat))]) (hR:∀ (ys':List α) (J':yLO) (t':List IV),Mv ys ys' a c->Srt r ys' a c->K .ret ⟨t',Bk own0 b (ys'.flatMap g)++J'⟩) (hK:∀ t',Slots 148 t' [(0,.slM d b 0 n cp X.sz tg),(1,iv (a:Nat)),(2,iv (c:Nat)),(3,.int .i64 lim),(4,.fn gf [] caps),(10,.bool wb),(11,.bool wp),(12,iv (c - a:Nat))]->K .normal ⟨t',Bk own0 b (ys.flatMap g)++J⟩) :
  Ex (callN Ftab S m) d out m ((cPdq X).body.sub [1,1,0,0,0,1,1,0]) K ⟨t,Bk own0 b (ys.flatMap g)++J⟩:=by
 simp only [V3] at hfr
 cases hz:lim==0
 ·simp only [cPdq,IC.sub,V0,sevalprocAttr,hfr,L1,L2 hb hE,hz]
  exact hK _ (by simp only [V0,sevalprocAttr,hfr])
 ·obtain ⟨ys',J',hs,hp,hp2,hp3⟩:=x_heapS (cp:=cp) (tg:=tg) (d:=d) (out:=out) hr0 hFm hS hb hE hc hn m (by omega) (Bk own0 b (ys.flatMap g)++(J++[.free])) ys (J++[.free]) a c hly (by omega) hcn
  simp only [cPdq,IC.sub,V0,sevalprocAttr,hfr,L1,L2 hb hE,hz,hs]
  exact hR _ _ _ ⟨hp,hp2⟩ hp3
theorem x_pdq3S (hr0:Orders r) (hFm:FamOK S X) (hS:NoS S) (hb:b<own0.length) (hE:Elt g e X.sz X.ag) (hc:CmpOK S Nc d out own0 b e gf caps r) (hn:n<65536) (m:Nat) (hm:Nc+n+14<=m) {K:yKM} (ys:List α) (J:yLO) (t:List IV) (a c:Nat) (lim:Int) (wb wp:Bool) (h12:12<c - a) (hP:PowOK S Nc) (hly:ys.length=n) (hac:a<=c) (hcn:c<=n) (hfr:Slots 148 t [(0,.slM d b 0 n cp X.sz tg),(1,iv (a:Nat)),(2,iv (c:Nat)),(3,.int .i64 lim),(4,.fn gf [] caps),(10,.bool wb),(11,.bool wp),(12,iv (c - a:Nat))]) (hK:∀ (lim':Int) (ys':List α) (J':yLO) t',Mv ys ys' a c->Slots 148 t' [(0,.slM d b 0 n cp X.sz tg),(1,iv (a:Nat)),(2,iv (c:Nat)),(3,.int .i64 lim'),(4,.fn gf [] caps),(10,.bool wb),(11,.bool wp),(12,iv (c - a:Nat))]->K .normal ⟨t',Bk own0 b (ys'.flatMap g)++J'⟩) :
  Ex (callN Ftab S m) d out m ((cPdq X).body.sub [1,1,0,0,0,1,1,1,0]) K ⟨t,Bk own0 b (ys.flatMap g)++J⟩:=by
 simp only [V3] at hfr
 cases wb with
 | true =>
  simp only [cPdq,IC.sub,V0,sevalprocAttr,hfr,L1,L2 hb hE,hfr]
  exact hK lim _ _ _ (Mv.refl _ _ _) (by simp only [V0,sevalprocAttr,hfr])
 | false =>
  obtain ⟨ys',J',hs,hp⟩:=x_brkS (cp:=cp) (tg:=tg) (d:=d) (out:=out) hFm hS hb hE hc hn m (by omega) (Bk own0 b (ys.flatMap g)++(J++[.free])) ys (J++[.free]) a c hly (by omega) hcn hP
  simp only [cPdq,IC.sub,V0,sevalprocAttr,hfr,L1,L2 hb hE,hs]
  exact hK (wrapI .i64 (lim - 1)) _ _ _ hp (by simp only [V0,sevalprocAttr,hfr])
theorem x_pdq4S (hr0:Orders r) (hFm:FamOK S X) (hS:NoS S) (hb:b<own0.length) (hE:Elt g e X.sz X.ag) (hc:CmpOK S Nc d out own0 b e gf caps r) (hn:n<65536) (m:Nat) (hm:Nc+n+14<=m) {K:yKM} (ys:List α) (J:yLO) (t:List IV) (a c:Nat) (lim:Int) (wb wp:Bool) (h12:12<c - a) (hly:ys.length=n) (hac:a<=c) (hcn:c<=n) (hfr:Slots 148 t [(0,.slM d b 0 n cp X.sz tg),(1,iv (a:Nat)),(2,iv (c:Nat)),(3,.int .i64 lim),(4,.fn gf [] caps),(10,.bool wb),(11,.bool wp),(12,iv (c - a:Nat))]) (hK:∀ (p:Nat) (w:Int) (ys':List α) (J':yLO) t',a<=p->p<c->Mv ys ys' a c->Slots 148 t' [(0,.slM d b 0 n cp X.sz tg),(1,iv (a:Nat)),(2,iv (c:Nat)),(3,.int .i64 lim),(4,.fn gf [] caps),(10,.bool wb),(11,.bool wp),(12,iv (c - a:Nat)),(13,iv (p:Nat)),(14,.int .i64 w)]->K .normal ⟨t',Bk own0 b (ys'.flatMap g)++J'⟩) :
  Ex (callN Ftab S m) d out m ((cPdq X).body.sub [1,1,0,0,0,1,1,1,1,0]) K ⟨t,Bk own0 b (ys.flatMap g)++J⟩:=by
 simp only [V3] at hfr
 obtain ⟨ys',J',p,w,hs,hp,h1,h2⟩:=x_pivS (cp:=cp) (tg:=tg) (d:=d) (out:=out) hFm hS hb hE hc hn m (by omega) (Bk own0 b (ys.flatMap g)++(J++[.free])) ys (J++[.free]) a c hly (by omega) hcn
 simp only [cPdq,IC.sub,V0,sevalprocAttr,hfr,L1,L2 hb hE,hs]
 exact hK p w _ _ _ h1 h2 hp (by simp only [V0,sevalprocAttr,hfr])
theorem x_pdq5S (hr0:Orders r) (hFm:FamOK S X) (hS:NoS S) (hb:b<own0.length) (hE:Elt g e X.sz X.ag) (hc:CmpOK S Nc d out own0 b e gf caps r) (hn:n<65536) (m:Nat) (hm:Nc+n+14<=m) {K:yKM} (ys:List α) (J:yLO) (t:List IV) (a c:Nat) (lim:Int) (wb wp:Bool) (p:Nat) (w:Int) (h12:12<c - a) (h1:a<=p) (h2:p<c) (hly:ys.length=n) (hac:a<=c) (hcn:c<=n) (hfr:Slots 148 t [(0,.slM d b 0 n cp X.sz tg),(1,iv (a:Nat)),(2,iv (c:Nat)),(3,.int .i64 lim),(4,.fn gf [] caps),(10,.bool wb),(11,.bool wp),(12,iv (c - a:Nat)),(13,iv (p:Nat)),(14,.int .i64 w)]) (hK:∀ (p:Nat) (w:Int) (ys':List α) (J':yLO) t',a<=p->p<c->Mv ys ys' a c->Slots 148 t' [(0,.slM d b 0 n cp X.sz tg),(1,iv (a:Nat)),(2,iv (c:Nat)),(3,.int .i64 lim),(4,.fn gf [] caps),(10,.bool wb),(11,.bool wp),(12,iv (c - a:Nat)),(13,iv (p:Nat)),(14,.int .i64 w)]->K .normal ⟨t',Bk own0 b (ys'.flatMap g)++J'⟩) :
  Ex (callN Ftab S m) d out m ((cPdq X).body.sub [1,1,0,0,0,1,1,1,1,1,0]) K ⟨t,Bk own0 b (ys.flatMap g)++J⟩:=by
 simp only [V3] at hfr
 cases hz:w==2
 ·simp only [cPdq,IC.sub,V0,sevalprocAttr,hfr,L1,L2 hb hE,hz]
  exact hK p w _ _ _ h1 h2 (Mv.refl _ _ _) (by simp only [V0,sevalprocAttr,hfr])
 ·obtain ⟨ys',J',hs,hp⟩:=x_revS (cp:=cp) (tg:=tg) (d:=d) (out:=out) hFm hS hb hE hc hn m (by omega) (Bk own0 b (ys.flatMap g)++(J++[.free])) ys (J++[.free]) a c hly (by omega) hcn
  have f1:wrapI .i64 ((c:Int) - 1)=((c - 1:Nat):Int):=we
  have f2:wrapI .i64 ((p:Int) - (a:Int))=((p - a:Nat):Int):=we
  have f3:wrapI .i64 (((c - 1:Nat):Int) - ((p - a:Nat):Int))=((c - 1 - (p - a):Nat):Int):=we
  simp only [cPdq,IC.sub,V0,sevalprocAttr,hfr,L1,L2 hb hE,hz,hs,f1,f2,f3]
  exact hK (c - 1 - (p - a)) 1 _ _ _ (by omega) (by omega) hp (by simp only [V0,sevalprocAttr,hfr,f1,f2,f3])
theorem x_pdq6S (hr0:Orders r) (hFm:FamOK S X) (hS:NoS S) (hb:b<own0.length) (hE:Elt g e X.sz X.ag) (hc:CmpOK S Nc d out own0 b e gf caps r) (hn:n<65536) (m:Nat) (hm:Nc+n+14<=m) {K:yKM} (ys:List α) (J:yLO) (t:List IV) (a c:Nat) (lim:Int) (wb wp:Bool) (p:Nat) (w:Int) (h12:12<c - a) (hly:ys.length=n) (hac:a<=c) (hcn:c<=n) (hpre:Pre r ys a c) (hfr:Slots 148 t [(0,.slM d b 0 n cp X.sz tg),(1,iv (a:Nat)),(2,iv (c:Nat)),(3,.int .i64 lim),(4,.fn gf [] caps),(10,.bool wb),(11,.bool wp),(12,iv (c - a:Nat)),(13,iv (p:Nat)),(14,.int .i64 w)]) (hR:∀ (ys':List α) (J':yLO) (t':List IV),Mv ys ys' a c->Srt r ys' a c->K .ret ⟨t',Bk own0 b (ys'.flatMap g)++J'⟩) (hK:∀ (ys':List α) (J':yLO) t',Mv ys ys' a c->Slots 148 t' [(0,.slM d b 0 n cp X.sz tg),(1,iv (a:Nat)),(2,iv (c:Nat)),(3,.int .i64 lim),(4,.fn gf [] caps),(10,.bool wb),(11,.bool wp),(12,iv (c - a:Nat)),(13,iv (p:Nat)),(14,.int .i64 w)]->K .normal ⟨t',Bk own0 b (ys'.flatMap g)++J'⟩) :
  Ex (callN Ftab S m) d out m ((cPdq X).body.sub [1,1,0,0,0,1,1,1,1,1,1,0]) K ⟨t,Bk own0 b (ys.flatMap g)++J⟩:=by
 simp only [V3] at hfr
 cases wb with
 | false =>
  simp only [cPdq,IC.sub,V0,sevalprocAttr,hfr,L1,L2 hb hE,hfr]
  exact hK _ _ _ (Mv.refl _ _ _) (by simp only [V0,sevalprocAttr,hfr])
 | true=>cases wp with
  | false =>
   simp only [cPdq,IC.sub,V0,sevalprocAttr,hfr,L1,L2 hb hE,hfr]
   exact hK _ _ _ (Mv.refl _ _ _) (by simp only [V0,sevalprocAttr,hfr])
  | true =>
   cases hz:w==1
   ·simp only [cPdq,IC.sub,V0,sevalprocAttr,hfr,L1,L2 hb hE,hz]
    exact hK _ _ _ (Mv.refl _ _ _) (by simp only [V0,sevalprocAttr,hfr])
   ·obtain ⟨ys',J',u,hs,hp,hp2,hp3⟩:=x_partS (cp:=cp) (tg:=tg) (d:=d) (out:=out) hr0 hFm hS hb hE hc hn m (by omega) (Bk own0 b (ys.flatMap g)++(J++[.free])) ys (J++[.free]) a c hly (by omega) hcn hpre
    cases u with
    | false =>
     simp only [cPdq,IC.sub,V0,sevalprocAttr,hfr,L1,L2 hb hE,hz,hs]
     exact hK _ _ _ ⟨hp,hp2⟩ (by simp only [V0,sevalprocAttr,hfr])
    | true =>
     simp only [cPdq,IC.sub,V0,sevalprocAttr,hfr,L1,L2 hb hE,hz,hs]
     exact hR _ _ _ ⟨hp,hp2⟩ (hp3 rfl)
theorem x_pdq7S (hr0:Orders r) (hFm:FamOK S X) (hS:NoS S) (hb:b<own0.length) (hE:Elt g e X.sz X.ag) (hc:CmpOK S Nc d out own0 b e gf caps r) (hn:n<65536) (m:Nat) (hm:Nc+n+14<=m) {K:yKM} (ys:List α) (J:yLO) (t:List IV) (a c:Nat) (lim:Int) (wb wp:Bool) (p:Nat) (w:Int) (h12:12<c - a) (h1:a<=p) (h2:p<c) (hly:ys.length=n) (hac:a<=c) (hcn:c<=n) (hpre:Pre r ys a c) (hfr:Slots 148 t [(0,.slM d b 0 n cp X.sz tg),(1,iv (a:Nat)),(2,iv (c:Nat)),(3,.int .i64 lim),(4,.fn gf [] caps),(10,.bool wb),(11,.bool wp),(12,iv (c - a:Nat)),(13,iv (p:Nat)),(14,.int .i64 w)]) (hX:∀ (q:Nat) (ys':List α) (J':yLO) t',a<q->q<=c->Mv ys ys' a c->Stg r ys' q c a c->Slots 148 t' [(0,.slM d b 0 n cp X.sz tg),(1,iv (q:Nat)),(2,iv (c:Nat)),(3,.int .i64 lim),(4,.fn gf [] caps),(10,.bool wb),(11,.bool wp)]->K (.exit 1) ⟨t',Bk own0 b (ys'.flatMap g)++J'⟩) (hK:∀ (J':yLO) t',Slots 148 t' [(0,.slM d b 0 n cp X.sz tg),(1,iv (a:Nat)),(2,iv (c:Nat)),(3,.int .i64 lim),(4,.fn gf [] caps),(10,.bool wb),(11,.bool wp),(12,iv (c - a:Nat)),(13,iv (p:Nat)),(14,.int .i64 w)]->K .normal ⟨t',Bk own0 b (ys.flatMap g)++J'⟩) :
  Ex (callN Ftab S m) d out m ((cPdq X).body.sub [1,1,0,0,0,1,1,1,1,1,1,1,0]) K ⟨t,Bk own0 b (ys.flatMap g)++J⟩:=by
 simp only [V3] at hfr
 by_cases h0:(0:Int)<(a:Int)
 ·have f1:wrapI .i64 ((a:Int) - 1)=((a - 1:Nat):Int):=we
  have b1:a - 1<n:=by omega
  have b2:p<n:=by omega
  obtain ⟨x,hx⟩:=gx (l:=ys) (i:=a - 1) (by omega)
  have lx:=hE.ld hx
  obtain ⟨y,hy⟩:=gx (l:=ys) (i:=p) (by omega)
  have ly:=hE.ld hy
  have cc:=fun ownV own id=>hc m (by omega) ownV own id x y
  cases hlt:decide (r x y<0)
  ·obtain ⟨ys',J',q,hs,⟨hp,hp2,pv,hpv,hdv⟩,g1,g2⟩:=x_parES (cp:=cp) (tg:=tg) (d:=d) (out:=out) hr0 hFm hS hb hE hc hn m (by omega) (Bk own0 b (ys.flatMap g)++(J++[.free,.free])) ys (J++[.free,.free]) a c p hly h1 h2 hcn
   have hst:Stg r ys' q c a c:=by
    rw [hy] at hpv
    cases hpv
    exact Stg.low hr0 hpre (by omega) g1 g2 hx (of_decide_eq_false hlt) ⟨hp,hp2⟩ hdv (by have:=hp.length_eq; omega)
   simp only [cPdq,IC.sub,V0,sevalprocAttr,hfr,L1,L2 hb hE,h0,f1,b1,b2,lx,ly,cc,hlt]
   refine ⟨by simp [comm],?_⟩
   simp only [V0,sevalprocAttr,hfr,L1,L2 hb hE,hs]
   exact hX q _ _ _ g1 g2 ⟨hp,hp2⟩ hst (by simp only [V0,sevalprocAttr,hfr])
  ·simp only [cPdq,IC.sub,V0,sevalprocAttr,hfr,L1,L2 hb hE,h0,f1,b1,b2,lx,ly,cc,hlt]
   refine ⟨by simp [comm],?_⟩
   simp only [V0,sevalprocAttr,hfr,L1,L2 hb hE]
   exact hK _ _ (by simp only [V0,sevalprocAttr,hfr])
 ·simp only [cPdq,IC.sub,V0,sevalprocAttr,hfr,L1,L2 hb hE,h0]
  refine ⟨by simp [comm],?_⟩
  simp only [V0,sevalprocAttr,hfr,L1,L2 hb hE]
  exact hK _ _ (by simp only [V0,sevalprocAttr,hfr])
theorem x_pdq8S (hr0:Orders r) (hFm:FamOK S X) (hS:NoS S) (hb:b<own0.length) (hE:Elt g e X.sz X.ag) (hc:CmpOK S Nc d out own0 b e gf caps r) (hn:n<65536) (m:Nat) (hm:Nc+n+14<=m) {K:yKM} (ys:List α) (J:yLO) (t:List IV) (a c:Nat) (lim:Int) (wb wp:Bool) (p:Nat) (w:Int) (h1:a<=p) (h2:p<c) (hly:ys.length=n) (hac:a<=c) (hcn:c<=n) (hfr:Slots 148 t [(0,.slM d b 0 n cp X.sz tg),(1,iv (a:Nat)),(2,iv (c:Nat)),(3,.int .i64 lim),(4,.fn gf [] caps),(10,.bool wb),(11,.bool wp),(12,iv (c - a:Nat)),(13,iv (p:Nat)),(14,.int .i64 w)]) (hK:∀ (q:Nat) (u:Bool) (ys':List α) (J':yLO) t',a<=q->q<c->Mv ys ys' a c->(∃ pv,DivP r ys' a c q pv)->Slots 148 t' [(0,.slM d b 0 n cp X.sz tg),(1,iv (a:Nat)),(2,iv (c:Nat)),(3,.int .i64 lim),(4,.fn gf [] caps),(10,.bool wb),(11,.bool wp),(12,iv (c - a:Nat)),(13,iv (p:Nat)),(14,.int .i64 w),(16,iv (q:Nat)),(17,.bool u)]->K .normal ⟨t',Bk own0 b (ys'.flatMap g)++J'⟩) :
  Ex (callN Ftab S m) d out m ((cPdq X).body.sub [1,1,0,0,0,1,1,1,1,1,1,1,1,0]) K ⟨t,Bk own0 b (ys.flatMap g)++J⟩:=by
 simp only [V3] at hfr
 obtain ⟨ys',J',q,u,hs,⟨hp,hp2,pv,_,hdv⟩,g1,g2⟩:=x_parS (cp:=cp) (tg:=tg) (d:=d) (out:=out) hFm hS hb hE hc hn m (by omega) (Bk own0 b (ys.flatMap g)++(J++[.free])) ys (J++[.free]) a c p hly h1 h2 hcn
 simp only [cPdq,IC.sub,V0,sevalprocAttr,hfr,L1,L2 hb hE,hs]
 exact hK q u _ _ _ g1 g2 ⟨hp,hp2⟩ ⟨pv,hdv⟩ (by simp only [V0,sevalprocAttr,hfr])
theorem x_pdq9S (hr0:Orders r) (hFm:FamOK S X) (hS:NoS S) (hb:b<own0.length) (hE:Elt g e X.sz X.ag) (hc:CmpOK S Nc d out own0 b e gf caps r) (hn:n<65536) (m:Nat) (hm:Nc+n+14<=m) {K:yKM} (ys:List α) (J:yLO) (t:List IV) (a c:Nat) (lim:Int) (wb wp:Bool) (p:Nat) (w:Int) (q:Nat) (u:Bool) (h1:a<=q) (h2:q<c) (hdv:∃ pv,DivP r ys a c q pv) (hpre:Pre r ys a c) (hly:ys.length=n) (hac:a<=c) (hcn:c<=n) (hfr:Slots 148 t [(0,.slM d b 0 n cp X.sz tg),(1,iv (a:Nat)),(2,iv (c:Nat)),(3,.int .i64 lim),(4,.fn gf [] caps),(10,.bool wb),(11,.bool wp),(12,iv (c - a:Nat)),(13,iv (p:Nat)),(14,.int .i64 w),(16,iv (q:Nat)),(17,.bool u)]) (IH:∀ (ys':List α) (J':yLO) (x y:Nat),ys'.length=n->x<=y->y<=n->y - x<c - a->Pre r ys' x y->∃ (zs:List α) (J2:yLO),(∀ id,callN Ftab S m d out (Bk own0 b (ys'.flatMap g)++J') (Bk own0 b (ys'.flatMap g)++J') id X.pdq [.slM d b 0 n cp X.sz tg,.int .i64 ((x:Nat):Int),.int .i64 ((y:Nat):Int),.int .i64 lim,.fn gf [] caps]=some (.x,.tuple [],Bk own0 b (zs.flatMap g)++J2))/\Mv ys' zs x y/\Srt r zs x y) (hK:∀ (x y:Nat) (wb' wp':Bool) (ys':List α) (J':yLO) t',x<=y->y<=n->y - x<c - a->Mv ys ys' a c->Stg r ys' x y a c->Slots 148 t' [(0,.slM d b 0 n cp X.sz tg),(1,iv (x:Nat)),(2,iv (y:Nat)),(3,.int .i64 lim),(4,.fn gf [] caps),(10,.bool wb'),(11,.bool wp')]->K .normal ⟨t',Bk own0 b (ys'.flatMap g)++J'⟩) :
  Ex (callN Ftab S m) d out m ((cPdq X).body.sub [1,1,0,0,0,1,1,1,1,1,1,1,1,1]) K ⟨t,Bk own0 b (ys.flatMap g)++J⟩:=by
 simp only [V3] at hfr
 have e1:wrapI .i64 ((q:Int) - (a:Int))=((q - a:Nat):Int):=we
 have e2:wrapI .i64 ((c:Int) - (q:Int))=((c - q:Nat):Int):=we
 have e3:wrapI .i64 (Int.tdiv ((c - a:Nat):Int) 8)=(((c - a) / 8:Nat):Int):=YH _ 8 (by omega)
 have e0:((8:Int)=0)=False:=eq_false (by decide)
 have e4:wrapI .i64 ((q:Int)+1)=((q+1:Nat):Int):=we
 generalize (c - a) / 8=T at e3
 obtain ⟨pv,hdv⟩:=hdv
 by_cases hlr:q - a<c - q
 ·obtain ⟨ys',J',hs,hp,hp2⟩:=IH ys (J++[.free]) a q hly h1 (by omega) (by omega) (hpre.cut (by omega))
  have hst:=Stg.right hr0 hdv h1 hp hp2
  have hp:=hp.wide (a':=a) (c':=c) (zcs _) (by omega)
  by_cases hT:T<=q - a
  ·simp only [cPdq,IC.sub,V0,sevalprocAttr,hfr,L1,L2 hb hE,e0,e1,e2,e3,e4,hlr,hT,hs]
   exact hK (q+1) c true u _ _ _ (by omega) (by omega) (by omega) hp hst (by simp only [V0,sevalprocAttr,hfr,e0,e1,e2,e3,e4,hlr,hT,hs])
  ·simp only [cPdq,IC.sub,V0,sevalprocAttr,hfr,L1,L2 hb hE,e0,e1,e2,e3,e4,hlr,hT,hs]
   exact hK (q+1) c false u _ _ _ (by omega) (by omega) (by omega) hp hst (by simp only [V0,sevalprocAttr,hfr,e0,e1,e2,e3,e4,hlr,hT,hs])
 ·obtain ⟨ys',J',hs,hp,hp2⟩:=IH ys (J++[.free]) (q+1) c hly (by omega) hcn (by omega) hdv.pre_right
  have hst:=Stg.left hr0 hdv hpre h1 h2 hp hp2
  have hp:=hp.wide (a':=a) (c':=c) (by omega) (zcs _)
  by_cases hT:T<=c - q
  ·simp only [cPdq,IC.sub,V0,sevalprocAttr,hfr,L1,L2 hb hE,e0,e1,e2,e3,e4,hlr,hT,hs]
   exact hK a q true u _ _ _ (by omega) (by omega) (by omega) hp hst (by simp only [V0,sevalprocAttr,hfr,e0,e1,e2,e3,e4,hlr,hT,hs])
  ·simp only [cPdq,IC.sub,V0,sevalprocAttr,hfr,L1,L2 hb hE,e0,e1,e2,e3,e4,hlr,hT,hs]
   exact hK a q false u _ _ _ (by omega) (by omega) (by omega) hp hst (by simp only [V0,sevalprocAttr,hfr,e0,e1,e2,e3,e4,hlr,hT,hs])
theorem x_pdq_stepS (hr0:Orders r) (hFm:FamOK S X) (hS:NoS S) (hb:b<own0.length) (hE:Elt g e X.sz X.ag) (hc:CmpOK S Nc d out own0 b e gf caps r) (hn:n<65536) (hP:PowOK S Nc) (k:Nat)
  (IH:∀ k',k'<k->∀ m,Nc+n+20+k'<=m->∀ (ownV:yLO) (xs:List α) (J:yLO) (a c:Nat) (lim:Int),xs.length=n->a<=c->c<=n->c - a<=k'->Pre r xs a c->∃ (xs':List α) (J':yLO),(∀ id,callN Ftab S m d out ownV (Bk own0 b (xs.flatMap g)++J) id X.pdq [.slM d b 0 n cp X.sz tg,.int .i64 (a:Int),.int .i64 (c:Int),.int .i64 lim,.fn gf [] caps]=some (.x,.tuple [],Bk own0 b (xs'.flatMap g)++J'))/\Mv xs xs' a c/\Srt r xs' a c)
  (m:Nat) (hm:Nc+n+20+k<=m) (ownV:yLO) (xs:List α) (J:yLO) (a c:Nat) (lim:Int) (hl0:xs.length=n) (hac:a<=c) (hcn:c<=n) (hk:c - a<=k) (hpre:Pre r xs a c) :
  ∃ (xs':List α) (J':yLO),(∀ id,callN Ftab S m d out ownV (Bk own0 b (xs.flatMap g)++J) id X.pdq [.slM d b 0 n cp X.sz tg,.int .i64 (a:Int),.int .i64 (c:Int),.int .i64 lim,.fn gf [] caps]=some (.x,.tuple [],Bk own0 b (xs'.flatMap g)++J'))/\Mv xs xs' a c/\Srt r xs' a c:=by
 obtain ⟨m,rfl⟩:∃ q,m=q+1:=⟨m - 1,by omega⟩
 have main:∃ v own',(∀ id,callN Ftab S (m+1) d out ownV (Bk own0 b (xs.flatMap g)++J) id X.pdq [.slM d b 0 n cp X.sz tg,.int .i64 (a:Int),.int .i64 (c:Int),.int .i64 lim,.fn gf [] caps]=some (.x,v,own'))/\(v=.tuple []/\∃ (xs':List α) (J':yLO),own'=Bk own0 b (xs'.flatMap g)++J'/\Mv xs xs' a c/\Srt r xs' a c):=by
  refine zX (i:=cPdq X) (hFm.pdq.1 _) hFm.pdq.2 rfl (lb rfl) fun t hfr=>?_
  simp only [V2,Nat.reduceAdd,show (cPdq X).ntmps=148 from rfl] at hfr
  rw [show (cPdq X).body=.seq ((cPdq X).body.sub [0]) (.seq ((cPdq X).body.sub [1,0]) (.block 0 (.loop ((cPdq X).body.sub [1,1,0,0])))) from rfl]
  have h0:(cPdq X).body.sub [0]=.region false 0 [⟨some 10,.mov (.const (.bool true)),none,[]⟩] []:=rfl
  have h1:(cPdq X).body.sub [1,0]=.region false 0 [⟨some 11,.mov (.const (.bool true)),none,[]⟩] []:=rfl
  generalize hB:(cPdq X).body.sub [1,1,0,0]=B
  simp only [h0,h1,V0,sevalprocAttr,hfr]
  rw [← hB]
  obtain ⟨a0,ha0⟩:∃ a0,a0=a:=⟨_,rfl⟩
  obtain ⟨c0,hc0⟩:∃ c0,c0=c:=⟨_,rfl⟩
  rw [← ha0,← hc0]
  refine zb (fun jj st=>∃ (a c:Nat) (lim:Int) (wb wp:Bool) (ys:List α) (J1:yLO),c - a<=jj/\(a<=c/\c<=n/\c - a<=k)/\(Mv xs ys a0 c0/\Stg r ys a c a0 c0)/\st.own=Bk own0 b (ys.flatMap g)++J1/\Slots 148 st.t [(0,.slM d b 0 n cp X.sz tg),(1,iv (a:Nat)),(2,iv (c:Nat)),(3,.int .i64 lim),(4,.fn gf [] caps),(10,.bool wb),(11,.bool wp)]) n (by omega) ⟨a,c,lim,true,true,xs,J,by omega,by omega,⟨Mv.refl _ _ _,by rw [ha0,hc0]; exact Stg.start hpre⟩,rfl,by simp only [V0,sevalprocAttr,hfr]⟩ ?_
  clear hfr h0 h1 hk hac hcn hpre ha0 hc0
  rintro jj ⟨t,own⟩ KA ⟨a,c,lim,wb,wp,ys,J1,hjj,hac,⟨hp,hsg⟩,ho,hfr⟩ hnA heA hrA
  dsimp only at ho hfr
  subst ho
  have hly:ys.length=n:=hp.perm.length_eq.trans hl0
  rw [show (cPdq X).body.sub [1,1,0,0]=.block 1 ((cPdq X).body.sub [1,1,0,0,0]) from rfl,zbg]
  rw [show (cPdq X).body.sub [1,1,0,0,0]=.seq ((cPdq X).body.sub [1,1,0,0,0,0]) ((cPdq X).body.sub [1,1,0,0,0,1]) from rfl,y4]
  refine x_pdq0 (cp:=cp) (tg:=tg) (d:=d) (out:=out) hFm hS hb hE hc hn m (by omega) ys J1 t a c lim wb wp hly (by omega) (by omega) hfr fun t1 f1=>?_
  rw [zA]
  rw [show (cPdq X).body.sub [1,1,0,0,0,1]=.seq ((cPdq X).body.sub [1,1,0,0,0,1,0]) ((cPdq X).body.sub [1,1,0,0,0,1,1]) from rfl,y4]
  refine x_pdq1S (cp:=cp) (tg:=tg) (d:=d) (out:=out) hr0 hFm hS hb hE hc hn m (by omega) ys J1 t1 a c lim wb wp hly (by omega) (by omega) f1 (fun zs J9 t9 h9 s9=>by
   simp only [yS,yc]
   refine hrA _ ?_
   simp only [yc,zr,Yj]
   exact ⟨_,rfl,rfl,zs,_,rfl,hp.trans (h9.wide hsg.lo hsg.hi),hsg.rest zs h9 s9⟩) fun t2 h12 f2=>?_
  rw [zA]
  rw [show (cPdq X).body.sub [1,1,0,0,0,1,1]=.seq ((cPdq X).body.sub [1,1,0,0,0,1,1,0]) ((cPdq X).body.sub [1,1,0,0,0,1,1,1]) from rfl,y4]
  refine x_pdq2S (cp:=cp) (tg:=tg) (d:=d) (out:=out) hr0 hFm hS hb hE hc hn m (by omega) ys J1 t2 a c lim wb wp h12 hly (by omega) (by omega) f2 (fun zs J9 t9 h9 s9=>by
   simp only [yS,yc]
   refine hrA _ ?_
   simp only [yc,zr,Yj]
   exact ⟨_,rfl,rfl,zs,_,rfl,hp.trans (h9.wide hsg.lo hsg.hi),hsg.rest zs h9 s9⟩) fun t3 f3=>?_
  rw [zA]
  rw [show (cPdq X).body.sub [1,1,0,0,0,1,1,1]=.seq ((cPdq X).body.sub [1,1,0,0,0,1,1,1,0]) ((cPdq X).body.sub [1,1,0,0,0,1,1,1,1]) from rfl,y4]
  refine x_pdq3S (cp:=cp) (tg:=tg) (d:=d) (out:=out) hr0 hFm hS hb hE hc hn m (by omega) ys J1 t3 a c lim wb wp h12 hP hly (by omega) (by omega) f3 fun lim4 ys4 J4 t4 p4 f4=>?_
  have hl4:ys4.length=n:=p4.perm.length_eq.trans hly
  rw [zA]
  rw [show (cPdq X).body.sub [1,1,0,0,0,1,1,1,1]=.seq ((cPdq X).body.sub [1,1,0,0,0,1,1,1,1,0]) ((cPdq X).body.sub [1,1,0,0,0,1,1,1,1,1]) from rfl,y4]
  refine x_pdq4S (cp:=cp) (tg:=tg) (d:=d) (out:=out) hr0 hFm hS hb hE hc hn m (by omega) ys4 J4 t4 a c lim4 wb wp h12 hl4 (by omega) (by omega) f4 fun p w ys5 J5 t5 g1 g2 p5 f5=>?_
  have hl5:ys5.length=n:=p5.perm.length_eq.trans hl4
  rw [zA]
  rw [show (cPdq X).body.sub [1,1,0,0,0,1,1,1,1,1]=.seq ((cPdq X).body.sub [1,1,0,0,0,1,1,1,1,1,0]) ((cPdq X).body.sub [1,1,0,0,0,1,1,1,1,1,1]) from rfl,y4]
  refine x_pdq5S (cp:=cp) (tg:=tg) (d:=d) (out:=out) hr0 hFm hS hb hE hc hn m (by omega) ys5 J5 t5 a c lim4 wb wp p w h12 g1 g2 hl5 (by omega) (by omega) f5 fun p w ys6 J6 t6 g1 g2 p6 f6=>?_
  have hl6:ys6.length=n:=p6.perm.length_eq.trans hl5
  have hm6:Mv ys ys6 a c:=p4.trans (p5.trans p6)
  rw [zA]
  rw [show (cPdq X).body.sub [1,1,0,0,0,1,1,1,1,1,1]=.seq ((cPdq X).body.sub [1,1,0,0,0,1,1,1,1,1,1,0]) ((cPdq X).body.sub [1,1,0,0,0,1,1,1,1,1,1,1]) from rfl,y4]
  refine x_pdq6S (cp:=cp) (tg:=tg) (d:=d) (out:=out) hr0 hFm hS hb hE hc hn m (by omega) ys6 J6 t6 a c lim4 wb wp p w h12 hl6 (by omega) (by omega) (hsg.move hm6).pre f6 (fun zs J9 t9 h9 s9=>by
   simp only [yS,yc]
   refine hrA _ ?_
   simp only [yc,zr,Yj]
   exact ⟨_,rfl,rfl,zs,_,rfl,hp.trans ((hm6.trans h9).wide hsg.lo hsg.hi),hsg.rest zs (hm6.trans h9) s9⟩) fun ys7 J7 t7 p7 f7=>?_
  have hl7:ys7.length=n:=p7.perm.length_eq.trans hl6
  have hm7:Mv ys ys7 a c:=hm6.trans p7
  have hg7:Stg r ys7 a c a0 c0:=hsg.move hm7
  have hp7:Mv xs ys7 a0 c0:=hp.trans (hm7.wide hsg.lo hsg.hi)
  rw [zA]
  rw [show (cPdq X).body.sub [1,1,0,0,0,1,1,1,1,1,1,1]=.seq ((cPdq X).body.sub [1,1,0,0,0,1,1,1,1,1,1,1,0]) ((cPdq X).body.sub [1,1,0,0,0,1,1,1,1,1,1,1,1]) from rfl,y4]
  refine x_pdq7S (cp:=cp) (tg:=tg) (d:=d) (out:=out) hr0 hFm hS hb hE hc hn m (by omega) ys7 J7 t7 a c lim4 wb wp p w h12 g1 g2 hl7 (by omega) (by omega) hg7.pre f7 (fun q zs J9 t9 x1 x2 h9 s9 f9=>?_) fun J8 t8 f8=>?_
  ·simp only [Zz,ZA,if_true]
   exact hnA _ (c - q) (by omega) ⟨q,c,lim4,wb,wp,zs,_,zcs _,by omega,⟨hp7.trans (h9.wide hg7.lo hg7.hi),hg7.trans h9 s9⟩,rfl,f9⟩
  rw [zA]
  rw [show (cPdq X).body.sub [1,1,0,0,0,1,1,1,1,1,1,1,1]=.seq ((cPdq X).body.sub [1,1,0,0,0,1,1,1,1,1,1,1,1,0]) ((cPdq X).body.sub [1,1,0,0,0,1,1,1,1,1,1,1,1,1]) from rfl,y4]
  refine x_pdq8S (cp:=cp) (tg:=tg) (d:=d) (out:=out) hr0 hFm hS hb hE hc hn m (by omega) ys7 J8 t8 a c lim4 wb wp p w g1 g2 hl7 (by omega) (by omega) f8 fun q u ys9 J9 t9 x1 x2 p9 d9 f9=>?_
  have hl9:ys9.length=n:=p9.perm.length_eq.trans hl7
  rw [zA]
  refine x_pdq9S (cp:=cp) (tg:=tg) (d:=d) (out:=out) hr0 hFm hS hb hE hc hn m (by omega) ys9 J9 t9 a c lim4 wb wp p w q u x1 x2 d9 (hg7.move p9).pre hl9 (by omega) (by omega) f9 (fun ys' J' x y r1 r2 r3 r4 r6=>IH (y - x) (by omega) m (by omega) _ ys' J' x y lim4 r1 r2 r3 (zcs _) r6) fun x y wb' wp' zs J10 t10 r2 r3 r4 r5 s10 f10=>?_
  simp only [y5]
  exact hnA _ (y - x) (by omega) ⟨x,y,lim4,wb',wp',zs,_,zcs _,by omega,⟨hp7.trans ((p9.trans r5).wide hg7.lo hg7.hi),hg7.trans (p9.trans r5) s10⟩,rfl,f10⟩
 obtain ⟨v,own',h1,rfl,xs',J',rfl,hp⟩:=main
 exact ⟨xs',J',h1,hp⟩
theorem x_pdqS (hr0:Orders r) (hFm:FamOK S X) (hS:NoS S) (hb:b<own0.length) (hE:Elt g e X.sz X.ag) (hc:CmpOK S Nc d out own0 b e gf caps r) (hn:n<65536) (hP:PowOK S Nc) (k:Nat):∀ (m:Nat),Nc+n+20+k<=m->∀ (ownV:yLO) (xs:List α) (J:yLO) (a c:Nat) (lim:Int),xs.length=n->a<=c->c<=n->c - a<=k->Pre r xs a c->∃ (xs':List α) (J':yLO),(∀ id,callN Ftab S m d out ownV (Bk own0 b (xs.flatMap g)++J) id X.pdq [.slM d b 0 n cp X.sz tg,.int .i64 (a:Int),.int .i64 (c:Int),.int .i64 lim,.fn gf [] caps]=some (.x,.tuple [],Bk own0 b (xs'.flatMap g)++J'))/\Mv xs xs' a c/\Srt r xs' a c:=by
 induction k using Nat.strongRecOn with
 | ind k ih=>exact fun m hm ownV xs J a c lim h1 h2 h3 h4 h5=>x_pdq_stepS hr0 hFm hS hb hE hc hn hP k ih m hm ownV xs J a c lim h1 h2 h3 h4 h5
end
end
section
section
variable {X:SF} {S:ySM} {α:Type} {g:α->List IV} {e:α->IV} {own0:yLO} {b d:Nat} {out:yLM} {n cp:Nat} {tg:Bool} {gf:FuncId} {caps:List IV} {r:α->α->Int} {Nc:Nat}
theorem x_sortS (hr0:Orders r) (hFm:FamOK S X) (hS:NoS S) (hb:b<own0.length) (hE:Elt g e X.sz X.ag) (hc:CmpOK S Nc d out own0 b e gf caps r) (hn:n<65536) (m:Nat) (hm:Nc+2*n+24<=m) (ownV:yLO) (xs:List α) (J:yLO)  (hl0:xs.length=n) (hP:PowOK S Nc) (hL:LenOK S Nc) :
  ∃ (xs':List α) (J':yLO),(∀ id,callN Ftab S m d out ownV (Bk own0 b (xs.flatMap g)++J) id X.sort [.slM d b 0 n cp X.sz tg,.fn gf [] caps]=some (.x,.tuple [],Bk own0 b (xs'.flatMap g)++J'))/\xs'.Perm xs/\Srt r xs' 0 n:=by
 obtain ⟨m,rfl⟩:∃ q,m=q+1:=⟨m - 1,by omega⟩
 have main:∃ v own',(∀ id,callN Ftab S (m+1) d out ownV (Bk own0 b (xs.flatMap g)++J) id X.sort [.slM d b 0 n cp X.sz tg,.fn gf [] caps]=some (.x,v,own'))/\(v=.tuple []/\∃ (xs':List α) (J':yLO),own'=Bk own0 b (xs'.flatMap g)++J'/\xs'.Perm xs/\Srt r xs' 0 n):=by
  refine zX (i:=cSort X) (hFm.sort.1 _) hFm.sort.2 rfl (lb rfl) fun t hfr=>?_
  simp only [V2,Nat.reduceAdd,cSort] at hfr
  have hu:wrapI .u64 (n:Int)=(n:Int):=by
   rw [zt]
   exact IntWalk.u64_in _ (by omega)
  have hlen:=hL n (by omega) m (by omega)
  obtain ⟨ys',J',hs,hp,hp2⟩:=x_pdqS (cp:=cp) (tg:=tg) (d:=d) (out:=out) hr0 hFm hS hb hE hc hn hP n m (by omega) (Bk own0 b (xs.flatMap g)++(J++[.free,.free])) xs (J++[.free,.free]) 0 n (lenN n:Int) hl0 (Nat.zero_le _) (zcs _) (by omega) (fun k x y h=>absurd h (Nat.lt_irrefl _))
  simp only [zcp] at hs
  simp only [cSort,V0,sevalprocAttr,hfr,L1,L2 hb hE,hu,hlen,hs,e_conv,zP,Yj]
  exact ⟨_,rfl,rfl,ys',_,rfl,hp.perm,hp2⟩
 obtain ⟨v,own',h1,rfl,xs',J',rfl,hp⟩:=main
 exact ⟨xs',J',h1,hp⟩
end
theorem u_sortS {S:ySM} {α:Type} {g:α->List IV} {e:α->IV} {own0:yLO} {b d:Nat} {out:yLM} {n cp:Nat} {tg:Bool} {gf:FuncId} {caps:List IV} {r:α->α->Int} {Nc:Nat} (hr0:Orders r) (hS:NoS S) (hb:b<own0.length) (hE:Elt g e 2 true) (hc:CmpOK S Nc d out own0 b e gf caps r) (hn:n<65536) (m:Nat) (hm:Nc+2*n+24<=m) (ownV:yLO) (xs:List α) (J:yLO) (hl0:xs.length=n) (hP:PowOK S Nc) (hL:LenOK S Nc) :
  ∃ (xs':List α) (J':yLO),(∀ id,callN Ftab S m d out ownV (Bk own0 b (xs.flatMap g)++J) id 85 [.slM d b 0 n cp 2 tg,.fn gf [] caps]=some (.x,.tuple [],Bk own0 b (xs'.flatMap g)++J'))/\xs'.Perm xs/\Srt r xs' 0 n:=x_sortS (X:=uF) hr0 (uF_ok hS) hS hb hE hc hn m hm ownV xs J hl0 hP hL
end
end Go.Proofs.YtelocmclpfincaaGreatDoor
end
