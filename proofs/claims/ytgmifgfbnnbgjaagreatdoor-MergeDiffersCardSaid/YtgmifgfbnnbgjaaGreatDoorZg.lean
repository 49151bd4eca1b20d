/-
  A part of the proof: the small machine, its simulation and its walks.
-/
import Derived.Test.YtgmifgfbnnbgjaaGreatDoorZa
set_option linter.unusedVariables false
set_option linter.unusedSimpArgs false
set_option maxRecDepth 1000000
set_option maxHeartbeats 3200000
section
namespace Go.Proofs.YtgmifgfbnnbgjaaGreatDoor
section
section
variable {α:Type}
def up (r:α->α->Int) (x y:α):Prop:=¬ r y x<0
structure Orders (r:α->α->Int):Prop where
 total:∀ x y,up r x y∨up r y x
 trans:∀ x y z,up r x y->up r y z->up r x z
def Srt (r:α->α->Int) (xs:List α) (a c:Nat):Prop:=∀ i j x y,a<=i->i<j->j<c->xs[i]?=some x->xs[j]?=some y->up r x y
def Else (xs ys:List α) (a c:Nat):Prop:=∀ i,i<a∨c<=i->ys[i]?=xs[i]?
theorem Else.refl (xs:List α) (a c:Nat):Else xs xs a c:=fun _ _=>rfl
theorem Else.trans {xs ys zs:List α} {a c:Nat} (h:Else xs ys a c) (h2:Else ys zs a c):Else xs zs a c:=fun i hi=>(h2 i hi).trans (h i hi)
theorem Else.wide {xs ys:List α} {a c a' c':Nat} (h:Else xs ys a c) (h1:a'<=a) (h2:c<=c'):Else xs ys a' c':=fun i hi=>h i (by omega)
theorem zw {l:List α} {i j k:Nat} {x y:α} (hi:i<l.length) (hj:j<l.length):((l.set i x).set j y)[k]?=if k=j then some y else if k=i then some x else l[k]?:=by
 rw [List.getElem?_set,List.getElem?_set,List.length_set]
 by_cases h:k=j
 ·subst h
  simp [hj]
 ·rw [if_neg (Ne.symm h),if_neg h]
  by_cases h2:k=i
  ·subst h2
   simp [hi]
  ·rw [if_neg (Ne.symm h2),if_neg h2]
theorem zu {l:List α} {i j a c:Nat} {x y:α} (hi:i<l.length) (hj:j<l.length) (h1:a<=i/\i<c) (h2:a<=j/\j<c):Else l ((l.set i x).set j y) a c:=fun k hk=>by
 rw [zw hi hj,if_neg (by omega),if_neg (by omega)]
variable {r:α->α->Int}
structure Ins (r:α->α->Int) (zs:List α) (a k i:Nat):Prop where
 all:∀ p q x y,a<=p->p<q->q<=i->p≠k->q≠k->zs[p]?=some x->zs[q]?=some y->up r x y
 one:∀ q x y,k<q->q<=i->zs[k]?=some x->zs[q]?=some y->up r x y
theorem Ins.start {zs:List α} {a i:Nat} (h:Srt r zs a i):Ins r zs a i i :=
 ⟨fun p q x y h1 h2 h3 h4 h5=>h p q x y h1 h2 (by omega),fun q x y h1 h2=>absurd h1 (by omega)⟩
theorem Ins.step {zs:List α} {a k i:Nat} {x y:α} (hr:Orders r) (h:Ins r zs a k i) (ha:a<k) (hk:k<=i) (hi:i<zs.length) (hx:zs[k]?=some x) (hy:zs[k - 1]?=some y) (hlt:r x y<0):Ins r ((zs.set k y).set (k - 1) x) a (k - 1) i:=by
 have hxy:up r x y:=(hr.total x y).resolve_right fun h=>h hlt
 constructor
 ·intro p q u v h1 h2 h3 h4 h5 hu hv
  rw [zw (by omega) (by omega)] at hu hv
  rw [if_neg h4] at hu
  rw [if_neg h5] at hv
  by_cases hp:p=k
  ·rw [if_pos hp] at hu
   cases hu
   rw [if_neg (by omega)] at hv
   exact h.all (k - 1) q y v (by omega) (by omega) h3 (by omega) (by omega) hy hv
  ·rw [if_neg hp] at hu
   by_cases hq:q=k
   ·rw [if_pos hq] at hv
    cases hv
    exact h.all p (k - 1) u y h1 (by omega) (by omega) hp (by omega) hu hy
   ·rw [if_neg hq] at hv
    exact h.all p q u v h1 h2 h3 hp hq hu hv
 ·intro q u v h1 h2 hu hv
  rw [zw (by omega) (by omega)] at hu hv
  rw [if_pos rfl] at hu
  cases hu
  rw [if_neg (by omega)] at hv
  by_cases hq:q=k
  ·rw [if_pos hq] at hv
   cases hv
   exact hxy
  ·rw [if_neg hq] at hv
   exact h.one q x v (by omega) h2 hx hv
theorem Ins.done {zs:List α} {a k i:Nat} (hr:Orders r) (h:Ins r zs a k i) (hk:k<=i) (hi:i<zs.length) (hd:k<=a∨∃ x y,zs[k]?=some x/\zs[k - 1]?=some y/\¬ r x y<0) (ha:a<=k):Srt r zs a (i+1):=by
 intro p q u v h1 h2 h3 hu hv
 by_cases hp:p=k
 ·subst hp
  exact h.one q u v h2 (by omega) hu hv
 by_cases hq:q=k
 ·subst hq
  rcases hd with hd | ⟨x,y,hx,hy,hn⟩
  ·omega
  ·rw [hx] at hv
   cases hv
   by_cases hp2:p=q - 1
   ·subst hp2
    rw [hy] at hu
    cases hu
    exact hn
   ·exact hr.trans _ _ _ (h.all p (q - 1) u _ h1 (by omega) (by omega) hp (by omega) hu hy) hn
 ·exact h.all p q u v h1 h2 (by omega) hp hq hu hv
theorem Srt.join {xs:List α} {a m c:Nat} (h1:Srt r xs a m) (h2:Srt r xs m c) (h:∀ i j x y,a<=i->i<m->m<=j->j<c->xs[i]?=some x->xs[j]?=some y->up r x y):Srt r xs a c:=fun i j x y ha hij hc hx hy=>by
 by_cases hi:i<m
 ·by_cases hj:j<m
  ·exact h1 i j x y ha hij hj hx hy
  ·exact h i j x y ha hi (by omega) hc hx hy
 ·exact h2 i j x y (by omega) hij hc hx hy
theorem Srt.small {xs:List α} {a c:Nat} (h:c<=a+1):Srt r xs a c:=fun i j x y h1 h2 h3=>by omega
theorem Srt.else {xs ys:List α} {a c a' c':Nat} (h:Srt r xs a c) (he:Else xs ys a' c') (hd:c<=a'∨c'<=a):Srt r ys a c:=fun i j x y h1 h2 h3 hx hy=>by
 rw [he i (by omega)] at hx
 rw [he j (by omega)] at hy
 exact h i j x y h1 h2 h3 hx hy
end
end
section
section
variable {α:Type} {r:α->α->Int}
def Heap (r:α->α->Int) (zs:List α) (f hi lo:Nat):Prop:=∀ p ch x y,lo<=p->(ch=2*p+1∨ch=2*p+2)->ch<hi->zs[f+p]?=some x->zs[f+ch]?=some y->up r y x
structure Sift (r:α->α->Int) (zs:List α) (f hi lo q:Nat):Prop where
 all:∀ p ch x y,lo<=p->(ch=2*p+1∨ch=2*p+2)->ch<hi->p≠q->zs[f+p]?=some x->zs[f+ch]?=some y->up r y x
 one:∀ p ch x y,lo<=p->(q=2*p+1∨q=2*p+2)->(ch=2*q+1∨ch=2*q+2)->ch<hi->zs[f+p]?=some x->zs[f+ch]?=some y->up r y x
theorem Sift.start {zs:List α} {f hi lo:Nat} (h:Heap r zs f hi (lo+1)):Sift r zs f hi lo lo :=
 ⟨fun p ch x y h1 h2 h3 h4=>h p ch x y (by omega) h2 h3,fun p ch x y h1 h2=>by omega⟩
theorem Sift.none {zs:List α} {f hi lo q:Nat} (h:Sift r zs f hi lo q) (hq:hi<=2*q+1):Heap r zs f hi lo:=fun p ch x y h1 h2 h3 hx hy=>by
 by_cases hp:p=q
 ·omega
 ·exact h.all p ch x y h1 h2 h3 hp hx hy
theorem Sift.stop {zs:List α} {f hi lo q:Nat} {u w:α} (hr:Orders r) (h:Sift r zs f hi lo q) (hu:zs[f+q]?=some u) (hbig:∀ ch y,(ch=2*q+1∨ch=2*q+2)->ch<hi->zs[f+ch]?=some y->up r y w) (hn:¬ r u w<0):Heap r zs f hi lo:=fun p ch x y h1 h2 h3 hx hy=>by
 by_cases hp:p=q
 ·subst hp
  rw [hu] at hx
  cases hx
  exact hr.trans y w _ (hbig ch y h2 h3 hy) hn
 ·exact h.all p ch x y h1 h2 h3 hp hx hy
theorem Sift.step {zs:List α} {f hi lo q c:Nat} {u w:α} (hr:Orders r) (h:Sift r zs f hi lo q) (hq:lo<=q) (hc:c=2*q+1∨c=2*q+2) (hch:c<hi) (hl:f+hi<=zs.length) (hw:zs[f+c]?=some w) (hbig:∀ ch y,(ch=2*q+1∨ch=2*q+2)->ch<hi->zs[f+ch]?=some y->up r y w) (hlt:r u w<0):Sift r ((zs.set (f+q) w).set (f+c) u) f hi lo c:=by
 have huw:up r u w:=(hr.total u w).resolve_right fun h=>h hlt
 constructor
 ·intro p ch x y h1 h2 h3 h4 hx hy
  rw [zw (by omega) (by omega)] at hx hy
  rw [if_neg (by omega)] at hx
  by_cases hp:p=q
  ·subst hp
   rw [if_pos rfl] at hx
   cases hx
   by_cases hcc:ch=c
   ·rw [if_pos (by omega)] at hy
    cases hy
    exact huw
   ·rw [if_neg (by omega),if_neg (by omega)] at hy
    exact hbig ch y h2 h3 hy
  ·rw [if_neg (by omega)] at hx
   rw [if_neg (by omega)] at hy
   by_cases hcq:ch=q
   ·rw [if_pos (by omega)] at hy
    cases hy
    exact h.one p c x _ h1 (by omega) hc hch hx hw
   ·rw [if_neg (by omega)] at hy
    exact h.all p ch x y h1 h2 h3 hp hx hy
 ·intro p ch x y h1 h2 h3 h4 hx hy
  have hpq:p=q:=by omega
  subst hpq
  rw [zw (by omega) (by omega)] at hx hy
  rw [if_neg (by omega),if_pos rfl] at hx
  cases hx
  rw [if_neg (by omega),if_neg (by omega)] at hy
  exact h.all c ch _ y (by omega) h3 h4 (by omega) hw hy
theorem big_one {zs:List α} {f hi q:Nat} {w:α} (hr:Orders r) (hw:zs[f+(2*q+1)]?=some w) (h:¬ 2*q+1+1<hi):∀ ch y,(ch=2*q+1∨ch=2*q+2)->ch<hi->zs[f+ch]?=some y->up r y w:=fun ch y h1 h2 hy=>by
 rcases h1 with rfl | rfl
 ·rw [hw] at hy
  cases hy
  exact (hr.total _ _).elim id id
 ·omega
theorem big_fst {zs:List α} {f hi q:Nat} {x y w:α} (hr:Orders r) (hx:zs[f+(2*q+1)]?=some x) (hy:zs[f+(2*q+1)+1]?=some y) (hw:zs[f+(2*q+1)]?=some w) (hn:¬ r x y<0):∀ ch z,(ch=2*q+1∨ch=2*q+2)->ch<hi->zs[f+ch]?=some z->up r z w:=fun ch z h1 h2 hz=>by
 rw [hx] at hw
 cases hw
 rcases h1 with rfl | rfl
 ·rw [hx] at hz
  cases hz
  exact (hr.total _ _).elim id id
 ·rw [show f+(2*q+2)=f+(2*q+1)+1 by omega,hy] at hz
  cases hz
  exact hn
theorem big_snd {zs:List α} {f hi q:Nat} {x y w:α} (hr:Orders r) (hx:zs[f+(2*q+1)]?=some x) (hy:zs[f+(2*q+1)+1]?=some y) (hw:zs[f+(2*q+1+1)]?=some w) (hn:r x y<0):∀ ch z,(ch=2*q+1∨ch=2*q+2)->ch<hi->zs[f+ch]?=some z->up r z w:=fun ch z h1 h2 hz=>by
 rw [show f+(2*q+1+1)=f+(2*q+1)+1 by omega,hy] at hw
 cases hw
 rcases h1 with rfl | rfl
 ·rw [hx] at hz
  cases hz
  exact (hr.total _ _).resolve_right fun h=>h hn
 ·rw [show f+(2*q+2)=f+(2*q+1)+1 by omega,hy] at hz
  cases hz
  exact (hr.total _ _).elim id id
end
end
section
section
variable {α:Type} {r:α->α->Int}
theorem cut3 (l:List α) {a c:Nat} (h:a<=c):l=l.take a++((l.drop a).take (c - a)++l.drop c):=by
 have e:l.drop c=(l.drop a).drop (c - a):=by rw [List.drop_drop]; congr 1; omega
 rw [e,List.take_append_drop,List.take_append_drop]
theorem Else.part {xs ys:List α} {a c:Nat} (h:Else xs ys a c) (hp:ys.Perm xs) (hac:a<=c):((ys.drop a).take (c - a)).Perm ((xs.drop a).take (c - a)):=by
 have h1:ys.take a=xs.take a:=List.ext_getElem? fun i=>by
  rw [zbt,zbt]
  split
  ·exact h i (.inl ‹_›)
  ·rfl
 have h2:ys.drop c=xs.drop c:=List.ext_getElem? fun i=>by
  rw [List.getElem?_drop,List.getElem?_drop]
  exact h _ (.inr (by omega))
 rw [cut3 ys hac,cut3 xs hac,h1,h2] at hp
 exact (List.perm_append_right_iff _).1 ((List.perm_append_left_iff _).1 hp)
theorem Else.from {xs ys:List α} {a c p:Nat} {x:α} (h:Else xs ys a c) (hp:ys.Perm xs) (h1:a<=p) (h2:p<c) (hx:ys[p]?=some x):∃ q,a<=q/\q<c/\xs[q]?=some x:=by
 have hm:x∈(ys.drop a).take (c - a):=by
  refine List.mem_of_getElem? (i:=p - a) ?_
  rw [zbt,if_pos (by omega),List.getElem?_drop,show a+(p - a)=p by omega]
  exact hx
 obtain ⟨i,hi⟩:=List.getElem?_of_mem ((h.part hp (by omega)).mem_iff.1 hm)
 rw [zbt] at hi
 split at hi
 ·rw [List.getElem?_drop] at hi
  exact ⟨a+i,by omega,by omega,hi⟩
 ·cases hi
theorem Heap.max {zs:List α} {f hi:Nat} (hr:Orders r) (h:Heap r zs f hi 0) (hl:f+hi<=zs.length):∀ (p:Nat) (x y:α),p<hi->zs[f]?=some x->zs[f+p]?=some y->up r y x
 | 0,x,y,hp,hx,hy=>by
  rw [Nat.add_zero,hx] at hy
  cases hy
  exact (hr.total _ _).elim id id
 | p+1,x,y,hp,hx,hy=>by
  have hq:p / 2<p+1:=by omega
  have hz:zs[f+p / 2]?=some zs[f+p / 2]:=zak (by omega)
  generalize zs[f+p / 2]=z at hz
  exact hr.trans y z x (h (p / 2) (p+1) z y (Nat.zero_le _) (by omega) hp hz hy) (Heap.max hr h hl (p / 2) x z (by omega) hx hz)
structure Popd (r:α->α->Int) (ys:List α) (a c i:Nat):Prop where
 heap:Heap r ys a i 0
 srt:Srt r ys (a+i) c
 cross:∀ p q x y,a<=p->p<a+i->a+i<=q->q<c->ys[p]?=some x->ys[q]?=some y->up r x y
theorem Popd.start {ys:List α} {a c:Nat} (h:Heap r ys a (c - a) 0) (hac:a<=c):Popd r ys a c (c - a) :=
 ⟨h,fun i j x y h1 h2 h3=>by omega,fun p q x y h1 h2 h3 h4=>by omega⟩
theorem Popd.swap {ys:List α} {a c k:Nat} {x y:α} (h:Popd r ys a c (k+1)) (hk:a+k<ys.length):Heap r ((ys.set a y).set (a+k) x) a k (0+1):=fun p ch u v h1 h2 h3 hu hv=>by
 rw [zw (by omega) (by omega),if_neg (by omega),if_neg (by omega)] at hu hv
 exact h.heap p ch u v (Nat.zero_le _) h2 (by omega) hu hv
theorem Popd.next {ys zs:List α} {a c k:Nat} {x y:α} (hr:Orders r) (h:Popd r ys a c (k+1)) (hk:a+(k+1)<=ys.length) (hkc:a+k<c) (hx:ys[a]?=some x) (hy:ys[a+k]?=some y) (he:Else ((ys.set a y).set (a+k) x) zs a (a+k)) (hp:zs.Perm ((ys.set a y).set (a+k) x)) (hh:Heap r zs a k 0):Popd r zs a c k:=by
 have hat:∀ j,a+k<=j->zs[j]?=if j=a+k then some x else ys[j]?:=fun j hj=>by
  rw [he j (.inr hj),zw (by omega) (by omega)]
  by_cases h1:j=a+k
  ·rw [if_pos h1,if_pos h1]
  ·rw [if_neg h1,if_neg h1,if_neg (by omega)]
 have hin:∀ p u,a<=p->p<a+k->zs[p]?=some u->up r u x/\∀ q v,a+k<q->q<c->ys[q]?=some v->up r u v:=fun p u h1 h2 hu=>by
  obtain ⟨q,g1,g2,g3⟩:=he.from hp h1 h2 hu
  rw [zw (by omega) (by omega),if_neg (by omega)] at g3
  by_cases hq:q=a
  ·rw [if_pos hq] at g3
   cases g3
   exact ⟨h.heap.max hr hk k x _ (by omega) hx hy,fun q v h3 h4 hv=>h.cross (a+k) q _ v (by omega) (by omega) (by omega) h4 hy hv⟩
  ·rw [if_neg hq] at g3
   refine ⟨h.heap.max hr hk (q - a) x u (by omega) hx (by rw [show a+(q - a)=q by omega]; exact g3),fun q' v h3 h4 hv=>h.cross q q' u v g1 (by omega) (by omega) h4 g3 hv⟩
 refine ⟨hh,fun i j u v h1 h2 h3 hu hv=>?_,fun p q u v h1 h2 h3 h4 hu hv=>?_⟩
 ·rw [hat i h1] at hu
  rw [hat j (by omega),if_neg (by omega)] at hv
  by_cases hi:i=a+k
  ·rw [if_pos hi] at hu
   cases hu
   exact h.cross a j _ v (zaq _) (by omega) (by omega) h3 hx hv
  ·rw [if_neg hi] at hu
   exact h.srt i j u v (by omega) h2 h3 hu hv
 ·rw [hat q h3] at hv
  by_cases hq:q=a+k
  ·rw [if_pos hq] at hv
   cases hv
   exact (hin p u h1 h2 hu).1
  ·rw [if_neg hq] at hv
   exact (hin p u h1 h2 hu).2 q v (by omega) h4 hv
end
end
section
section
variable {α:Type} {r:α->α->Int}
structure PE (r:α->α->Int) (zs:List α) (a c i j:Nat) (x:α):Prop where
 piv:zs[a]?=some x
 left:∀ k y,a<k->k<i->zs[k]?=some y->¬ r x y<0
 right:∀ k y,j<k->k<c->zs[k]?=some y->r x y<0
theorem PE.start {xs:List α} {a c p:Nat} {x y:α} (ha:a<xs.length) (hp:p<xs.length) (hx:xs[a]?=some x) (hy:xs[p]?=some y):PE r ((xs.set a y).set p x) a c (a+1) (c - 1) y:=by
 refine ⟨?_,fun k y h1 h2=>by omega,fun k y h1 h2=>by omega⟩
 rw [zw ha hp]
 by_cases h:a=p
 ·subst h
  rw [if_pos rfl,← hx,hy]
 ·rw [if_neg h,if_pos rfl]
theorem PE.up {zs:List α} {a c i j:Nat} {x y:α} (h:PE r zs a c i j x) (hy:zs[i]?=some y) (hn:¬ r x y<0):PE r zs a c (i+1) j x :=
 ⟨h.piv,fun k z h1 h2 hz=>by
  by_cases hk:k=i
  ·subst hk
   rw [hy] at hz
   cases hz
   exact hn
  ·exact h.left k z h1 (by omega) hz,h.right⟩
theorem PE.down {zs:List α} {a c i j:Nat} {x y:α} (h:PE r zs a c i j x) (hy:zs[j]?=some y) (hn:r x y<0):PE r zs a c i (j - 1) x :=
 ⟨h.piv,h.left,fun k z h1 h2 hz=>by
  by_cases hk:k=j
  ·subst hk
   rw [hy] at hz
   cases hz
   exact hn
  ·exact h.right k z (by omega) h2 hz⟩
theorem PE.swap {zs:List α} {a c i j:Nat} {x u v:α} (h:PE r zs a c i j x) (ha:a<i) (hij:i<=j) (hi:i<zs.length) (hj:j<zs.length) (hu:zs[i]?=some u) (hv:zs[j]?=some v) (h1:r x u<0) (h2:¬ r x v<0):PE r ((zs.set i v).set j u) a c (i+1) (j - 1) x:=by
 refine ⟨?_,fun k z g1 g2 hz=>?_,fun k z g1 g2 hz=>?_⟩
 ·rw [zw hi hj,if_neg (by omega),if_neg (by omega)]
  exact h.piv
 ·rw [zw hi hj] at hz
  by_cases hk:k=j
  ·have:i=j:=by omega
   subst this
   rw [hu] at hv
   cases hv
   exact absurd h1 h2
  ·rw [if_neg hk] at hz
   by_cases hk2:k=i
   ·rw [if_pos hk2] at hz
    cases hz
    exact h2
   ·rw [if_neg hk2] at hz
    exact h.left k z g1 (by omega) hz
 ·rw [zw hi hj] at hz
  by_cases hk:k=j
  ·rw [if_pos hk] at hz
   cases hz
   exact h1
  ·rw [if_neg hk] at hz
   by_cases hk2:k=i
   ·omega
   ·rw [if_neg hk2] at hz
    exact h.right k z (by omega) g2 hz
structure DivE (r:α->α->Int) (zs:List α) (a c q:Nat) (x:α):Prop where
 left:∀ k y,a<=k->k<q->zs[k]?=some y->¬ r x y<0
 right:∀ k y,q<=k->k<c->zs[k]?=some y->r x y<0
theorem PE.done {zs:List α} {a c i j:Nat} {x:α} (hr:Orders r) (h:PE r zs a c i j x) (hij:j<i):DivE r zs a c i x :=
 ⟨fun k y h1 h2 hy=>by
  by_cases hk:k=a
  ·subst hk
   rw [h.piv] at hy
   cases hy
   exact (hr.total _ _).elim id id
  ·exact h.left k y (by omega) h2 hy,fun k y h1 h2 hy=>h.right k y (by omega) h2 hy⟩
end
end
section
section
variable {α:Type} {r:α->α->Int}
structure PF (r:α->α->Int) (zs:List α) (a c i j:Nat) (x:α):Prop where
 piv:zs[a]?=some x
 left:∀ k y,a<k->k<i->zs[k]?=some y->r y x<0
 right:∀ k y,j<k->k<c->zs[k]?=some y->¬ r y x<0
theorem PF.start {xs:List α} {a c p:Nat} {x y:α} (ha:a<xs.length) (hp:p<xs.length) (hx:xs[a]?=some x) (hy:xs[p]?=some y):PF r ((xs.set a y).set p x) a c (a+1) (c - 1) y:=by
 refine ⟨?_,fun k y h1 h2=>by omega,fun k y h1 h2=>by omega⟩
 rw [zw ha hp]
 by_cases h:a=p
 ·subst h
  rw [if_pos rfl,← hx,hy]
 ·rw [if_neg h,if_pos rfl]
theorem PF.up {zs:List α} {a c i j:Nat} {x y:α} (h:PF r zs a c i j x) (hy:zs[i]?=some y) (hn:r y x<0):PF r zs a c (i+1) j x :=
 ⟨h.piv,fun k z h1 h2 hz=>by
  by_cases hk:k=i
  ·subst hk
   rw [hy] at hz
   cases hz
   exact hn
  ·exact h.left k z h1 (by omega) hz,h.right⟩
theorem PF.down {zs:List α} {a c i j:Nat} {x y:α} (h:PF r zs a c i j x) (hy:zs[j]?=some y) (hn:¬ r y x<0):PF r zs a c i (j - 1) x :=
 ⟨h.piv,h.left,fun k z h1 h2 hz=>by
  by_cases hk:k=j
  ·subst hk
   rw [hy] at hz
   cases hz
   exact hn
  ·exact h.right k z (by omega) h2 hz⟩
theorem PF.swap {zs:List α} {a c i j:Nat} {x u v:α} (h:PF r zs a c i j x) (ha:a<i) (hij:i<=j) (hi:i<zs.length) (hj:j<zs.length) (hu:zs[i]?=some u) (hv:zs[j]?=some v) (h1:¬ r u x<0) (h2:r v x<0):PF r ((zs.set i v).set j u) a c (i+1) (j - 1) x:=by
 refine ⟨?_,fun k z g1 g2 hz=>?_,fun k z g1 g2 hz=>?_⟩
 ·rw [zw hi hj,if_neg (by omega),if_neg (by omega)]
  exact h.piv
 ·rw [zw hi hj] at hz
  by_cases hk:k=j
  ·have:i=j:=by omega
   subst this
   rw [hu] at hv
   cases hv
   exact absurd h2 h1
  ·rw [if_neg hk] at hz
   by_cases hk2:k=i
   ·rw [if_pos hk2] at hz
    cases hz
    exact h2
   ·rw [if_neg hk2] at hz
    exact h.left k z g1 (by omega) hz
 ·rw [zw hi hj] at hz
  by_cases hk:k=j
  ·rw [if_pos hk] at hz
   cases hz
   exact h1
  ·rw [if_neg hk] at hz
   by_cases hk2:k=i
   ·omega
   ·rw [if_neg hk2] at hz
    exact h.right k z (by omega) g2 hz
structure DivP (r:α->α->Int) (zs:List α) (a c q:Nat) (x:α):Prop where
 piv:zs[q]?=some x
 left:∀ k y,a<=k->k<q->zs[k]?=some y->r y x<0
 right:∀ k y,q<k->k<c->zs[k]?=some y->¬ r y x<0
theorem PF.done {zs:List α} {a c i j:Nat} {x v:α} (h:PF r zs a c i j x) (hij:j<i) (haj:a<=j) (ha:a<zs.length) (hj:j<zs.length) (hv:zs[j]?=some v):DivP r ((zs.set j x).set a v) a c j x:=by
 refine ⟨?_,fun k y h1 h2 hy=>?_,fun k y h1 h2 hy=>?_⟩
 ·rw [zw hj ha]
  by_cases hk:j=a
  ·rw [if_pos hk,← hv,hk,h.piv]
  ·rw [if_neg hk,if_pos rfl]
 ·rw [zw hj ha] at hy
  by_cases hk:k=a
  ·rw [if_pos hk] at hy
   cases hy
   exact h.left j _ (by omega) hij hv
  ·rw [if_neg hk,if_neg (by omega)] at hy
   exact h.left k y (by omega) (by omega) hy
 ·rw [zw hj ha,if_neg (by omega),if_neg (by omega)] at hy
  exact h.right k y h1 h2 hy
theorem DivP.srt {xs:List α} {a c q:Nat} {x:α} (hr:Orders r) (h:DivP r xs a c q x) (h1:Srt r xs a q) (h2:Srt r xs (q+1) c):Srt r xs a c:=fun i j u v g1 g2 g3 hu hv=>by
 have hl:∀ k y,a<=k->k<q->xs[k]?=some y->up r y x:=fun k y k1 k2 hy=>(hr.total y x).resolve_right fun h'=>h' (h.left k y k1 k2 hy)
 by_cases hi:i<q
 ·by_cases hj:j<q
  ·exact h1 i j u v g1 g2 hj hu hv
  ·by_cases hjq:j=q
   ·subst hjq
    rw [h.piv] at hv
    cases hv
    exact hl i u g1 hi hu
   ·exact hr.trans u x v (hl i u g1 hi hu) (h.right j v (by omega) g3 hv)
 ·by_cases hiq:i=q
  ·subst hiq
   rw [h.piv] at hu
   cases hu
   exact h.right j v g2 g3 hv
  ·exact h2 i j u v (by omega) g2 g3 hu hv
end
end
section
section
variable {α:Type} {r:α->α->Int}
theorem Srt.mono {xs:List α} {a c a' c':Nat} (h:Srt r xs a c) (h1:a<=a') (h2:c'<=c):Srt r xs a' c':=fun i j x y g1 g2 g3=>h i j x y (by omega) g2 (by omega)
theorem Srt.ext {xs:List α} {a i:Nat} {x y:α} (hr:Orders r) (h:Srt r xs a i) (hx:xs[i - 1]?=some x) (hy:xs[i]?=some y) (hn:¬ r y x<0):Srt r xs a (i+1):=fun p q u v h1 h2 h3 hu hv=>by
 by_cases hq:q=i
 ·subst hq
  rw [hy] at hv
  cases hv
  by_cases hp:p=q - 1
  ·subst hp
   rw [hx] at hu
   cases hu
   exact hn
  ·exact hr.trans _ _ _ (h p (q - 1) u x h1 (by omega) (by omega) hu hx) hn
 ·exact h p q u v h1 h2 (by omega) hu hv
def Pre (r:α->α->Int) (xs:List α) (a c:Nat):Prop:=∀ k x y,0<a->a<=k->k<c->xs[a - 1]?=some x->xs[k]?=some y->¬ r y x<0
theorem Pre.move {xs ys:List α} {a c:Nat} (h:Pre r xs a c) (hp:ys.Perm xs) (he:Else xs ys a c):Pre r ys a c:=fun k x y h0 h1 h2 hx hy=>by
 rw [he (a - 1) (by omega)] at hx
 obtain ⟨q,g1,g2,g3⟩:=he.from hp h1 h2 hy
 exact h q x y h0 g1 g2 hx g3
theorem Pre.at {xs ys:List α} {a c k:Nat} {x y:α} (h:Pre r xs a c) (hp:ys.Perm xs) (he:Else xs ys a c) (h0:0<a) (h1:a<=k) (h2:k<c) (hx:ys[a - 1]?=some x) (hy:ys[k]?=some y):¬ r y x<0:=h.move hp he k x y h0 h1 h2 hx hy
structure Mv (xs ys:List α) (a c:Nat):Prop where
 perm:ys.Perm xs
 els:Else xs ys a c
theorem Mv.refl (xs:List α) (a c:Nat):Mv xs xs a c:=⟨List.Perm.refl _,Else.refl _ _ _⟩
theorem Mv.trans {xs ys zs:List α} {a c:Nat} (h:Mv xs ys a c) (h2:Mv ys zs a c):Mv xs zs a c:=⟨h2.perm.trans h.perm,h.els.trans h2.els⟩
theorem Mv.wide {xs ys:List α} {a c a' c':Nat} (h:Mv xs ys a c) (h1:a'<=a) (h2:c<=c'):Mv xs ys a' c':=⟨h.perm,h.els.wide h1 h2⟩
theorem Mv.all {xs ys:List α} {a c b d:Nat} {P:α->Prop} (h:Mv xs ys b d) (h1:a<=b) (h2:d<=c) (hP:∀ k x,a<=k->k<c->xs[k]?=some x->P x):∀ k x,a<=k->k<c->ys[k]?=some x->P x:=fun k x g1 g2 hx=>by
 by_cases hk:b<=k/\k<d
 ·obtain ⟨q,q1,q2,q3⟩:=h.els.from h.perm hk.1 hk.2 hx
  exact hP q x (by omega) (by omega) q3
 ·rw [h.els k (by omega)] at hx
  exact hP k x g1 g2 hx
end
end
section
section
variable {α:Type} {r:α->α->Int}
theorem Mv.swap {xs ys:List α} {a c i j:Nat} {x y:α} (h:Mv xs ys a c) (hi:i<ys.length) (hj:j<ys.length) (h1:a<=i/\i<c) (h2:a<=j/\j<c) (hp:((ys.set i x).set j y).Perm ys):Mv xs ((ys.set i x).set j y) a c:=⟨hp.trans h.perm,h.els.trans (zu hi hj h1 h2)⟩
structure Stg (r:α->α->Int) (ys:List α) (x y a c:Nat):Prop where
 lo:a<=x
 hi:y<=c
 pre:Pre r ys x y
 rest:∀ zs,Mv ys zs x y->Srt r zs x y->Srt r zs a c
theorem Stg.start {ys:List α} {a c:Nat} (h:Pre r ys a c):Stg r ys a c a c:=⟨zaq _,zaq _,h,fun _ _ h=>h⟩
theorem Stg.move {ys zs:List α} {x y a c:Nat} (h:Stg r ys x y a c) (hm:Mv ys zs x y):Stg r zs x y a c:=⟨h.lo,h.hi,h.pre.move hm.perm hm.els,fun us hu hs=>h.rest us (hm.trans hu) hs⟩
theorem Stg.trans {ys zs:List α} {x y x' y' a c:Nat} (h:Stg r ys x y a c) (hm:Mv ys zs x y) (h2:Stg r zs x' y' x y):Stg r zs x' y' a c :=
 ⟨zbo h.lo h2.lo,zbo h2.hi h.hi,h2.pre,fun us hu hs=>h.rest us (hm.trans (hu.wide h2.lo h2.hi)) (h2.rest us hu hs)⟩
theorem Pre.cut {ys:List α} {a c c':Nat} (h:Pre r ys a c) (hc:c'<=c):Pre r ys a c':=fun k x y h0 h1 h2=>h k x y h0 h1 (by omega)
theorem Stg.low {ys zs:List α} {a c q:Nat} {x pv:α} (hr:Orders r) (hpre:Pre r ys a c) (h0:0<a) (haq:a<q) (hqc:q<=c) (hx:ys[a - 1]?=some x) (hn:¬ r x pv<0) (hm:Mv ys zs a c) (hd:DivE r zs a c q pv) (hl:c<=zs.length):Stg r zs q c a c:=by
 have hp:=hpre.move hm.perm hm.els
 have hx2:zs[a - 1]?=some x:=(hm.els (a - 1) (by omega)).trans hx
 have low:∀ k k' y z,a<=k->k<q->a<=k'->k'<c->zs[k]?=some y->zs[k']?=some z->up r y z:=fun k k' y z h1 h2 h3 h4 hy hz =>
  hr.trans _ _ _ (hr.trans y pv x (hd.left k y h1 h2 hy) hn) (hp k' x z h0 h3 h4 hx2 hz)
 refine ⟨by omega,zaq _,fun k u v g0 g1 g2 hu hv=>low (q - 1) k u v (by omega) (by omega) (by omega) g2 hu hv,fun us hu hs=>?_⟩
 have hlow:∀ k' z,q<=k'->k'<c->us[k']?=some z->∀ k y,a<=k->k<q->zs[k]?=some y->up r y z :=
  hu.all (zaq _) (zaq _) (P:=fun z=>∀ k y,a<=k->k<q->zs[k]?=some y->up r y z) fun k' z h1 h2 hz k y h3 h4 hy=>low k k' y z h3 h4 (by omega) h2 hy hz
 refine Srt.join (m:=q) (fun i j u v g1 g2 g3 hu1 hv1=>?_) hs fun i j u v g1 g2 g3 g4 hu1 hv1=>?_
 ·rw [hu.els i (by omega)] at hu1
  rw [hu.els j (by omega)] at hv1
  exact low i j u v g1 (by omega) (by omega) (by omega) hu1 hv1
 ·rw [hu.els i (by omega)] at hu1
  exact hlow j v g3 g4 hv1 i u g1 g2 hu1
theorem DivP.move {ys zs:List α} {a c q b d:Nat} {x:α} (h:DivP r ys a c q x) (hm:Mv ys zs b d) (hb:a<=b/\d<=q∨q<b/\d<=c):DivP r zs a c q x:=by
 refine ⟨(hm.els q (by omega)).trans h.piv,fun k y h1 h2 hy=>?_,fun k y h1 h2 hy=>?_⟩
 ·by_cases hk:b<=k/\k<d
  ·obtain ⟨k2,q1,q2,q3⟩:=hm.els.from hm.perm hk.1 hk.2 hy
   exact h.left k2 y (by omega) (by omega) q3
  ·rw [hm.els k (by omega)] at hy
   exact h.left k y h1 h2 hy
 ·by_cases hk:b<=k/\k<d
  ·obtain ⟨k2,q1,q2,q3⟩:=hm.els.from hm.perm hk.1 hk.2 hy
   exact h.right k2 y (by omega) (by omega) q3
  ·rw [hm.els k (by omega)] at hy
   exact h.right k y h1 h2 hy
theorem DivP.pre_right {ys:List α} {a c q:Nat} {x:α} (h:DivP r ys a c q x):Pre r ys (q+1) c:=fun k u v _ h1 h2 hu hv=>by
 rw [Nat.add_sub_cancel,h.piv] at hu
 cases hu
 exact h.right k v (by omega) h2 hv
theorem Stg.right {ys zs:List α} {a c q:Nat} {x:α} (hr:Orders r) (h:DivP r ys a c q x) (haq:a<=q) (hm:Mv ys zs a q) (hs:Srt r zs a q):Stg r zs (q+1) c a c:=by
 have h2:=h.move hm (.inl ⟨zaq _,zaq _⟩)
 exact ⟨by omega,zaq _,h2.pre_right,fun us hu hus=>(h2.move hu (.inr ⟨by omega,zaq _⟩)).srt hr (hs.else hu.els (.inl (by omega))) hus⟩
theorem Stg.left {ys zs:List α} {a c q:Nat} {x:α} (hr:Orders r) (h:DivP r ys a c q x) (hpre:Pre r ys a c) (haq:a<=q) (hqc:q<c) (hm:Mv ys zs (q+1) c) (hs:Srt r zs (q+1) c):Stg r zs a q a c:=by
 have h2:=h.move hm (.inr ⟨by omega,zaq _⟩)
 have hp:Pre r zs a c:=hpre.move hm.perm (hm.els.wide (by omega) (zaq _))
 exact ⟨zaq _,by omega,hp.cut (by omega),fun us hu hus=>(h2.move hu (.inl ⟨zaq _,zaq _⟩)).srt hr hus (hs.else hu.els (.inr (by omega)))⟩
end
end
end Go.Proofs.YtgmifgfbnnbgjaaGreatDoor
end
