/-
  A part of the proof: the small machine, its simulation and its walks.
-/
import Derived.Test.YtdacpmgnhkmnkaaGreatDoorPb
import Derived.Test.YtdacpmgnhkmnkaaGreatDoorPc
set_option linter.unusedVariables false
set_option linter.unusedSimpArgs false
set_option linter.unusedSectionVars false
set_option maxRecDepth 1000000
set_option maxHeartbeats 3200000
open Nat renaming reduceLT → Xa, reduceAdd → Xb, reduceMul → Xc, reduceLeDiff → Xd, reduceEqDiff → Xe
section
namespace Go.Proofs.YtdacpmgnhkmnkaaGreatDoor
section
def sm {α:Type} (f:α->Int):List α->Int
 | []=>0
 | x::l=>f x+sm f l
section
variable {α:Type} {f g:α->Int} {l r:List α}
theorem zu:sm f (l++r)=sm f l+sm f r:=by
 induction l with
 | nil=>simp [sm]
 | cons x l ih=>simp only [zgq,sm,ih]; omega
theorem zfa:sm f l.reverse=sm f l:=by
 induction l with
 | nil=>rfl
 | cons x l ih=>simp only [List.reverse_cons,zu,sm,ih]; omega
theorem yv {β:Type} {h:β->α} {l:List β}:sm f (l.map h)=sm (fun x=>f (h x)) l:=by
 induction l with
 | nil=>rfl
 | cons x l ih=>simp only [zg3,sm,ih]
theorem zY (h:∀ x∈l,f x=0):sm f l=0:=by
 induction l with
 | nil=>rfl
 | cons x l ih=>simp only [sm,h x (zgi ..),ih fun y hy=>h y (zgn _ hy)]; rfl
theorem zp (h:∀ x∈l,f x=g x):sm f l=sm g l:=by
 induction l with
 | nil=>rfl
 | cons x l ih=>simp only [sm,h x (zgi ..),ih fun y hy=>h y (zgn _ hy)]
theorem YB:sm (fun x=>f x+g x) l=sm f l+sm g l:=by
 induction l with
 | nil=>rfl
 | cons x l ih=>simp only [sm,ih]; omega
theorem yN:sm (fun x=>f x - g x) l=sm f l - sm g l:=by
 induction l with
 | nil=>rfl
 | cons x l ih=>simp only [sm,ih]; omega
end
structure Dt (S:Type) where
 s:S
 up:Bool
def Dt.rev {S:Type} (x:Dt S):Dt S:=⟨x.s,!x.up⟩
structure Strips (S:Type) where
 L:Int->List S
 P:Int->List S
 D:Int->List S
 U:Int->List S
 Q:Int->List S
 lo:S->Int
 hi:S->Int
 below:∀ m,L (m - 1)=P m++(D m++Q m)
 above:∀ m,L m=P m++(U m++Q m)
 nodup:∀ m,(L m).Nodup
 lt:∀ s,lo s<hi s
 mem:∀ m s,s∈L m↔lo s<=m/\m<hi s
 ends:∀ m s,s∈D m↔hi s=m
 starts:∀ m s,s∈U m↔lo s=m
section
variable {S:Type} [DecidableEq S] {T:Strips S} {σ:S->Int} {m:Int} {s t:S}
def aft (σ:S->Int) (s:S):List S->Int
 | []=>0
 | x::l=>if x=s then sm σ l else aft σ s l
theorem aft_split {l r:List S} (h:s ∉ l):aft σ s (l++s::r)=sm σ r:=by
 induction l with
 | nil=>simp [aft]
 | cons x l ih =>
  simp only [zgf,not_or] at h
  simp only [zgq,aft,if_neg (Ne.symm h.1),ih h.2]
theorem ZW {l r:List S} (h:s ∉ l):aft σ s (l++r)=aft σ s r:=by
 induction l with
 | nil=>rfl
 | cons x l ih =>
  simp only [zgf,not_or] at h
  simp only [zgq,aft,if_neg (Ne.symm h.1),ih h.2]
theorem aft_in {l r:List S} (h:s∈l):aft σ s (l++r)=aft σ s l+sm σ r:=by
 induction l with
 | nil=>cases h
 | cons x l ih =>
  simp only [zgq,aft]
  by_cases hx:x=s
  ·simp only [if_pos hx,zu]
  ·simp only [if_neg hx]
   exact ih (by rcases zgf.1 h with h | h; exact absurd h.symm hx; exact h)
def Strips.ring (T:Strips S) (m:Int):List (Dt S):=(T.U m).reverse.map (⟨·,true⟩)++(T.D m).map (⟨·,false⟩)
def Strips.Flow (T:Strips S) (σ:S->Int):Prop:=∀ m,sm σ (T.D m)=sm σ (T.U m)
def Strips.east (T:Strips S) (σ:S->Int) (s:S):Int:=aft σ s (T.L (T.lo s))
theorem Strips.step (hF:T.Flow σ) (h1:T.lo s<m) (h2:m<T.hi s):aft σ s (T.L m)=aft σ s (T.L (m - 1)):=by
 have hd:s ∉ T.D m:=fun h=>by have:=(T.ends m s).1 h; omega
 have hu:s ∉ T.U m:=fun h=>by have:=(T.starts m s).1 h; omega
 have hm:s∈T.L m:=(T.mem m s).2 ⟨by omega,h2⟩
 rw [T.above] at hm
 rw [T.above,T.below]
 have hf:=hF m
 by_cases hp:s∈T.P m
 ·rw [aft_in hp,aft_in hp,zu,zu,hf]
 ·rw [ZW hp,ZW hp,ZW hd,ZW hu]
theorem Strips.east_at (hF:T.Flow σ) (h1:T.lo s<=m) (h2:m<T.hi s):aft σ s (T.L m)=T.east σ s:=by
 obtain ⟨k,rfl⟩:∃ k:Nat,m=T.lo s+k:=⟨(m - T.lo s).toNat,by omega⟩
 induction k with
 | zero=>unfold Strips.east; simp
 | succ k ih =>
  rw [Strips.step hF (by omega) h2,show T.lo s+((k+1:Nat):Int) - 1=T.lo s+(k:Int) by omega]
  exact ih (by omega) (by omega)
structure Strips.Cyc (T:Strips S) (f:Dt S->Bool):Prop where
 turn:∀ m (A B:List (Dt S)) x y,T.ring m=A++x::y::B->f y.rev=f x
 wrap:∀ m (B:List (Dt S)) x y,T.ring m=y::B->(T.ring m).getLast?=some x->f y.rev=f x
def b2 (b:Bool):Int:=if b then 1 else 0
def sg (f:Dt S->Bool) (s:S):Int:=b2 (f ⟨s,true⟩) - b2 (f ⟨s,false⟩)
theorem shift_sum {α:Type} {p q:α->Int}:∀ (B:List α) (y:α),(∀ A C x z,y::B=A++x::z::C->q z=p x)->∀ x,(y::B).getLast?=some x->sm q B+p x=sm p (y::B)
 | [],y,_,x,h=>by
  simp only [List.getLast?_singleton,zf5] at h
  subst h
  simp [sm]
 | z::B,y,hc,x,h=>by
  have ih:=shift_sum B z (fun A C x w e=>hc (y::A) C x w (by rw [e]; rfl)) x (by rw [← h,List.getLast?_cons_cons])
  have h1:=hc [] B y z rfl
  simp only [sm] at ih ⊢
  omega
variable {f:Dt S->Bool}
theorem ring_sum {h:Dt S->Int}:sm h (T.ring m)=sm (fun s=>h ⟨s,true⟩) (T.U m)+sm (fun s=>h ⟨s,false⟩) (T.D m):=by
 unfold Strips.ring
 rw [zu,yv,yv,zfa]
theorem Strips.Cyc.flow (h:T.Cyc f):T.Flow (sg f):=fun m=>by
 have key:sm (fun x=>b2 (f x)) (T.ring m)=sm (fun x=>b2 (f x.rev)) (T.ring m):=by
  cases hr:T.ring m with
  | nil=>rfl
  | cons y B =>
   obtain ⟨x,hx⟩:∃ x,(y::B).getLast?=some x:=⟨_,List.getLast?_eq_some_getLast (by simp)⟩
   have h1:=shift_sum (p:=fun x=>b2 (f x)) (q:=fun x=>b2 (f x.rev)) B y (fun A C x z e=>by simp only [h.turn m A C x z (hr.trans e)]) x hx
   have h2:b2 (f y.rev)=b2 (f x):=by rw [h.wrap m B x y hr (by rw [hr]; exact hx)]
   simp only [sm] at h1 ⊢
   omega
 rw [ring_sum,ring_sum] at key
 simp only [Dt.rev,zh2,zh6] at key
 have e1:sm (sg f) (T.D m)=sm (fun s=>b2 (f ⟨s,true⟩)) (T.D m) - sm (fun s=>b2 (f ⟨s,false⟩)) (T.D m):=yN
 have e2:sm (sg f) (T.U m)=sm (fun s=>b2 (f ⟨s,true⟩)) (T.U m) - sm (fun s=>b2 (f ⟨s,false⟩)) (T.U m):=yN
 omega
def Strips.kap (T:Strips S) (f:Dt S->Bool) (s:S):Int:=T.east (sg f) s - b2 (f ⟨s,false⟩)
theorem nodup_mid {A B C:List S} (h:(A++(B++C)).Nodup):(∀ x∈B,x ∉ A)/\B.Nodup:=by
 rw [List.nodup_append,List.nodup_append] at h
 exact ⟨fun x hx ha=>h.2.2 x ha x (zil _ hx) rfl,h.2.1.1⟩
theorem zc1 {A B:List S} (h:(A++s::B).Nodup):s ∉ A:=fun ha=>by
 rw [List.nodup_append] at h
 exact h.2.2 s ha s (zgi ..) rfl
theorem east_mid {A P Q:List S} {B:List S} (h:(P++(A++s::B++Q)).Nodup):aft σ s (P++(A++s::B++Q))=sm σ B+sm σ Q:=by
 obtain ⟨h1,h2⟩:=nodup_mid h
 rw [ZW (h1 s (by simp)),zgu,ZW (zc1 h2),zgq]
 simp only [aft,if_true,zu]
theorem zfb (h:T.Cyc f) {A B:List (Dt S)} {x:Dt S} (e:T.ring m=A++x::B):T.kap f x.s=sm (sg f) (T.Q m)+sm (fun y=>b2 (f y) - b2 (f y.rev)) A - b2 (f x.rev):=by
 have hF:=h.flow
 unfold Strips.ring at e
 have down:∀ A2,A=(T.U m).reverse.map (⟨·,true⟩)++A2->(T.D m).map (⟨·,false⟩)=A2++x::B->T.kap f x.s=sm (sg f) (T.Q m)+sm (fun y=>b2 (f y) - b2 (f y.rev)) A - b2 (f x.rev):=fun A2 hA hB=>by
  rw [hA]
  obtain ⟨D1,D2',hD,rfl,hx⟩:=List.map_eq_append_iff.1 hB
  obtain ⟨d,D2,rfl,rfl,rfl⟩:=List.map_eq_cons_iff.1 hx
  have hn:=T.nodup (m - 1)
  rw [T.below,hD] at hn
  have hhi:=(T.ends m d).1 (by rw [hD]; simp)
  have hlt:=T.lt d
  have he:=T.east_at hF (s:=d) (m:=m - 1) (by omega) (by omega)
  rw [T.below,hD,east_mid hn] at he
  have hf:=hF m
  rw [hD,zu] at hf
  rw [zu,yv,yv,zfa]
  simp only [Strips.kap,Dt.rev,zh2,zh6,← he]
  have e1:sm (fun s=>b2 (f ⟨s,true⟩) - b2 (f ⟨s,false⟩)) (T.U m)=sm (sg f) (T.U m):=rfl
  have e2:sm (fun s=>b2 (f ⟨s,false⟩) - b2 (f ⟨s,true⟩)) D1=- sm (sg f) D1:=by
   have a1:sm (fun s=>b2 (f ⟨s,false⟩) - b2 (f ⟨s,true⟩)) D1=_:=yN
   have a2:sm (sg f) D1=sm (fun s=>b2 (f ⟨s,true⟩)) D1 - sm (fun s=>b2 (f ⟨s,false⟩)) D1:=yN
   omega
  have e3:sg f d=b2 (f ⟨d,true⟩) - b2 (f ⟨d,false⟩):=rfl
  simp only [sm] at hf
  omega
 rcases List.append_eq_append_iff.1 e with ⟨A2,hA,hB⟩ | ⟨C,hA,hB⟩
 ·exact down A2 hA hB
 ·cases C with
  | nil =>
   simp only [zhc,zgz] at hA hB
   exact down [] (by simp [hA]) (by simp [hB])
  | cons y C =>
   obtain ⟨rfl,rfl⟩:=List.cons.inj hB
   obtain ⟨A',C',hU,rfl,hx⟩:=List.map_eq_append_iff.1 hA
   obtain ⟨u,B',rfl,rfl,rfl⟩:=List.map_eq_cons_iff.1 hx
   have hU:T.U m=B'.reverse++u::A'.reverse:=by rw [← List.reverse_reverse (T.U m),hU]; simp
   have hn:=T.nodup m
   rw [T.above,hU] at hn
   have hlo:=(T.starts m u).1 (by rw [hU]; simp)
   have hlt:=T.lt u
   have he:=T.east_at hF (s:=u) (m:=m) (by omega) (by omega)
   rw [T.above,hU,east_mid hn,zfa] at he
   rw [yv]
   simp only [Strips.kap,Dt.rev,zh2,← he]
   have e1:sm (fun s=>b2 (f ⟨s,true⟩) - b2 (f ⟨s,false⟩)) A'=sm (sg f) A':=rfl
   omega
theorem kap_ring (h:T.Cyc f) {A B:List (Dt S)} {x y:Dt S} (e:T.ring m=y::(A++x::B)):T.kap f x.s=T.kap f y.s:=by
 have h1:=zfb h (A:=y::A) e
 have h2:=zfb h (A:=[]) (x:=y) e
 have tele:∀ (A:List (Dt S)) (y:Dt S),(∀ A' C w z,y::(A++x::B)=A'++w::z::C->f z.rev=f w)->sm (fun y=>b2 (f y) - b2 (f y.rev)) (y::A)=b2 (f x.rev) - b2 (f y.rev):=by
  intro A
  induction A with
  | nil =>
   intro y hc
   simp only [sm,hc [] B y x rfl]
   omega
  | cons z A ih =>
   intro y hc
   have h1:=ih z fun A' C w v e=>hc (y::A') C w v (by rw [zgq,e]; rfl)
   have h2:=hc [] (A++x::B) y z rfl
   simp only [sm,h2] at h1 ⊢
   omega
 have h3:=tele A y fun A' C w z e'=>h.turn m A' C w z (e.trans e')
 simp only [sm] at h2
 omega
theorem kap_row (h:T.Cyc f) (hs:s∈T.U m∨s∈T.D m) (ht:t∈T.U m∨t∈T.D m):T.kap f s=T.kap f t:=by
 have hm:∀ s,s∈T.U m∨s∈T.D m->∃ x∈T.ring m,x.s=s:=fun s hs=>by
  unfold Strips.ring
  rcases hs with h | h
  ·exact ⟨⟨s,true⟩,by simp [h],rfl⟩
  ·exact ⟨⟨s,false⟩,by simp [h],rfl⟩
 obtain ⟨x,hx,rfl⟩:=hm s hs
 obtain ⟨z,hz,rfl⟩:=hm t ht
 cases hr:T.ring m with
 | nil=>rw [hr] at hx; cases hx
 | cons y R =>
  have one:∀ x∈T.ring m,T.kap f x.s=T.kap f y.s:=fun x hx=>by
   rw [hr] at hx
   rcases zgf.1 hx with rfl | hx
   ·rfl
   ·obtain ⟨A,B,rfl⟩:=List.append_of_mem hx
    exact kap_ring h hr
  rw [one x hx,one z hz]
def Strips.Joined (T:Strips S) (K:S->Prop):Prop:=∀ F:S->Int,(∀ m s t,(s∈T.U m∨s∈T.D m)->(t∈T.U m∨t∈T.D m)->F s=F t)->∀ s t,K s->K t->F s=F t
theorem z7 {K:S->Prop} (hK:T.Joined K) (h:T.Cyc f) (hs:K s) (ht:K t):T.kap f s=T.kap f t:=hK _ (fun _ _ _ h1 h2=>kap_row h h1 h2) s t hs ht
def wnd (f:Dt S->Bool) (B:List S):Int:=sm (sg f) B
theorem zfc {K:S->Prop} (hf:∀ x,f x=true->K x.s) {s:S} (h:¬ K s):sg f s=0:=by
 have h1:∀ b,f ⟨s,b⟩=false:=fun b=>by
  cases hb:f ⟨s,b⟩
  ·rfl
  ·exact absurd (hf _ hb) h
 simp [sg,h1]
theorem yC (h:T.Cyc f) {A B:List S} (e:T.L m=A++s::B):T.east (sg f) s=wnd f B:=by
 have hm:=(T.mem m s).1 (by rw [e]; simp)
 have hn:=T.nodup m
 rw [e] at hn
 rw [← T.east_at h.flow hm.1 hm.2,e,aft_split (zc1 hn)]
 rfl
theorem yh {K:S->Prop} (hf:∀ x,f x=true->K x.s) (h:T.Cyc f) {A B1 B2:List S} (e:T.L m=A++(B1++s::B2)) (hB:∀ t∈B1,¬ K t):wnd f (B1++s::B2)=T.kap f s+b2 (f ⟨s,true⟩):=by
 have h1:=yC h (s:=s) (A:=A++B1) (B:=B2) (by rw [e,zgu])
 unfold wnd at h1 ⊢
 rw [zu,zY fun t ht=>zfc hf (hB t ht)]
 simp only [sm,Strips.kap,h1,sg]
 omega
theorem yO {K:S->Prop} (hf:∀ x,f x=true->K x.s) {B:List S} (hB:∀ t∈B,¬ K t):wnd f B=0:=zY fun t ht=>zfc hf (hB t ht)
theorem y8 {K:S->Prop} (hf:∀ x,f x=true->K x.s) (h:T.Cyc f) {A B:List S} (e:T.L m=A++s::B) (hB:∀ t∈B,¬ K t):T.kap f s=- b2 (f ⟨s,false⟩):=by
 have h1:=yC h e
 rw [yO hf hB] at h1
 simp only [Strips.kap,h1]
 omega
theorem yP (K:S->Prop):∀ B:List S,(∀ t∈B,¬ K t)∨∃ B1 s B2,B=B1++s::B2/\K s/\∀ t∈B1,¬ K t
 | []=>.inl fun _ h=>by cases h
 | x::B=>by
  by_cases hx:K x
  ·exact .inr ⟨[],x,B,rfl,hx,fun _ h=>by cases h⟩
  ·rcases yP K B with h | ⟨B1,s,B2,rfl,h1,h2⟩
   ·exact .inl fun t ht=>by
     rcases zgf.1 ht with rfl | ht
     ·exact hx
     ·exact h t ht
   ·exact .inr ⟨x::B1,s,B2,rfl,h1,fun t ht=>by
     rcases zgf.1 ht with rfl | ht
     ·exact hx
     ·exact h2 t ht⟩
theorem last_of (K:S->Prop) (B:List S):(∀ t∈B,¬ K t)∨∃ B1 s B2,B=B1++s::B2/\K s/\∀ t∈B2,¬ K t:=by
 rcases yP K B.reverse with h | ⟨B1,s,B2,h0,h1,h2⟩
 ·exact .inl fun t ht=>h t (by simpa using ht)
 ·exact .inr ⟨B2.reverse,s,B1.reverse,by rw [← List.reverse_reverse B,h0]; simp,h1,fun t ht=>h2 t (by simpa using ht)⟩
structure Strips.Of (T:Strips S) (K:S->Prop) (f:Dt S->Bool):Prop where
 joined:T.Joined K
 part:∀ x,f x=true->K x.s
 cyc:T.Cyc f
def Strips.Outer (T:Strips S) (K:S->Prop) (f:Dt S->Bool):Prop:=∃ m A s B,T.L m=A++s::B/\K s/\(∀ t∈B,¬ K t)/\f ⟨s,false⟩=true
theorem Z9 (s:S):∃ A B,T.L (T.lo s)=A++s::B:=List.append_of_mem ((T.mem _ s).2 ⟨Int.le_refl _,T.lt s⟩)
theorem zdl {K:S->Prop} (hs:K s):∃ m A t B,T.L m=A++t::B/\K t/\∀ t∈B,¬ K t:=by
 rcases last_of K (T.L (T.lo s)) with h | ⟨A,t,B,h0,h1,h2⟩
 ·exact absurd hs (h s ((T.mem _ s).2 ⟨Int.le_refl _,T.lt s⟩))
 ·exact ⟨_,A,t,B,h0,h1,h2⟩
theorem YC {K:S->Prop} (h:T.Of K f) (ho:¬ T.Outer K f) (hs:K s):T.kap f s=0:=by
 obtain ⟨m,A,t,B,h0,h1,h2⟩:=zdl (T:=T) hs
 rw [z7 h.joined h.cyc hs h1,y8 h.part h.cyc h0 h2]
 cases hf:f ⟨t,false⟩
 ·rfl
 ·exact absurd ⟨m,A,t,B,h0,h1,h2,hf⟩ ho
theorem kap_out {K:S->Prop} (h:T.Of K f) (ho:T.Outer K f) (hs:K s):T.kap f s=-1:=by
 obtain ⟨m,A,t,B,h0,h1,h2,hf⟩:=ho
 rw [z7 h.joined h.cyc hs h1,y8 h.part h.cyc h0 h2,hf]
 rfl
theorem zfd (b:Bool):b2 b=0∨b2 b=1:=by cases b <;> simp [b2]
theorem Y9 {K:S->Prop} (h:T.Of K f) (ho:¬ T.Outer K f) {A B:List S} (e:T.L m=A++B):wnd f B=0∨wnd f B=1:=by
 rcases yP K B with hB | ⟨B1,s,B2,rfl,h1,h2⟩
 ·exact .inl (yO h.part hB)
 ·rw [yh h.part h.cyc e h2,YC h ho h1]
  rcases zfd (f ⟨s,true⟩) with h | h <;> omega
theorem wnd_out {K:S->Prop} (h:T.Of K f) (ho:T.Outer K f) {A B:List S} (e:T.L m=A++B):wnd f B=0∨wnd f B=-1:=by
 rcases yP K B with hB | ⟨B1,s,B2,rfl,h1,h2⟩
 ·exact .inl (yO h.part hB)
 ·rw [yh h.part h.cyc e h2,kap_out h ho h1]
  rcases zfd (f ⟨s,true⟩) with h | h <;> omega
theorem wnd_one {K:S->Prop} {g:Dt S->Bool} (hf:T.Of K f) (hg:T.Of K g) (fo:¬ T.Outer K f) (go:¬ T.Outer K g) (hd:∀ x,f x=true->g x=true->False) {A B:List S} (e:T.L m=A++B) (h1:wnd f B=1) (h2:wnd g B=1):False:=by
 rcases yP K B with hB | ⟨B1,s,B2,rfl,h3,h4⟩
 ·rw [yO hf.part hB] at h1
  omega
 ·rw [yh hf.part hf.cyc e h4,YC hf fo h3] at h1
  rw [yh hg.part hg.cyc e h4,YC hg go h3] at h2
  refine hd ⟨s,true⟩ ?_ ?_
  ·cases hx:f ⟨s,true⟩
   ·rw [hx] at h1; simp [b2] at h1
   ·rfl
  ·cases hx:g ⟨s,true⟩
   ·rw [hx] at h2; simp [b2] at h2
   ·rfl
theorem nested {K K':S->Prop} {g:Dt S->Bool} (hf:T.Of K f) (hg:T.Of K' g) (fo:¬ T.Outer K f) (go:¬ T.Outer K' g) (hKK:∀ s,K s->¬ K' s) {a:S} (ha:K a) (h1:T.kap g a=1) :
  (∀ m A B,T.L m=A++B->wnd f B<=wnd g B)/\∀ b,K' b->T.kap f b=0:=by
 have hk:∀ s,K s->T.kap g s=1:=fun s hs=>by rw [z7 hf.joined hg.cyc hs ha,h1]
 have hfU:∀ x,f x=true->(fun s=>K s∨K' s) x.s:=fun x hx=>.inl (hf.part x hx)
 have hgU:∀ x,g x=true->(fun s=>K s∨K' s) x.s:=fun x hx=>.inr (hg.part x hx)
 have hz:∀ b,K' b->T.kap f b=0:=fun b hb=>by
  obtain ⟨m,A,t,B,h0,ht,h2⟩:=zdl (T:=T) (K:=fun s=>K s∨K' s) (s:=b) (.inr hb)
  have e1:=y8 hgU hg.cyc h0 h2
  have e2:=y8 hfU hf.cyc h0 h2
  rcases ht with ht | ht
  ·rw [hk t ht] at e1
   rcases zfd (g ⟨t,false⟩) with h | h <;> omega
  ·have hft:f ⟨t,false⟩=false:=by
    cases hx:f ⟨t,false⟩
    ·rfl
    ·exact absurd ht (hKK _ (hf.part _ hx))
   rw [z7 hg.joined hf.cyc hb ht,e2,hft]
   rfl
 refine ⟨fun m A B e=>?_,hz⟩
 rcases yP (fun s=>K s∨K' s) B with hB | ⟨B1,s,B2,rfl,h3,h4⟩
 ·rw [yO hfU hB,yO hgU hB]
  omega
 ·have w1:=yh hfU hf.cyc e h4
  have w2:=yh hgU hg.cyc e h4
  rcases h3 with h3 | h3
  ·rw [hk s h3] at w2
   rcases Y9 hf fo e with h | h
   ·rcases zfd (g ⟨s,true⟩) with h' | h' <;> omega
   ·rcases zfd (g ⟨s,true⟩) with h' | h' <;> omega
  ·rw [hz s h3] at w1
   have hft:f ⟨s,true⟩=false:=by
    cases hx:f ⟨s,true⟩
    ·rfl
    ·exact absurd h3 (hKK _ (hf.part _ hx))
   rw [hft,show b2 false=0 from rfl] at w1
   rcases Y9 hg go e with h | h <;> omega
theorem nest_or {K K':S->Prop} {g:Dt S->Bool} (hf:T.Of K f) (hg:T.Of K' g) (fo:¬ T.Outer K f) (go:¬ T.Outer K' g) (hKK:∀ s,K s->¬ K' s) {A B:List S} (e:T.L m=A++B) (h1:wnd f B=1) (h2:wnd g B=1) :
  (∃ a,K a/\T.kap g a=1)∨∃ b,K' b/\T.kap f b=1:=by
 have hfU:∀ x,f x=true->(fun s=>K s∨K' s) x.s:=fun x hx=>.inl (hf.part x hx)
 have hgU:∀ x,g x=true->(fun s=>K s∨K' s) x.s:=fun x hx=>.inr (hg.part x hx)
 rcases yP (fun s=>K s∨K' s) B with hB | ⟨B1,s,B2,rfl,h3,h4⟩
 ·rw [yO hfU hB] at h1
  omega
 ·have w1:=yh hfU hf.cyc e h4
  have w2:=yh hgU hg.cyc e h4
  rcases h3 with h3 | h3
  ·have hgt:g ⟨s,true⟩=false:=by
    cases hx:g ⟨s,true⟩
    ·rfl
    ·exact absurd (hg.part _ hx) (hKK _ h3)
   rw [hgt,show b2 false=0 from rfl] at w2
   exact .inl ⟨s,h3,by omega⟩
  ·have hft:f ⟨s,true⟩=false:=by
    cases hx:f ⟨s,true⟩
    ·rfl
    ·exact absurd h3 (hKK _ (hf.part _ hx))
   rw [hft,show b2 false=0 from rfl] at w1
   exact .inr ⟨s,h3,by omega⟩
def rowA (pos:S->Int) (τ:S->Int) (l:List S):Int:=sm (fun s=>τ s*pos s) l
theorem rowA_ge {pos τ:S->Int}:∀ (r:List S) (x:S),(x::r).Pairwise (fun a b=>pos a<pos b)->(∀ A B,r=A++B->0<=sm τ B)->pos x*sm τ (x::r)<=rowA pos τ (x::r)/\((∃ A B,r=A++B/\0<sm τ B)->pos x*sm τ (x::r)<rowA pos τ (x::r))
 | [],x,_,_=>by
  refine ⟨by simp only [rowA,sm]; rw [Int.add_zero,Int.mul_comm]; omega,?_⟩
  rintro ⟨A,B,e,hB⟩
  have hB0:B=[]:=(List.append_eq_nil_iff.1 e.symm).2
  rw [hB0] at hB
  simp [sm] at hB
 | y::r,x,hp,hs=>by
  rw [zib] at hp
  obtain ⟨h1,h2⟩:=rowA_ge r y hp.2 (fun A B e=>hs (y::A) B (by rw [e]; rfl))
  have hxy:=hp.1 y (zgi ..)
  have h0:=hs [] (y::r) rfl
  have e1:rowA pos τ (x::y::r)=τ x*pos x+rowA pos τ (y::r):=rfl
  have e2:sm τ (x::y::r)=τ x+sm τ (y::r):=rfl
  have m1:pos x*sm τ (y::r)<=pos y*sm τ (y::r):=Int.mul_le_mul_of_nonneg_right (Int.le_of_lt hxy) h0
  rw [e1,e2,Int.mul_add,Int.mul_comm (τ x)]
  refine ⟨by omega,?_⟩
  rintro ⟨A,B,e,hB⟩
  cases A with
  | nil =>
   simp only [zgz] at e
   rw [← e] at hB
   have m2:pos x*sm τ (y::r)<pos y*sm τ (y::r):=Int.mul_lt_mul_of_pos_right hxy hB
   omega
  | cons z A =>
   obtain ⟨rfl,rfl⟩:=List.cons.inj e
   have:=h2 ⟨A,B,rfl,hB⟩
   omega
theorem zc2 {pos τ:S->Int} {l:List S} (hp:l.Pairwise (fun a b=>pos a<pos b)) (hs:∀ A B,l=A++B->0<=sm τ B) (h0:sm τ l=0):0<=rowA pos τ l/\((∃ A B,l=A++B/\0<sm τ B)->0<rowA pos τ l):=by
 cases l with
 | nil =>
  refine ⟨Int.le_refl _,?_⟩
  rintro ⟨A,B,e,hB⟩
  rw [(List.append_eq_nil_iff.1 e.symm).2] at hB
  simp [sm] at hB
 | cons x r =>
  obtain ⟨h1,h2⟩:=rowA_ge r x hp (fun A B e=>hs (x::A) B (by rw [e]; rfl))
  rw [h0,Int.mul_zero] at h1 h2
  refine ⟨h1,?_⟩
  rintro ⟨A,B,e,hB⟩
  cases A with
  | nil =>
   simp only [zgz] at e
   rw [← e,h0] at hB
   omega
  | cons z A =>
   obtain ⟨rfl,rfl⟩:=List.cons.inj e
   exact h2 ⟨A,B,rfl,hB⟩
def area (T:Strips S) (pos:Int->S->Int) (ms:List Int) (f:Dt S->Bool):Int:=sm (fun m=>rowA (pos m) (sg f) (T.L m)) ms
theorem sm_nonneg {α:Type} {h:α->Int}:∀ {l:List α},(∀ x∈l,0<=h x)->0<=sm h l/\((∃ x∈l,0<h x)->0<sm h l)
 | [],_=>⟨Int.le_refl _,fun ⟨_,hx,_⟩=>by cases hx⟩
 | x::l,hl=>by
  obtain ⟨h1,h2⟩:=sm_nonneg fun y hy=>hl y (zgn x hy)
  have h0:=hl x (zgi ..)
  refine ⟨by simp only [sm]; omega,?_⟩
  rintro ⟨y,hy,hp⟩
  simp only [sm]
  rcases zgf.1 hy with rfl | hy
  ·omega
  ·have:=h2 ⟨y,hy,hp⟩
   omega
theorem ZF {pos:Int->S->Int} {ms:List Int} (hp:∀ m∈ms,(T.L m).Pairwise (fun a b=>pos m a<pos m b)) {τ:S->Int} (hs:∀ m A B,T.L m=A++B->0<=sm τ B) (h0:∀ m,sm τ (T.L m)=0) :
  0<=sm (fun m=>rowA (pos m) τ (T.L m)) ms/\((∃ m∈ms,∃ A B,T.L m=A++B/\0<sm τ B)->0<sm (fun m=>rowA (pos m) τ (T.L m)) ms):=by
 obtain ⟨h1,h2⟩:=sm_nonneg (h:=fun m=>rowA (pos m) τ (T.L m)) (l:=ms) fun m hm=>(zc2 (hp m hm) (hs m) (h0 m)).1
 exact ⟨h1,fun ⟨m,hm,A,B,e,hB⟩=>h2 ⟨m,hm,(zc2 (hp m hm) (hs m) (h0 m)).2 ⟨A,B,e,hB⟩⟩⟩
theorem total (hF:T.Flow σ) {m0:Int} (h0:T.L m0=[]) (m:Int):sm σ (T.L m)=0:=by
 have st:∀ m,sm σ (T.L m)=sm σ (T.L (m - 1)):=fun m=>by
  have:=hF m
  rw [T.above,T.below]
  simp only [zu]
  omega
 have up:∀ k:Nat,sm σ (T.L (m0+k))=0:=fun k=>by
  induction k with
  | zero=>simp [h0,sm]
  | succ k ih=>rw [st,show m0+((k+1:Nat):Int) - 1=m0+(k:Int) by omega,ih]
 have dn:∀ k:Nat,sm σ (T.L (m0 - k))=0:=fun k=>by
  induction k with
  | zero=>simp [h0,sm]
  | succ k ih=>rw [show m0 - ((k+1:Nat):Int)=m0 - (k:Int) - 1 by omega,← st,ih]
 by_cases h:m0<=m
 ·have:=up (m - m0).toNat
  rwa [show m0+((m - m0).toNat:Int)=m by omega] at this
 ·have:=dn (m0 - m).toNat
  rwa [show m0 - ((m0 - m).toNat:Int)=m by omega] at this
theorem sm_some {α:Type} {h:α->Int}:∀ {l:List α},sm h l≠0->∃ x∈l,h x≠0
 | [],h=>absurd rfl h
 | x::l,hn=>by
  by_cases hx:h x=0
  ·obtain ⟨y,hy,h2⟩:=sm_some (l:=l) (h:=h) (fun h3=>hn (by simp only [sm,hx,h3]; rfl))
   exact ⟨y,zgn _ hy,h2⟩
  ·exact ⟨x,zgi ..,hx⟩
theorem zfe {g:Dt S->Bool} {B:List S}:sm (fun s=>sg g s - sg f s) B=wnd g B - wnd f B:=yN
theorem rowA_diff {pos:S->Int} {g:Dt S->Bool} {l:List S}:rowA pos (fun s=>sg g s - sg f s) l=rowA pos (sg g) l - rowA pos (sg f) l:=by
 unfold rowA
 rw [← yN]
 exact zp fun s _=>Int.sub_mul ..
theorem area_lt {pos:Int->S->Int} {ms:List Int} {m0:Int} (h0:T.L m0=[]) (hms:∀ m,T.L m≠[]->m∈ms) (hp:∀ m,(T.L m).Pairwise (fun a b=>pos m a<pos m b)) {K K':S->Prop} {g:Dt S->Bool} (hf:T.Of K f) (hg:T.Of K' g) (fo:¬ T.Outer K f) (go:¬ T.Outer K' g) (hKK:∀ s,K s->¬ K' s) {a:S} (ha:K a) (h1:T.kap g a=1) {A B:List S} (e:T.L m=A++B) (hw:wnd f B=1) :
  area T pos ms f<area T pos ms g:=by
 obtain ⟨hle,_⟩:=nested hf hg fo go hKK ha h1
 obtain ⟨s,hs,hsg⟩:=sm_some (h:=sg f) (l:=B) (by unfold wnd at hw; omega)
 have hks:K s:=by
  by_cases hk:K s
  ·exact hk
  ·exact absurd (zfc hf.part hk) hsg
 obtain ⟨C,E,hL⟩:=Z9 (T:=T) s
 have kg:T.kap g s=1:=by rw [z7 hf.joined hg.cyc hks ha,h1]
 have gz:∀ b,g ⟨s,b⟩=false:=fun b=>by
  cases hx:g ⟨s,b⟩
  ·rfl
  ·exact absurd (hg.part _ hx) (hKK _ hks)
 have ef:=yC hf.cyc hL
 have eg:=yC hg.cyc hL
 have k0:=YC hf fo hks
 have hfs:f ⟨s,true⟩≠f ⟨s,false⟩:=fun h=>hsg (by simp [sg,h])
 have strict:∃ m∈ms,∃ A B,T.L m=A++B/\0<sm (fun s=>sg g s - sg f s) B:=by
  refine ⟨T.lo s,hms _ (by rw [hL]; simp),?_⟩
  simp only [Strips.kap,gz,show b2 false=0 from rfl] at kg k0
  cases hd:f ⟨s,false⟩
  ·rw [hd,show b2 false=0 from rfl] at k0
   exact ⟨C++[s],E,by rw [hL]; simp,by rw [zfe]; omega⟩
  ·have hu:f ⟨s,true⟩=false:=by
    cases hx:f ⟨s,true⟩
    ·rfl
    ·exact absurd (hx.trans hd.symm) hfs
   rw [hd,show b2 true=1 from rfl] at k0
   refine ⟨C,s::E,hL,?_⟩
   rw [zfe]
   have e1:wnd g (s::E)=sg g s+wnd g E:=rfl
   have e2:wnd f (s::E)=sg f s+wnd f E:=rfl
   simp only [e1,e2,sg,gz,hd,hu,show b2 false=0 from rfl,show b2 true=1 from rfl]
   omega
 have key:=(ZF (pos:=pos) (ms:=ms) (fun m _=>hp m) (τ:=fun s=>sg g s - sg f s) (fun m A B e=>by
  have:=hle m A B e
  rw [zfe]
  omega) (fun m=>by
   have t1:=total hf.cyc.flow h0 m
   have t2:=total hg.cyc.flow h0 m
   have t3:sm (fun s=>sg g s - sg f s) (T.L m)=sm (sg g) (T.L m) - sm (sg f) (T.L m):=yN
   omega)).2 strict
 have e3:sm (fun m=>rowA (pos m) (fun s=>sg g s - sg f s) (T.L m)) ms=area T pos ms g - area T pos ms f:=by
  unfold area
  rw [← yN]
  exact zp fun m _=>rowA_diff
 omega
theorem area_ne {pos:Int->S->Int} {ms:List Int} {m0:Int} (h0:T.L m0=[]) (hms:∀ m,T.L m≠[]->m∈ms) (hp:∀ m,(T.L m).Pairwise (fun a b=>pos m a<pos m b)) {K K':S->Prop} {g:Dt S->Bool} (hf:T.Of K f) (hg:T.Of K' g) (fo:¬ T.Outer K f) (go:¬ T.Outer K' g) (hKK:∀ s,K s->¬ K' s) {A B:List S} (e:T.L m=A++B) (h1:wnd f B=1) (h2:wnd g B=1) :
  area T pos ms f≠area T pos ms g:=by
 rcases nest_or hf hg fo go hKK e h1 h2 with ⟨a,ha,hk⟩ | ⟨b,hb,hk⟩
 ·have:=area_lt h0 hms hp hf hg fo go hKK ha hk e h1
  omega
 ·have:=area_lt h0 hms hp hg hf go fo (fun s h h'=>hKK s h' h) hb hk e h2
  omega
theorem area_out {pos:Int->S->Int} {ms:List Int} {m0:Int} (h0:T.L m0=[]) (hp:∀ m,(T.L m).Pairwise (fun a b=>pos m a<pos m b)) {K:S->Prop} (hf:T.Of K f) (fo:T.Outer K f):area T pos ms f<=0:=by
 have key:=(ZF (pos:=pos) (ms:=ms) (fun m _=>hp m) (τ:=fun s=>0 - sg f s) (fun m A B e=>by
  have t3:sm (fun s=>0 - sg f s) B=sm (fun _=>0) B - sm (sg f) B:=yN
  have t4:sm (fun _:S=>(0:Int)) B=0:=zY fun _ _=>rfl
  have t5:sm (sg f) B=wnd f B:=rfl
  rcases wnd_out hf fo e with h | h <;> omega) (fun m=>by
   have t1:=total hf.cyc.flow h0 m
   have t3:sm (fun s=>0 - sg f s) (T.L m)=sm (fun _=>0) (T.L m) - sm (sg f) (T.L m):=yN
   have t4:sm (fun _:S=>(0:Int)) (T.L m)=0:=zY fun _ _=>rfl
   omega)).1
 have e3:sm (fun m=>rowA (pos m) (fun s=>0 - sg f s) (T.L m)) ms=0 - area T pos ms f:=by
  have t4:sm (fun _:Int=>(0:Int)) ms=0:=zY fun _ _=>rfl
  have t5:sm (fun m=>rowA (pos m) (fun s=>0 - sg f s) (T.L m)) ms=sm (fun m=>0 - rowA (pos m) (sg f) (T.L m)) ms:=zp fun m _=>by
   show sm (fun s=>(0 - sg f s)*pos m s) (T.L m)=0 - sm (fun s=>sg f s*pos m s) (T.L m)
   have t6:sm (fun s=>(0 - sg f s)*pos m s) (T.L m)=sm (fun s=>0 - sg f s*pos m s) (T.L m):=zp fun s _=>by rw [Int.sub_mul,Int.zero_mul]
   have t7:sm (fun s=>0 - sg f s*pos m s) (T.L m)=sm (fun _=>0) (T.L m) - sm (fun s=>sg f s*pos m s) (T.L m):=yN
   have t8:sm (fun _:S=>(0:Int)) (T.L m)=0:=zY fun _ _=>rfl
   omega
  have t6:sm (fun m=>0 - rowA (pos m) (sg f) (T.L m)) ms=sm (fun _=>0) ms - area T pos ms f:=yN
  omega
 omega
end
end
section
abbrev Ix (n:Nat):Type:=_root_.Fin n
structure Rowed (n:Nat) where
 lo:Ix n->Int
 hi:Ix n->Int
 rp:Int->Ix n->Int
 lt:∀ i,lo i<hi i
 Z:∀ i j h,i≠j->lo i<=h->h<=hi i->lo j<=h->h<=hi j->rp h i=rp h j->(lo i=h∨hi i=h)/\(lo j=h∨hi j=h)
 C:∀ i j h,lo i<=h->h<hi i->lo j<=h->h<hi j->¬ (rp h i<rp h j/\rp (h+1) j<rp (h+1) i)
 V:∀ i j h,lo i=h∨hi i=h->lo j=h∨hi j=h->rp h i=rp h j
 W:∀ i j h,i≠j->lo i<=h->h<hi i->lo j<=h->h<hi j->¬ (rp h i=rp h j/\rp (h+1) i=rp (h+1) j)
section
variable {n:Nat} (R:Rowed n) {m:Int} {i j:Ix n}
def Rowed.key (m:Int) (i:Ix n):Int:=R.rp m i+R.rp (m+1) i
def Rowed.L (m:Int):List (Ix n):=((List.finRange n).filter fun i=>decide (R.lo i<=m)&&decide (m<R.hi i)).mergeSort fun i j=>decide (R.key m i<=R.key m j)
theorem Rowed.mem_L:i∈R.L m↔R.lo i<=m/\m<R.hi i:=by
 unfold Rowed.L
 rw [(List.mergeSort_perm _ _).mem_iff]
 simp
theorem Rowed.nodup_L:(R.L m).Nodup:=(List.mergeSort_perm _ _).nodup_iff.2 ((List.nodup_finRange n).filter _)
theorem Rowed.key_ne (hi:i∈R.L m) (hj:j∈R.L m) (h:i≠j):R.key m i≠R.key m j:=by
 rw [R.mem_L] at hi hj
 have c1:=R.C i j m hi.1 hi.2 hj.1 hj.2
 have c2:=R.C j i m hj.1 hj.2 hi.1 hi.2
 have w:=R.W i j m h hi.1 hi.2 hj.1 hj.2
 unfold Rowed.key
 omega
theorem Rowed.sorted_L:(R.L m).Pairwise fun i j=>R.key m i<R.key m j:=by
 have h1:(R.L m).Pairwise fun i j=>decide (R.key m i<=R.key m j)=true:=List.pairwise_mergeSort (fun a b c h1 h2=>by simp only [decide_eq_true_eq] at *; omega) (fun a b=>by simp only [zha,decide_eq_true_eq]; omega) _
 refine (h1.and R.nodup_L).imp_of_mem fun ha hb hab=>?_
 have:=R.key_ne ha hb hab.2
 have h2:=hab.1
 simp only [decide_eq_true_eq] at h2
 omega
theorem Rowed.le_both (hi:i∈R.L m) (hj:j∈R.L m) (h:R.key m i<R.key m j):R.rp m i<=R.rp m j/\R.rp (m+1) i<=R.rp (m+1) j:=by
 rw [R.mem_L] at hi hj
 have c1:=R.C i j m hi.1 hi.2 hj.1 hj.2
 have c2:=R.C j i m hj.1 hj.2 hi.1 hi.2
 unfold Rowed.key at h
 omega
theorem classes {α:Type} (c:α->Nat) (hc:∀ a,c a<=2):∀ {l:List α},l.Pairwise (fun a b=>c a<=c b)->l=l.filter (fun a=>decide (c a=0))++(l.filter (fun a=>decide (c a=1))++l.filter (fun a=>decide (c a=2)))
 | [],_=>rfl
 | x::l,h=>by
  rw [zib] at h
  have ih:=classes c hc h.2
  have no:∀ k,k<c x->l.filter (fun a=>decide (c a=k))=[]:=fun k hk=>List.filter_eq_nil_iff.2 fun a ha=>by
   have:=h.1 a ha
   simp only [decide_eq_true_eq]
   omega
  have hx:=hc x
  rcases (by omega:c x=0∨c x=1∨c x=2) with e | e | e
  ·simp only [List.filter_cons,e,decide_true,if_true]
   conv=>lhs; rw [ih]
   simp
  ·rw [no 0 (by omega)] at ih
   simp only [List.filter_cons,e,decide_true,if_true]
   simp only [no 0 (by omega)]
   conv=>lhs; rw [ih]
   simp
  ·rw [no 0 (by omega),no 1 (by omega)] at ih
   simp only [List.filter_cons,e,decide_true,if_true]
   simp only [no 0 (by omega),no 1 (by omega)]
   conv=>lhs; rw [ih]
   simp
noncomputable def Rowed.at' (m:Int):Int:=open Classical in if h:∃ i,R.lo i=m∨R.hi i=m then R.rp m h.choose else 0
theorem Rowed.at_end (h:R.lo i=m∨R.hi i=m):R.rp m i=R.at' m:=by
 unfold Rowed.at'
 have hx:∃ i,R.lo i=m∨R.hi i=m:=⟨i,h⟩
 rw [dif_pos hx]
 exact R.V _ _ _ h hx.choose_spec
noncomputable def Rowed.up (m:Int) (i:Ix n):Nat:=if R.lo i=m then 1 else if R.rp m i<R.at' m then 0 else 2
noncomputable def Rowed.dn (m:Int) (i:Ix n):Nat:=if R.hi i=m then 1 else if R.rp m i<R.at' m then 0 else 2
theorem Rowed.up_mono:(R.L m).Pairwise fun i j=>R.up m i<=R.up m j:=R.sorted_L.imp_of_mem fun {i j} ha hb hab=>by
 have hl:=R.le_both ha hb hab
 have hne:i≠j:=fun h=>by subst h; omega
 rw [R.mem_L] at ha hb
 unfold Rowed.up
 by_cases h1:R.lo i=m
 ·rw [if_pos h1]
  have e1:=R.at_end (.inl h1)
  by_cases h2:R.lo j=m
  ·rw [if_pos h2]; omega
  ·rw [if_neg h2,if_neg (by omega)]; omega
 ·rw [if_neg h1]
  by_cases h2:R.lo j=m
  ·rw [if_pos h2]
   have e2:=R.at_end (.inl h2)
   by_cases h3:R.rp m i<R.at' m
   ·rw [if_pos h3]; omega
   ·have z:=R.Z i j m hne ha.1 (by omega) hb.1 (by omega) (by omega)
    omega
  ·rw [if_neg h2]
   by_cases h3:R.rp m i<R.at' m
   ·rw [if_pos h3]; omega
   ·rw [if_neg h3,if_neg (by omega)]; omega
theorem Rowed.dn_mono:(R.L (m - 1)).Pairwise fun i j=>R.dn m i<=R.dn m j:=R.sorted_L.imp_of_mem fun {i j} ha hb hab=>by
 have hl:=R.le_both ha hb hab
 rw [show m - 1+1=m by omega] at hl
 have hne:i≠j:=fun h=>by subst h; omega
 rw [R.mem_L] at ha hb
 unfold Rowed.dn
 by_cases h1:R.hi i=m
 ·rw [if_pos h1]
  have e1:=R.at_end (.inr h1)
  by_cases h2:R.hi j=m
  ·rw [if_pos h2]; omega
  ·rw [if_neg h2,if_neg (by omega)]; omega
 ·rw [if_neg h1]
  by_cases h2:R.hi j=m
  ·rw [if_pos h2]
   have e2:=R.at_end (.inr h2)
   by_cases h3:R.rp m i<R.at' m
   ·rw [if_pos h3]; omega
   ·have z:=R.Z i j m hne (by omega) (by omega) (by omega) (by omega) (by omega)
    omega
  ·rw [if_neg h2]
   by_cases h3:R.rp m i<R.at' m
   ·rw [if_pos h3]; omega
   ·rw [if_neg h3,if_neg (by omega)]; omega
theorem Rowed.up_le (i:Ix n):R.up m i<=2:=by unfold Rowed.up; split; omega; split <;> omega
theorem Rowed.dn_le (i:Ix n):R.dn m i<=2:=by unfold Rowed.dn; split; omega; split <;> omega
theorem Rowed.pass_eq (k:Nat) (hk:k≠1):(R.L (m - 1)).filter (fun a=>decide (R.dn m a=k))=(R.L m).filter (fun a=>decide (R.up m a=k)):=by
 refine List.Perm.eq_of_pairwise (le:=fun i j=>R.rp m i<R.rp m j) (fun a b _ _ h1 h2=>by omega) ?_ ?_ ((List.perm_ext_iff_of_nodup (R.nodup_L.filter _) (R.nodup_L.filter _)).2 fun i=>?_)
 ·refine (R.sorted_L.filter _).imp_of_mem fun {i j} ha hb hab=>?_
  simp only [zif,decide_eq_true_eq] at ha hb
  have hl:=R.le_both ha.1 hb.1 hab
  rw [show m - 1+1=m by omega] at hl
  have hne:i≠j:=fun h=>by subst h; omega
  have a1:=(R.mem_L).1 ha.1
  have b1:=(R.mem_L).1 hb.1
  have a2:R.hi i≠m:=fun h=>by have:=ha.2; unfold Rowed.dn at this; rw [if_pos h] at this; omega
  have b2:R.hi j≠m:=fun h=>by have:=hb.2; unfold Rowed.dn at this; rw [if_pos h] at this; omega
  by_cases he:R.rp m i=R.rp m j
  ·have z:=R.Z i j m hne (by omega) (by omega) (by omega) (by omega) he
   omega
  ·omega
 ·refine (R.sorted_L.filter _).imp_of_mem fun {i j} ha hb hab=>?_
  simp only [zif,decide_eq_true_eq] at ha hb
  have hl:=R.le_both ha.1 hb.1 hab
  have hne:i≠j:=fun h=>by subst h; omega
  have a1:=(R.mem_L).1 ha.1
  have b1:=(R.mem_L).1 hb.1
  have a2:R.lo i≠m:=fun h=>by have:=ha.2; unfold Rowed.up at this; rw [if_pos h] at this; omega
  have b2:R.lo j≠m:=fun h=>by have:=hb.2; unfold Rowed.up at this; rw [if_pos h] at this; omega
  by_cases he:R.rp m i=R.rp m j
  ·have z:=R.Z i j m hne (by omega) (by omega) (by omega) (by omega) he
   omega
  ·omega
 ·simp only [zif,decide_eq_true_eq,R.mem_L]
  unfold Rowed.dn Rowed.up
  by_cases h1:R.hi i=m <;> by_cases h2:R.lo i=m <;> simp only [h1,h2,if_true,if_false] <;> omega
noncomputable def Rowed.strips:Strips (Ix n) where
 L:=R.L
 P m:=(R.L m).filter fun a=>decide (R.up m a=0)
 D m:=(R.L (m - 1)).filter fun a=>decide (R.dn m a=1)
 U m:=(R.L m).filter fun a=>decide (R.up m a=1)
 Q m:=(R.L m).filter fun a=>decide (R.up m a=2)
 lo:=R.lo
 hi:=R.hi
 below m:=by
  rw [← R.pass_eq 0 (by decide),← R.pass_eq 2 (by decide)]
  exact classes (R.dn m) R.dn_le R.dn_mono
 above m:=classes (R.up m) R.up_le R.up_mono
 nodup m:=R.nodup_L
 lt:=R.lt
 mem m i:=R.mem_L
 ends m i:=by
  simp only [zif,decide_eq_true_eq,R.mem_L]
  unfold Rowed.dn
  have:=R.lt i
  by_cases h1:R.hi i=m
  ·simp only [h1,if_true,iff_true]; refine ⟨by omega,trivial⟩
  ·simp only [h1,if_false,iff_false]
   by_cases h2:R.rp m i<R.at' m <;> simp [h2]
 starts m i:=by
  simp only [zif,decide_eq_true_eq,R.mem_L]
  unfold Rowed.up
  have:=R.lt i
  by_cases h1:R.lo i=m
  ·simp only [h1,if_true,iff_true]; refine ⟨by omega,trivial⟩
  ·simp only [h1,if_false,iff_false]
   by_cases h2:R.rp m i<R.at' m <;> simp [h2]
end
end
section
def tw (a b p:Pt):Int:=(b.x - a.x)*(p.y - a.y) - (b.y - a.y)*(p.x - a.x)
def Pt.h (p:Pt):Int:=8388608*p.y - p.x
def Pt.near (p:Pt):Prop:=-2097152<=p.x/\p.x<=2097152/\-2097152<=p.y/\p.y<=2097152
theorem zbj {p q:Pt} (hp:p.near) (hq:q.near) (h:p.h=q.h):p=q:=by
 unfold Pt.near at hp hq
 unfold Pt.h at h
 have hy:p.y=q.y:=by omega
 have hx:p.x=q.x:=by omega
 cases p; cases q
 simp_all
def opp (u v:Int):Prop:=¬ (0<u/\0<v)/\¬ (u<0/\v<0)
def touch (a b c d:Pt):Prop:=(tw a b c=0/\tw a b d=0/\sharedI a b c d≠0)∨(¬ (tw a b c=0/\tw a b d=0)/\opp (tw a b c) (tw a b d)/\opp (tw c d a) (tw c d b))
structure Drawn (n:Nat) where
 A:Ix n->Pt
 B:Ix n->Pt
 nearA:∀ i,(A i).near
 nearB:∀ i,(B i).near
 ne:∀ i,A i≠B i
 meet:∀ i j,i≠j->touch (A i) (B i) (A j) (B j)->(∃ P,(P=A i∨P=B i)/\(P=A j∨P=B j))/\(tw (A i) (B i) (A j)=0->tw (A i) (B i) (B j)=0->sharedI (A i) (B i) (A j) (B j)=1)
theorem zff {a b c d:Pt} {κ:Pt->Int} (hb:∀ p q,p∈[a,b,c,d]->q∈[a,b,c,d]->bfP p q=decide (κ p<κ q)) (hi:∀ p q,p∈[a,b,c,d]->q∈[a,b,c,d]->ptE p q=decide (κ p=κ q)) :
  sharedI a b c d=if max (min (κ a) (κ b)) (min (κ c) (κ d))=min (max (κ a) (κ b)) (max (κ c) (κ d)) then 1 else if max (min (κ a) (κ b)) (min (κ c) (κ d))<min (max (κ a) (κ b)) (max (κ c) (κ d)) then 2 else 0:=by
 have key:∀ p q,p∈[a,b,c,d]->q∈[a,b,c,d]->(swP p q).1∈[a,b,c,d]/\(swP p q).2∈[a,b,c,d]/\κ (swP p q).1=min (κ p) (κ q)/\κ (swP p q).2=max (κ p) (κ q):=fun p q hp hq=>by
  unfold swP
  rw [hb q p hq hp]
  by_cases h:κ q<κ p
  ·simp only [h,decide_true,cond_true]
   exact ⟨hq,hp,by omega,by omega⟩
  ·simp only [h,decide_false,cond_false]
   exact ⟨hp,hq,by omega,by omega⟩
 obtain ⟨a1,a2,a3,a4⟩:=key a b (by simp) (by simp)
 obtain ⟨c1,c2,c3,c4⟩:=key c d (by simp) (by simp)
 unfold sharedI
 rw [hb _ _ a1 c1,hb _ _ c2 a2]
 have f1:∃ f,f∈[a,b,c,d]/\(bif decide (κ (swP a b).1<κ (swP c d).1) then (swP c d).1 else (swP a b).1)=f/\κ f=max (min (κ a) (κ b)) (min (κ c) (κ d)):=by
  by_cases h:κ (swP a b).1<κ (swP c d).1
  ·exact ⟨_,c1,by simp [h],by omega⟩
  ·exact ⟨_,a1,by simp [h],by omega⟩
 have l1:∃ f,f∈[a,b,c,d]/\(bif decide (κ (swP c d).2<κ (swP a b).2) then (swP c d).2 else (swP a b).2)=f/\κ f=min (max (κ a) (κ b)) (max (κ c) (κ d)):=by
  by_cases h:κ (swP c d).2<κ (swP a b).2
  ·exact ⟨_,c2,by simp [h],by omega⟩
  ·exact ⟨_,a2,by simp [h],by omega⟩
 obtain ⟨f,hf,e1,k1⟩:=f1
 obtain ⟨l,hl,e2,k2⟩:=l1
 simp only [e1,e2,hi f l hf hl,hb f l hf hl,← k1,← k2]
 by_cases h1:κ f=κ l
 ·simp [h1]
 ·by_cases h2:κ f<κ l <;> simp [h1,h2]
theorem ptE_eq {p q:Pt}:ptE p q=true↔p=q:=by
 unfold ptE
 cases p; cases q
 simp
theorem YQ {n:Nat} (f:Ix n->Int) (h:∀ i,f i≠0):∃ PI:Int,0<PI/\∀ i,f i ∣ PI:=by
 have key:∀ l:List (Ix n),∃ PI:Int,0<PI/\∀ i∈l,f i ∣ PI:=by
  intro l
  induction l with
  | nil=>exact ⟨1,by decide,fun _ h=>by cases h⟩
  | cons x l ih =>
   obtain ⟨p,h1,h2⟩:=ih
   refine ⟨p*(f x*f x),Int.mul_pos h1 ?_,fun i hi=>?_⟩
   ·rcases Int.lt_or_gt_of_ne (h x) with hx | hx
    ·exact Int.mul_pos_of_neg_of_neg hx hx
    ·exact Int.mul_pos hx hx
   ·rcases zgf.1 hi with rfl | hi
    ·exact Int.dvd_trans (Int.dvd_mul_right ..) (Int.dvd_mul_left ..)
    ·exact Int.dvd_trans (h2 i hi) (Int.dvd_mul_right ..)
 obtain ⟨p,h1,h2⟩:=key (List.finRange n)
 exact ⟨p,h1,fun i=>h2 i (List.mem_finRange i)⟩
section
variable {n:Nat} (Dr:Drawn n) {PI:Int} {i j:Ix n} {h:Int}
theorem Drawn.hne (i:Ix n):(Dr.B i).h - (Dr.A i).h≠0:=fun h=>Dr.ne i (zbj (Dr.nearA i) (Dr.nearB i) (by omega))
def Drawn.c (PI:Int) (i:Ix n):Int:=PI / ((Dr.B i).h - (Dr.A i).h)
def Drawn.be (PI:Int) (i:Ix n):Int:=((Dr.B i).x - (Dr.A i).x)*Dr.c PI i
def Drawn.rp (PI h:Int) (i:Ix n):Int:=(Dr.A i).x*PI+Dr.be PI i*(h - (Dr.A i).h)
theorem Drawn.c_eq (hd:((Dr.B i).h - (Dr.A i).h) ∣ PI):Dr.c PI i*((Dr.B i).h - (Dr.A i).h)=PI:=Int.ediv_mul_cancel hd
theorem Drawn.at_pt (hd:((Dr.B i).h - (Dr.A i).h) ∣ PI) (P:Pt):Dr.rp PI P.h i - P.x*PI=Dr.c PI i*(8388608*tw (Dr.A i) (Dr.B i) P):=by
 have e:=Dr.c_eq hd
 unfold Drawn.rp Drawn.be tw Pt.h at *
 generalize Dr.c PI i=c at *
 generalize (Dr.A i).x=ax at *
 generalize (Dr.A i).y=ay at *
 generalize (Dr.B i).x=bx at *
 generalize (Dr.B i).y=yy at *
 generalize P.x=px at *
 generalize P.y=py at *
 subst e
 grind
theorem Drawn.at_A (i:Ix n):Dr.rp PI (Dr.A i).h i=(Dr.A i).x*PI:=by unfold Drawn.rp; simp
theorem Drawn.at_B (hd:((Dr.B i).h - (Dr.A i).h) ∣ PI):Dr.rp PI (Dr.B i).h i=(Dr.B i).x*PI:=by
 have e:=Dr.c_eq hd
 unfold Drawn.rp Drawn.be
 generalize Dr.c PI i=c at *
 generalize (Dr.B i).h - (Dr.A i).h=D at *
 subst e
 grind
theorem Drawn.aff (k:Int):Dr.rp PI (h+k) i=Dr.rp PI h i+Dr.be PI i*k:=by
 unfold Drawn.rp
 grind
end
theorem opp_of {c t1 t2 d1 d2:Int} (hc:c≠0) (h1:d1=c*(8388608*t1)) (h2:d2=c*(8388608*t2)) (hd:(d1<=0/\0<=d2)∨(d2<=0/\0<=d1)):opp t1 t2:=by
 subst h1 h2
 unfold opp
 rcases Int.lt_or_gt_of_ne hc with h | h
 ·constructor
  ·rintro ⟨a,b⟩
   have:=Int.mul_neg_of_neg_of_pos h (show (0:Int)<8388608*t1 by omega)
   have:=Int.mul_neg_of_neg_of_pos h (show (0:Int)<8388608*t2 by omega)
   omega
  ·rintro ⟨a,b⟩
   have:=Int.mul_pos_of_neg_of_neg h (show 8388608*t1<0 by omega)
   have:=Int.mul_pos_of_neg_of_neg h (show 8388608*t2<0 by omega)
   omega
 ·constructor
  ·rintro ⟨a,b⟩
   have:=Int.mul_pos h (show (0:Int)<8388608*t1 by omega)
   have:=Int.mul_pos h (show (0:Int)<8388608*t2 by omega)
   omega
  ·rintro ⟨a,b⟩
   have:=Int.mul_neg_of_pos_of_neg h (show 8388608*t1<0 by omega)
   have:=Int.mul_neg_of_pos_of_neg h (show 8388608*t2<0 by omega)
   omega
theorem zdm {c t d:Int} (hc:c≠0) (h1:d=c*(8388608*t)):t=0↔d=0:=by
 constructor
 ·rintro rfl
  simpa using h1
 ·intro h
  rw [h] at h1
  rcases Int.mul_eq_zero.1 h1.symm with h | h
  ·exact absurd h hc
  ·omega
section
variable {n:Nat} (Dr:Drawn n) {PI:Int} {i j:Ix n} {h:Int}
def Drawn.lo (i:Ix n):Int:=min (Dr.A i).h (Dr.B i).h
def Drawn.hi (i:Ix n):Int:=max (Dr.A i).h (Dr.B i).h
variable (hPI:0<PI) (hd:∀ i,((Dr.B i).h - (Dr.A i).h) ∣ PI)
include hPI hd
theorem Drawn.c_ne:Dr.c PI i≠0:=fun h=>by
 have:=Dr.c_eq (hd i)
 rw [h,Int.zero_mul] at this
 omega
theorem Drawn.end_at {P:Pt} (h:P=Dr.A i∨P=Dr.B i):Dr.rp PI P.h i=P.x*PI:=by
 rcases h with rfl | rfl
 ·exact Dr.at_A i
 ·exact Dr.at_B (hd i)
theorem Drawn.diff {P:Pt} (h:P=Dr.A j∨P=Dr.B j):Dr.rp PI P.h i - Dr.rp PI P.h j=Dr.c PI i*(8388608*tw (Dr.A i) (Dr.B i) P):=by
 rw [Dr.end_at hPI hd h]
 exact Dr.at_pt (hd i) P
theorem Drawn.from' (k:Int):Dr.rp PI k i=Dr.rp PI h i+Dr.be PI i*(k - h):=by
 have:=Dr.aff (PI:=PI) (i:=i) (h:=h) (k - h)
 rwa [show h+(k - h)=k by omega] at this
theorem Drawn.col (hij:i≠j) (hb:Dr.be PI i=Dr.be PI j) (he:Dr.rp PI h i=Dr.rp PI h j) (h1:Dr.lo i<=h) (h2:h<=Dr.hi i) (h3:Dr.lo j<=h) (h4:h<=Dr.hi j) :
  max (Dr.lo i) (Dr.lo j)=min (Dr.hi i) (Dr.hi j)/\∃ P,(P=Dr.A i∨P=Dr.B i)/\(P=Dr.A j∨P=Dr.B j):=by
 have hall:∀ k,Dr.rp PI k i=Dr.rp PI k j:=fun k=>by
  rw [Dr.from' hPI hd (h:=h) k,Dr.from' hPI hd (i:=j) (h:=h) k,he,hb]
 have t1:tw (Dr.A i) (Dr.B i) (Dr.A j)=0:=(zdm (Dr.c_ne hPI hd) (Dr.diff hPI hd (i:=i) (j:=j) (.inl rfl))).2 (by rw [hall]; omega)
 have t2:tw (Dr.A i) (Dr.B i) (Dr.B j)=0:=(zdm (Dr.c_ne hPI hd) (Dr.diff hPI hd (i:=i) (j:=j) (.inr rfl))).2 (by rw [hall]; omega)
 have near:∀ p,p∈[Dr.A i,Dr.B i,Dr.A j,Dr.B j]->p.near/\Dr.rp PI p.h i=p.x*PI:=fun p hp=>by
  simp only [zgf,zg1,or_false] at hp
  rcases hp with rfl | rfl | rfl | rfl
  ·exact ⟨Dr.nearA i,Dr.end_at hPI hd (.inl rfl)⟩
  ·exact ⟨Dr.nearB i,Dr.end_at hPI hd (.inr rfl)⟩
  ·exact ⟨Dr.nearA j,by rw [hall]; exact Dr.end_at hPI hd (.inl rfl)⟩
  ·exact ⟨Dr.nearB j,by rw [hall]; exact Dr.end_at hPI hd (.inr rfl)⟩
 have line:∀ p q,p∈[Dr.A i,Dr.B i,Dr.A j,Dr.B j]->q∈[Dr.A i,Dr.B i,Dr.A j,Dr.B j]->(p.x - q.x)*PI=Dr.be PI i*(p.h - q.h):=fun p q hp hq=>by
  have a:=(near p hp).2
  have b:=(near q hq).2
  have:=Dr.from' hPI hd (i:=i) (h:=q.h) p.h
  rw [Int.sub_mul]
  omega
 have eqs:∀ p q,p∈[Dr.A i,Dr.B i,Dr.A j,Dr.B j]->q∈[Dr.A i,Dr.B i,Dr.A j,Dr.B j]->ptE p q=decide (p.h=q.h):=fun p q hp hq=>by
  by_cases hh:p.h=q.h
  ·rw [ptE_eq.2 (zbj (near p hp).1 (near q hq).1 hh),decide_eq_true hh]
  ·rw [decide_eq_false hh,← zh8,ptE_eq]
   rintro rfl
   exact hh rfl
 obtain ⟨s,hs,κ⟩:∃ s:Int,(s=1∨s=-1)/\∀ p q,p∈[Dr.A i,Dr.B i,Dr.A j,Dr.B j]->q∈[Dr.A i,Dr.B i,Dr.A j,Dr.B j]->bfP p q=decide (s*p.h<s*q.h):=by
  have bf:∀ p q:Pt,bfP p q=true↔(p.x<q.x∨(p.x=q.x/\p.y<q.y)):=fun p q=>by simp [bfP]
  rcases Int.lt_trichotomy (Dr.be PI i) 0 with hb | hb | hb
  ·refine ⟨-1,.inr rfl,fun p q hp hq=>?_⟩
   have e:=line p q hp hq
   have e0:=zbj (near p hp).1 (near q hq).1
   rw [zhi,bf,decide_eq_true_iff]
   by_cases hh:p.h=q.h
   ·obtain rfl:=e0 hh
    omega
   ·by_cases hlt:p.h<q.h
    ·have:=Int.mul_pos_of_neg_of_neg hb (show p.h - q.h<0 by omega)
     have:q.x<p.x:=by
      by_cases hx:p.x - q.x<=0
      ·have:=zii hx (Int.le_of_lt hPI)
       omega
      ·omega
     omega
    ·have:=Int.mul_neg_of_neg_of_pos hb (show 0<p.h - q.h by omega)
     have:p.x<q.x:=by
      by_cases hx:0<=p.x - q.x
      ·have:=Int.mul_nonneg hx (Int.le_of_lt hPI)
       omega
      ·omega
     omega
  ·refine ⟨1,.inl rfl,fun p q hp hq=>?_⟩
   have e:=line p q hp hq
   rw [hb,Int.zero_mul] at e
   rw [zhi,bf,decide_eq_true_iff]
   have:p.x=q.x:=by
    rcases Int.mul_eq_zero.1 e with h | h <;> omega
   unfold Pt.h
   omega
  ·refine ⟨1,.inl rfl,fun p q hp hq=>?_⟩
   have e:=line p q hp hq
   have e0:=zbj (near p hp).1 (near q hq).1
   rw [zhi,bf,decide_eq_true_iff]
   by_cases hh:p.h=q.h
   ·obtain rfl:=e0 hh
    omega
   ·by_cases hlt:p.h<q.h
    ·have:=Int.mul_neg_of_pos_of_neg hb (show p.h - q.h<0 by omega)
     have:p.x<q.x:=by
      by_cases hx:0<=p.x - q.x
      ·have:=Int.mul_nonneg hx (Int.le_of_lt hPI)
       omega
      ·omega
     omega
    ·have:=Int.mul_pos hb (show 0<p.h - q.h by omega)
     have:q.x<p.x:=by
      by_cases hx:p.x - q.x<=0
      ·have:=zii hx (Int.le_of_lt hPI)
       omega
      ·omega
     omega
 have hsh:=zff (κ:=fun p=>s*p.h) κ (fun p q hp hq=>by rw [eqs p q hp hq,zhi,decide_eq_true_iff,decide_eq_true_iff]; rcases hs with rfl | rfl <;> omega)
 unfold Drawn.lo Drawn.hi at *
 have nz:sharedI (Dr.A i) (Dr.B i) (Dr.A j) (Dr.B j)≠0:=by
  rw [hsh]
  rcases hs with rfl | rfl
  ·split
   ·decide
   ·rw [if_pos (by omega)]; decide
  ·split
   ·decide
   ·rw [if_pos (by omega)]; decide
 obtain ⟨hP,h1'⟩:=Dr.meet i j hij (.inl ⟨t1,t2,nz⟩)
 refine ⟨?_,hP⟩
 have:=h1' t1 t2
 rw [hsh] at this
 rcases hs with rfl | rfl
 ·split at this
  ·omega
  ·split at this <;> omega
 ·split at this
  ·omega
  ·split at this <;> omega
theorem Drawn.cross (hij:i≠j)
  (oi:(Dr.rp PI (Dr.A i).h i - Dr.rp PI (Dr.A i).h j<=0/\0<=Dr.rp PI (Dr.B i).h i - Dr.rp PI (Dr.B i).h j)∨(Dr.rp PI (Dr.B i).h i - Dr.rp PI (Dr.B i).h j<=0/\0<=Dr.rp PI (Dr.A i).h i - Dr.rp PI (Dr.A i).h j))
  (oj:(Dr.rp PI (Dr.A j).h i - Dr.rp PI (Dr.A j).h j<=0/\0<=Dr.rp PI (Dr.B j).h i - Dr.rp PI (Dr.B j).h j)∨(Dr.rp PI (Dr.B j).h i - Dr.rp PI (Dr.B j).h j<=0/\0<=Dr.rp PI (Dr.A j).h i - Dr.rp PI (Dr.A j).h j))
  (hz:¬ (Dr.rp PI (Dr.A j).h i - Dr.rp PI (Dr.A j).h j=0/\Dr.rp PI (Dr.B j).h i - Dr.rp PI (Dr.B j).h j=0)):∃ P,(P=Dr.A i∨P=Dr.B i)/\(P=Dr.A j∨P=Dr.B j)/\Dr.rp PI P.h i=Dr.rp PI P.h j:=by
 have a1:=Dr.diff hPI hd (i:=i) (j:=j) (P:=Dr.A j) (.inl rfl)
 have a2:=Dr.diff hPI hd (i:=i) (j:=j) (P:=Dr.B j) (.inr rfl)
 have b1:=Dr.diff hPI hd (i:=j) (j:=i) (P:=Dr.A i) (.inl rfl)
 have b2:=Dr.diff hPI hd (i:=j) (j:=i) (P:=Dr.B i) (.inr rfl)
 have cn:=Dr.c_ne hPI hd (i:=i)
 have cm:=Dr.c_ne hPI hd (i:=j)
 obtain ⟨⟨P,h1,h2⟩,_⟩:=Dr.meet i j hij (.inr ⟨fun h=>hz ⟨(zdm cn a1).1 h.1,(zdm cn a2).1 h.2⟩,opp_of cn a1 a2 oj,opp_of cm b1 b2 (by omega)⟩)
 exact ⟨P,h1,h2,by rw [Dr.end_at hPI hd h1,Dr.end_at hPI hd h2]⟩
end
section
variable {n:Nat} (Dr:Drawn n) {PI:Int}
theorem Zt {b u:Int}:(0<=b->0<=u->0<=b*u)/\(0<=b->u<=0->b*u<=0)/\(b<=0->0<=u->b*u<=0)/\(b<=0->u<=0->0<=b*u) :=
 ⟨fun h1 h2=>Int.mul_nonneg h1 h2,fun h1 h2=>zho h1 h2,fun h1 h2=>zii h1 h2,fun h1 h2=>Int.mul_nonneg_of_nonpos_of_nonpos h1 h2⟩
def Drawn.rowed (hPI:0<PI) (hd:∀ i,((Dr.B i).h - (Dr.A i).h) ∣ PI):Rowed n where
 lo:=Dr.lo
 hi:=Dr.hi
 rp h i:=Dr.rp PI h i
 lt i:=by
  have:=Dr.hne i
  unfold Drawn.lo Drawn.hi
  omega
 V i j h h1 h2:=by
  have key:∀ i,Dr.lo i=h∨Dr.hi i=h->∃ P,(P=Dr.A i∨P=Dr.B i)/\P.h=h:=fun i hi=>by
   unfold Drawn.lo Drawn.hi at hi
   by_cases ha:(Dr.A i).h=h
   ·exact ⟨_,.inl rfl,ha⟩
   ·exact ⟨_,.inr rfl,by omega⟩
  obtain ⟨P,p1,p2⟩:=key i h1
  obtain ⟨Q,q1,q2⟩:=key j h2
  have e:P=Q:=zbj (by rcases p1 with rfl | rfl; exact Dr.nearA i; exact Dr.nearB i) (by rcases q1 with rfl | rfl; exact Dr.nearA j; exact Dr.nearB j) (by omega)
  have e1:=Dr.end_at hPI hd p1
  have e2:=Dr.end_at hPI hd q1
  rw [p2] at e1
  rw [q2] at e2
  rw [e1,e2,e]
 Z i j h hij h1 h2 h3 h4 he:=by
  have hP:∃ P,(P=Dr.A i∨P=Dr.B i)/\(P=Dr.A j∨P=Dr.B j)/\P.h=h:=by
   by_cases hb:Dr.be PI i=Dr.be PI j
   ·obtain ⟨c1,P,p1,p2⟩:=Dr.col hPI hd hij hb he h1 h2 h3 h4
    refine ⟨P,p1,p2,?_⟩
    have a:Dr.lo i<=P.h/\P.h<=Dr.hi i:=by unfold Drawn.lo Drawn.hi; rcases p1 with rfl | rfl <;> omega
    have b:Dr.lo j<=P.h/\P.h<=Dr.hi j:=by unfold Drawn.lo Drawn.hi; rcases p2 with rfl | rfl <;> omega
    omega
   ·have df:∀ k,Dr.rp PI k i - Dr.rp PI k j=(Dr.be PI i - Dr.be PI j)*(k - h):=fun k=>by
     rw [Dr.from' hPI hd (h:=h) k,Dr.from' hPI hd (i:=j) (h:=h) k,he,Int.sub_mul]
     omega
    have hb0:Dr.be PI i - Dr.be PI j≠0:=by omega
    have ni:=Dr.hne i
    have nj:=Dr.hne j
    have z:∀ k,Dr.rp PI k i - Dr.rp PI k j=0->k=h:=fun k hk=>by
     rw [df] at hk
     rcases Int.mul_eq_zero.1 hk with h | h
     ·exact absurd h hb0
     ·omega
    have o:∀ u v,(u<=h/\h<=v)∨(v<=h/\h<=u)->(Dr.rp PI u i - Dr.rp PI u j<=0/\0<=Dr.rp PI v i - Dr.rp PI v j)∨(Dr.rp PI v i - Dr.rp PI v j<=0/\0<=Dr.rp PI u i - Dr.rp PI u j):=fun u v huv=>by
     rw [df u,df v]
     obtain ⟨a1,a2,a3,a4⟩:=Zt (b:=Dr.be PI i - Dr.be PI j) (u:=u - h)
     obtain ⟨b1,b2,b3,b4⟩:=Zt (b:=Dr.be PI i - Dr.be PI j) (u:=v - h)
     rcases Int.le_total 0 (Dr.be PI i - Dr.be PI j) with hs | hs <;> rcases huv with ⟨g1,g2⟩ | ⟨g1,g2⟩
     ·exact .inl ⟨a2 hs (by omega),b1 hs (by omega)⟩
     ·exact .inr ⟨b2 hs (by omega),a1 hs (by omega)⟩
     ·exact .inr ⟨b3 hs (by omega),a4 hs (by omega)⟩
     ·exact .inl ⟨a3 hs (by omega),b4 hs (by omega)⟩
    unfold Drawn.lo at h1 h3
    unfold Drawn.hi at h2 h4
    obtain ⟨P,p1,p2,p3⟩:=Dr.cross hPI hd hij (o _ _ (by omega)) (o _ _ (by omega)) (fun hh=>by
     have:=z _ hh.1
     have:=z _ hh.2
     omega)
    exact ⟨P,p1,p2,z _ (by omega)⟩
  obtain ⟨P,p1,p2,p3⟩:=hP
  unfold Drawn.lo Drawn.hi at *
  constructor
  ·rcases p1 with rfl | rfl <;> omega
  ·rcases p2 with rfl | rfl <;> omega
 C i j h h1 h2 h3 h4:=by
  rintro ⟨c1,c2⟩
  have hij:i≠j:=fun e=>by subst e; omega
  have e1:=Dr.aff (PI:=PI) (i:=i) (h:=h) 1
  have e2:=Dr.aff (PI:=PI) (i:=j) (h:=h) 1
  have df:∀ k,Dr.rp PI k i - Dr.rp PI k j=(Dr.rp PI h i - Dr.rp PI h j)+(Dr.be PI i - Dr.be PI j)*(k - h):=fun k=>by
   rw [Dr.from' hPI hd (h:=h) k,Dr.from' hPI hd (i:=j) (h:=h) k,Int.sub_mul]
   omega
  have hb:0<Dr.be PI i - Dr.be PI j:=by omega
  have dn:∀ k,k<=h->Dr.rp PI k i - Dr.rp PI k j<0:=fun k hk=>by
   rw [df]
   have:=(Zt (b:=Dr.be PI i - Dr.be PI j) (u:=k - h)).2.1 (by omega) (by omega)
   omega
  have up:∀ k,h+1<=k->0<Dr.rp PI k i - Dr.rp PI k j:=fun k hk=>by
   have e3:=df (h+1)
   rw [df]
   have:=Int.mul_le_mul_of_nonneg_left (show 1<=k - h by omega) (Int.le_of_lt hb)
   rw [show h+1 - h=1 by omega] at e3
   omega
  unfold Drawn.lo at h1 h3
  unfold Drawn.hi at h2 h4
  have o:∀ u v,(u<=h/\h+1<=v)∨(v<=h/\h+1<=u)->(Dr.rp PI u i - Dr.rp PI u j<=0/\0<=Dr.rp PI v i - Dr.rp PI v j)∨(Dr.rp PI v i - Dr.rp PI v j<=0/\0<=Dr.rp PI u i - Dr.rp PI u j):=fun u v huv=>by
   rcases huv with ⟨g1,g2⟩ | ⟨g1,g2⟩
   ·exact .inl ⟨Int.le_of_lt (dn _ g1),Int.le_of_lt (up _ g2)⟩
   ·exact .inr ⟨Int.le_of_lt (dn _ g1),Int.le_of_lt (up _ g2)⟩
  have nz:∀ k,k<=h∨h+1<=k->Dr.rp PI k i - Dr.rp PI k j≠0:=fun k hk=>by
   rcases hk with hk | hk
   ·have:=dn k hk; omega
   ·have:=up k hk; omega
  obtain ⟨P,p1,p2,p3⟩:=Dr.cross hPI hd hij (o _ _ (by omega)) (o _ _ (by omega)) (fun hh=>nz _ (by omega) hh.1)
  exact nz P.h (by omega) (by omega)
 W i j h hij h1 h2 h3 h4:=by
  rintro ⟨c1,c2⟩
  have e1:=Dr.aff (PI:=PI) (i:=i) (h:=h) 1
  have e2:=Dr.aff (PI:=PI) (i:=j) (h:=h) 1
  have:=(Dr.col hPI hd hij (by omega) c1 h1 (by omega) h3 (by omega)).1
  omega
end
end
section
section
variable {n:Nat} (Dr:Drawn n) {PI:Int} {i j:Ix n} {m:Int}
def Drawn.fro (x:Dt (Ix n)):Pt:=if x.up=decide ((Dr.A x.s).h<(Dr.B x.s).h) then Dr.A x.s else Dr.B x.s
def Drawn.to (x:Dt (Ix n)):Pt:=if x.up=decide ((Dr.A x.s).h<(Dr.B x.s).h) then Dr.B x.s else Dr.A x.s
theorem Drawn.ends_fro (x:Dt (Ix n)):(Dr.fro x=Dr.A x.s/\Dr.to x=Dr.B x.s)∨(Dr.fro x=Dr.B x.s/\Dr.to x=Dr.A x.s):=by
 unfold Drawn.fro Drawn.to
 by_cases h:x.up=decide ((Dr.A x.s).h<(Dr.B x.s).h)
 ·rw [if_pos h,if_pos h]; exact .inl ⟨rfl,rfl⟩
 ·rw [if_neg h,if_neg h]; exact .inr ⟨rfl,rfl⟩
theorem Drawn.up_lt (x:Dt (Ix n)):(x.up=true->(Dr.fro x).h=Dr.lo x.s/\(Dr.to x).h=Dr.hi x.s)/\(x.up=false->(Dr.fro x).h=Dr.hi x.s/\(Dr.to x).h=Dr.lo x.s):=by
 have:=Dr.hne x.s
 unfold Drawn.fro Drawn.to Drawn.lo Drawn.hi
 by_cases h:(Dr.A x.s).h<(Dr.B x.s).h
 ·rw [decide_eq_true h]
  constructor
  ·intro hu; simp only [hu,if_true]; omega
  ·intro hu; simp only [hu,zgk,if_false]; omega
 ·rw [decide_eq_false h]
  constructor
  ·intro hu; simp only [hu,Bool.true_eq_false,if_false]; omega
  ·intro hu; simp only [hu,if_true]; omega
theorem Drawn.near_fro (x:Dt (Ix n)):(Dr.fro x).near/\(Dr.to x).near:=by
 rcases Dr.ends_fro x with ⟨h1,h2⟩ | ⟨h1,h2⟩ <;> rw [h1,h2]
 ·exact ⟨Dr.nearA _,Dr.nearB _⟩
 ·exact ⟨Dr.nearB _,Dr.nearA _⟩
variable (hPI:0<PI) (hd:∀ i,((Dr.B i).h - (Dr.A i).h) ∣ PI)
include hPI hd
theorem Drawn.slope (x:Dt (Ix n)):Dr.be PI x.s*((Dr.to x).h - (Dr.fro x).h)=((Dr.to x).x - (Dr.fro x).x)*PI:=by
 have e:=Dr.from' hPI hd (i:=x.s) (h:=(Dr.fro x).h) (Dr.to x).h
 have h1:Dr.fro x=Dr.A x.s∨Dr.fro x=Dr.B x.s:=(Dr.ends_fro x).imp (fun h=>h.1) (fun h=>h.1)
 have h2:Dr.to x=Dr.A x.s∨Dr.to x=Dr.B x.s:=(Dr.ends_fro x).symm.imp (fun h=>h.2) (fun h=>h.2)
 rw [Dr.end_at hPI hd h1,Dr.end_at hPI hd h2] at e
 rw [Int.sub_mul]
 omega
theorem Drawn.turn_pos {x y:Dt (Ix n)} (ho:Dr.fro x=Dr.fro y) (hu:x.up=y.up) (hb:Dr.be PI y.s<Dr.be PI x.s):0<tw (Dr.fro x) (Dr.to x) (Dr.to y):=by
 have sx:=Dr.slope hPI hd x
 have sy:=Dr.slope hPI hd y
 rw [← ho] at sy
 have hx:=Dr.up_lt x
 have hy:=Dr.up_lt y
 rw [← ho,← hu] at hy
 have lx:=Dr.hne x.s
 have ly:=Dr.hne y.s
 have s1:0<((Dr.to x).h - (Dr.fro x).h)*((Dr.to y).h - (Dr.fro x).h):=by
  unfold Drawn.lo Drawn.hi at hx hy
  cases h:x.up
  ·exact Int.mul_pos_of_neg_of_neg (by have:=hx.2 h; omega) (by have:=hy.2 h; omega)
  ·exact Int.mul_pos (by have:=hx.1 h; omega) (by have:=hy.1 h; omega)
 have s2:=Int.mul_lt_mul_of_pos_right hb s1
 have key:0<PI*(8388608*tw (Dr.fro x) (Dr.to x) (Dr.to y)):=by
  have e:PI*(8388608*tw (Dr.fro x) (Dr.to x) (Dr.to y))=Dr.be PI x.s*(((Dr.to x).h - (Dr.fro x).h)*((Dr.to y).h - (Dr.fro x).h)) - Dr.be PI y.s*(((Dr.to x).h - (Dr.fro x).h)*((Dr.to y).h - (Dr.fro x).h)):=by
   rw [show Dr.be PI x.s*(((Dr.to x).h - (Dr.fro x).h)*((Dr.to y).h - (Dr.fro x).h))=(Dr.be PI x.s*((Dr.to x).h - (Dr.fro x).h))*((Dr.to y).h - (Dr.fro x).h) from (Int.mul_assoc ..).symm,sx,
    show Dr.be PI y.s*(((Dr.to x).h - (Dr.fro x).h)*((Dr.to y).h - (Dr.fro x).h))=(Dr.be PI y.s*((Dr.to y).h - (Dr.fro x).h))*((Dr.to x).h - (Dr.fro x).h) by rw [Int.mul_comm ((Dr.to x).h - (Dr.fro x).h),Int.mul_assoc],sy]
   unfold tw Pt.h
   generalize (Dr.fro x).x=ax
   generalize (Dr.fro x).y=ay
   generalize (Dr.to x).x=bx
   generalize (Dr.to x).y=bY
   generalize (Dr.to y).x=cx
   generalize (Dr.to y).y=cy
   clear s2 s1 sx sy hx hy lx ly hb ho hu hd
   grind
  omega
 by_cases ht:0<tw (Dr.fro x) (Dr.to x) (Dr.to y)
 ·exact ht
 ·have:=zho (Int.le_of_lt hPI) (show 8388608*tw (Dr.fro x) (Dr.to x) (Dr.to y)<=0 by omega)
  omega
end
def lwr (o p:Pt):Bool:=decide (p.y<o.y)||(p.y==o.y&&decide (p.x<o.x))
def lss (o p q:Pt):Bool:=bif lwr o p != lwr o q then lwr o q else decide (0<tw o p q)
theorem Ya {o p:Pt}:lwr o p=true↔p.y<o.y∨(p.y=o.y/\p.x<o.x):=by simp [lwr]
def isE (o p:Pt):Prop:=p.y=o.y/\o.x<p.x
theorem zfg {o p:Pt} (ho:o.near) (hp:p.near) (h:o.h<p.h):o.y<p.y∨(p.y=o.y/\p.x<o.x):=by
 unfold Pt.near at *
 unfold Pt.h at h
 omega
theorem dn_dir {o p:Pt} (ho:o.near) (hp:p.near) (h:p.h<o.h):p.y<o.y∨(p.y=o.y/\o.x<p.x):=by
 unfold Pt.near at *
 unfold Pt.h at h
 omega
theorem zfh {o p q:Pt} (h1:lwr o p=false) (h2:lwr o q=true):lss o p q=true:=by simp [lss,h1,h2]
theorem zbk {o p q:Pt} (h1:lwr o p=lwr o q) (h2:0<tw o p q):lss o p q=true:=by simp [lss,h1,h2]
theorem not_lwr {o p:Pt} (h:¬ (p.y<o.y∨(p.y=o.y/\p.x<o.x))):lwr o p=false:=by
 rw [← zh8,Ya]
 exact h
theorem lss_up {o p q:Pt} (ho:o.near) (hp:p.near) (hq:q.near) (h1:o.h<p.h) (h2:o.h<q.h) (ht:0<tw o p q):lss o p q=true:=by
 have d1:=zfg ho hp h1
 have d2:=zfg ho hq h2
 have e:o.y<p.y:=by
  rcases d1 with h | h
  ·exact h
  ·unfold tw at ht
   rw [h.1,Int.sub_self,Int.zero_mul] at ht
   have:=zii (show p.x - o.x<=0 by omega) (show 0<=q.y - o.y by omega)
   omega
 have l1:=not_lwr (o:=o) (p:=p) (by omega)
 cases l2:lwr o q
 ·exact zbk (by rw [l1,l2]) ht
 ·exact zfh l1 l2
theorem lss_dn {o p q:Pt} (ho:o.near) (hp:p.near) (hq:q.near) (h1:p.h<o.h) (h2:q.h<o.h) (ht:0<tw o p q):¬ isE o p/\(¬ isE o q->lss o p q=true):=by
 have d1:=dn_dir ho hp h1
 have d2:=dn_dir ho hq h2
 have e:¬ isE o p:=fun h=>by
  unfold tw at ht
  rw [h.1,Int.sub_self,Int.zero_mul] at ht
  have:=zho (show 0<=p.x - o.x by have:=h.2; omega) (show q.y - o.y<=0 by omega)
  omega
 refine ⟨e,fun hq=>zbk ?_ ht⟩
 unfold isE at *
 rw [Ya.2 (by omega),Ya.2 (by omega)]
theorem lss_ud {o p q:Pt} (ho:o.near) (hp:p.near) (hq:q.near) (h1:o.h<p.h) (h2:q.h<o.h) (he:¬ isE o q):lss o p q=true:=by
 have d1:=zfg ho hp h1
 have d2:=dn_dir ho hq h2
 unfold isE at he
 have l2:lwr o q=true:=Ya.2 (by omega)
 rcases d1 with h | h
 ·exact zfh (not_lwr (by omega)) l2
 ·refine zbk (by rw [l2,Ya.2 (.inr h)]) ?_
  unfold tw
  rw [h.1,Int.sub_self,Int.zero_mul]
  have:=Int.mul_pos_of_neg_of_neg (show p.x - o.x<0 by omega) (show q.y - o.y<0 by omega)
  omega
theorem lss_e {o p q:Pt} (hp:isE o p) (hq:¬ isE o q) (hn:q≠o):lss o p q=true:=by
 unfold isE at *
 have l1:=not_lwr (o:=o) (p:=p) (by omega)
 cases l2:lwr o q
 ·refine zbk (by rw [l1,l2]) ?_
  have h3:¬ (q.y<o.y∨(q.y=o.y/\q.x<o.x)):=fun h=>by rw [Ya.2 h] at l2; cases l2
  have h4:¬ (q.y=o.y/\q.x=o.x):=fun h=>hn (by cases q; cases o; simp_all)
  unfold tw
  rw [hp.1,Int.sub_self,Int.zero_mul]
  have:=Int.mul_pos (show 0<p.x - o.x by omega) (show 0<q.y - o.y by omega)
  omega
 ·exact zfh l1 l2
section
variable {n:Nat} (Dr:Drawn n) {PI:Int} {i j:Ix n} {m:Int}
variable (hPI:0<PI) (hd:∀ i,((Dr.B i).h - (Dr.A i).h) ∣ PI)
theorem Drawn.ring_pair:((Dr.rowed hPI hd).strips.ring m).Pairwise fun x y=>(x.up=y.up/\Dr.be PI y.s<Dr.be PI x.s)∨(x.up=true/\y.up=false):=by
 unfold Strips.ring
 rw [List.pairwise_append,zhk,zhk,List.pairwise_reverse]
 have aff1:∀ i,Dr.rp PI (m+1) i=Dr.rp PI m i+Dr.be PI i:=fun i=>by have:=Dr.aff (PI:=PI) (i:=i) (h:=m) 1; omega
 have aff2:∀ i,Dr.rp PI (m - 1) i=Dr.rp PI m i - Dr.be PI i:=fun i=>by
  have:=Dr.aff (PI:=PI) (i:=i) (h:=m) (-1)
  rw [show m+-1=m - 1 by omega] at this
  omega
 refine ⟨?_,?_,fun a ha b hb=>?_⟩
 ·refine ((Dr.rowed hPI hd).sorted_L.filter (fun a=>decide ((Dr.rowed hPI hd).up m a=1))).imp_of_mem fun {i j} hi hj hk=>.inl ⟨rfl,?_⟩
  have h1:=((Dr.rowed hPI hd).strips.starts m i).1 hi
  have h2:=((Dr.rowed hPI hd).strips.starts m j).1 hj
  have v:Dr.rp PI m i=Dr.rp PI m j:=(Dr.rowed hPI hd).V i j m (.inl h1) (.inl h2)
  have hk:Dr.rp PI m i+Dr.rp PI (m+1) i<Dr.rp PI m j+Dr.rp PI (m+1) j:=hk
  rw [aff1,aff1] at hk
  simp only
  omega
 ·refine ((Dr.rowed hPI hd).sorted_L.filter (fun a=>decide ((Dr.rowed hPI hd).dn m a=1))).imp_of_mem fun {i j} hi hj hk=>.inl ⟨rfl,?_⟩
  have h1:=((Dr.rowed hPI hd).strips.ends m i).1 hi
  have h2:=((Dr.rowed hPI hd).strips.ends m j).1 hj
  have v:Dr.rp PI m i=Dr.rp PI m j:=(Dr.rowed hPI hd).V i j m (.inr h1) (.inr h2)
  have hk:Dr.rp PI (m - 1) i+Dr.rp PI (m - 1+1) i<Dr.rp PI (m - 1) j+Dr.rp PI (m - 1+1) j:=hk
  rw [show m - 1+1=m by omega,aff2,aff2] at hk
  simp only
  omega
 ·obtain ⟨i,_,rfl⟩:=zgx.1 ha
  obtain ⟨j,_,rfl⟩:=zgx.1 hb
  exact .inr ⟨rfl,rfl⟩
theorem Drawn.ring_fro {x:Dt (Ix n)} (hx:x∈(Dr.rowed hPI hd).strips.ring m):(Dr.fro x).h=m:=by
 have hu:=Dr.up_lt x
 unfold Strips.ring at hx
 rcases zhf.1 hx with h | h
 ·obtain ⟨i,hi,rfl⟩:=zgx.1 h
  rw [List.mem_reverse] at hi
  exact (hu.1 rfl).1.trans (((Dr.rowed hPI hd).strips.starts m i).1 hi)
 ·obtain ⟨i,hi,rfl⟩:=zgx.1 h
  exact (hu.2 rfl).1.trans (((Dr.rowed hPI hd).strips.ends m i).1 hi)
theorem Drawn.mem_ring {x:Dt (Ix n)}:x∈(Dr.rowed hPI hd).strips.ring m↔(Dr.fro x).h=m:=by
 refine ⟨Dr.ring_fro hPI hd,fun h=>?_⟩
 have hu:=Dr.up_lt x
 obtain ⟨i,b⟩:=x
 unfold Strips.ring
 cases b
 ·exact List.mem_append_right _ (zgx.2 ⟨i,((Dr.rowed hPI hd).strips.ends m i).2 ((hu.2 rfl).1.symm.trans h),rfl⟩)
 ·exact zil _ (zgx.2 ⟨i,by rw [List.mem_reverse]; exact ((Dr.rowed hPI hd).strips.starts m i).2 ((hu.1 rfl).1.symm.trans h),rfl⟩)
theorem Drawn.ring_less {o:Pt} (ho:o.near) (hm:o.h=m):∃ R1 R2,(Dr.rowed hPI hd).strips.ring m=R1++R2/\(R2++R1).Pairwise fun x y=>lss o (Dr.to x) (Dr.to y)=true:=by
 have hp:=Dr.ring_pair hPI hd (m:=m)
 have fro:∀ x,x∈(Dr.rowed hPI hd).strips.ring m->Dr.fro x=o:=fun x hx=>zbj (Dr.near_fro x).1 ho (by rw [Dr.ring_fro hPI hd hx,hm])
 have hgt:∀ x,x∈(Dr.rowed hPI hd).strips.ring m->(x.up=true->o.h<(Dr.to x).h)/\(x.up=false->(Dr.to x).h<o.h):=fun x hx=>by
  have:=Dr.up_lt x
  rw [fro x hx] at this
  have hn:=Dr.hne x.s
  unfold Drawn.lo Drawn.hi at this
  exact ⟨fun h=>by have:=this.1 h; omega,fun h=>by have:=this.2 h; omega⟩
 have pair:∀ x y,x∈(Dr.rowed hPI hd).strips.ring m->y∈(Dr.rowed hPI hd).strips.ring m->(x.up=y.up/\Dr.be PI y.s<Dr.be PI x.s)∨(x.up=true/\y.up=false)->¬ isE o (Dr.to x)/\(¬ isE o (Dr.to y)->lss o (Dr.to x) (Dr.to y)=true):=fun x y hx hy hxy=>by
  have gx:=hgt x hx
  have gy:=hgt y hy
  have nx:=(Dr.near_fro x).2
  have ny:=(Dr.near_fro y).2
  rcases hxy with ⟨h1,h2⟩ | ⟨h1,h2⟩
  ·have ht:=Dr.turn_pos hPI hd ((fro x hx).trans (fro y hy).symm) h1 h2
   rw [fro x hx] at ht
   cases hu:x.up
   ·exact lss_dn ho nx ny (gx.2 hu) (gy.2 (h1 ▸ hu)) ht
   ·refine ⟨fun he=>?_,fun _=>lss_up ho nx ny (gx.1 hu) (gy.1 (h1 ▸ hu)) ht⟩
    have:=zfg ho nx (gx.1 hu)
    unfold isE at he
    omega
  ·refine ⟨fun he=>?_,lss_ud ho nx ny (gx.1 h1) (gy.2 h2)⟩
   have:=zfg ho nx (gx.1 h1)
   unfold isE at he
   omega
 generalize hr:(Dr.rowed hPI hd).strips.ring m=R at hp fro hgt pair
 have core:∀ L:List (Dt (Ix n)),(∀ x∈L,x∈R/\¬ isE o (Dr.to x))->(L.Pairwise fun x y=>(x.up=y.up/\Dr.be PI y.s<Dr.be PI x.s)∨(x.up=true/\y.up=false))->L.Pairwise fun x y=>lss o (Dr.to x) (Dr.to y)=true:=fun L hL h=>h.imp_of_mem fun {a b} ha hb hab=>(pair a b (hL a ha).1 (hL b hb).1 hab).2 (hL b hb).2
 rcases List.eq_nil_or_concat R with rfl | ⟨R1,e,rfl⟩
 ·exact ⟨[],[],rfl,.nil⟩
 ·rw [List.concat_eq_append] at *
  rw [List.pairwise_append] at hp
  have notE:∀ x∈R1,¬ isE o (Dr.to x):=fun x hx=>(pair x e (by simp [hx]) (by simp) (hp.2.2 x hx e (by simp))).1
  by_cases he:isE o (Dr.to e)
  ·refine ⟨R1,[e],rfl,?_⟩
   rw [List.pairwise_append]
   refine ⟨List.pairwise_singleton ..,core R1 (fun x hx=>⟨by simp [hx],notE x hx⟩) hp.1,fun a ha b hb=>?_⟩
   rw [zhe] at ha
   subst ha
   refine lss_e he (notE b hb) fun hh=>?_
   have:=hgt b (by simp [hb])
   rw [hh] at this
   cases hu:b.up
   ·have:=this.2 hu; omega
   ·have:=this.1 hu; omega
  ·refine ⟨R1++[e],[],by simp,?_⟩
   rw [zgz]
   exact core _ (fun x hx=>⟨hx,by
    rcases zhf.1 hx with h | h
    ·exact notE x h
    ·rw [zhe] at h
     subst h
     exact he⟩) (List.pairwise_append.2 hp)
end
end
section
def Adj {α:Type} (l:List α) (x y:α):Prop:=(∃ A B,l=A++x::y::B)∨∃ B,l=y::B/\l.getLast?=some x
theorem Adj.mem {α:Type} {l:List α} {x y:α} (h:Adj l x y):x∈l/\y∈l:=by
 rcases h with ⟨A,B,rfl⟩ | ⟨B,rfl,h⟩
 ·simp
 ·exact ⟨List.mem_of_getLast? h,by simp⟩
theorem Adj.rot {α:Type} {l r:List α} {x y:α} (h:Adj (l++r) x y):Adj (r++l) x y:=by
 rcases h with ⟨A,B,h⟩ | ⟨B,h1,h2⟩
 ·rcases List.append_eq_append_iff.1 h with ⟨C,rfl,hr⟩ | ⟨C,rfl,hr⟩
  ·exact .inl ⟨C,B++l,by rw [hr]; simp⟩
  ·rcases C with _ | ⟨c,_ | ⟨c2,C⟩⟩
   ·simp only [zgz] at hr
    subst hr
    exact .inl ⟨[],B++A,by simp⟩
   ·simp only [zgq,zgz,List.cons.injEq] at hr
    obtain ⟨rfl,rfl⟩:=hr
    exact .inr ⟨B++(A++[x]),by simp,by rw [← zgu]; exact List.getLast?_concat⟩
   ·simp only [zgq,List.cons.injEq] at hr
    obtain ⟨rfl,rfl,rfl⟩:=hr
    exact .inl ⟨r++A,C,by simp⟩
 ·cases l with
  | nil=>exact .inr ⟨B,by simpa using h1,by simpa using h2⟩
  | cons c l =>
   obtain ⟨rfl,rfl⟩:=List.cons.inj h1
   rcases List.eq_nil_or_concat r with rfl | ⟨r',z,rfl⟩
   ·exact .inr ⟨l,by simp,by simpa using h2⟩
   ·rw [List.concat_eq_append] at *
    have:z=x:=by simpa [List.getLast?_append,List.getLast?_cons] using h2
    subst this
    exact .inl ⟨r',l,by simp⟩
theorem Adj.map {α β:Type} (g:α->β) {l:List α} {x y:α} (h:Adj l x y):Adj (l.map g) (g x) (g y):=by
 rcases h with ⟨A,B,rfl⟩ | ⟨B,rfl,h⟩
 ·exact .inl ⟨A.map g,B.map g,by simp⟩
 ·exact .inr ⟨B.map g,by simp,by rw [List.getLast?_map,h]; rfl⟩
theorem Adj.ne {α:Type} {l:List α} {x z:α} (hn:l.Nodup) (h:Adj l x x) (hz:z∈l):z=x:=by
 rcases h with ⟨A,B,rfl⟩ | ⟨B,rfl,h⟩
 ·rw [List.nodup_append,List.nodup_cons] at hn
  exact absurd (zgi ..) hn.2.1.1
 ·cases B with
  | nil=>simpa using hz
  | cons b B =>
   rw [List.getLast?_cons_cons] at h
   exact absurd (List.mem_of_getLast? h) (List.nodup_cons.1 hn).1
theorem cyc_of {S:Type} [DecidableEq S] {T:Strips S} {f:Dt S->Bool} (h:∀ m x y,Adj (T.ring m) x y->f y.rev=f x):T.Cyc f :=
 ⟨fun m A B x y e=>h m x y (.inl ⟨A,B,e⟩),fun m B x y e1 e2=>h m x y (.inr ⟨B,e1,e2⟩)⟩
structure Net where
 E:List (Int × Nat)
 len:Int->Nat
 pt:Int->Nat->Pt
 nodup:E.Nodup
 mem:∀ a k,(a,k)∈E->0<a/\k<len a
 whole:∀ a k j,(a,k)∈E->j<len a->(a,j)∈E
 near:∀ a k j,(a,k)∈E->j<=len a->(pt a j).near
 ne:∀ a k,(a,k)∈E->pt a k≠pt a (k+1)
 meet:∀ a k b j,(a,k)∈E->(b,j)∈E->(a,k)≠(b,j)->touch (pt a k) (pt a (k+1)) (pt b j) (pt b (j+1)) ->
  (∃ P,(P=pt a k∨P=pt a (k+1))/\(P=pt b j∨P=pt b (j+1)))/\(tw (pt a k) (pt a (k+1)) (pt b j)=0->tw (pt a k) (pt a (k+1)) (pt b (j+1))=0->sharedI (pt a k) (pt a (k+1)) (pt b j) (pt b (j+1))=1)
 via:∀ a k b j,(a,0)∈E->(b,0)∈E->0<k->k<len a->j<=len b->pt b j=pt a k->b=a/\j=k
section
variable (N:Net)
theorem Net.get_mem (i:Ix N.E.length):(N.E[i].1,N.E[i].2)∈N.E:=zgt _
def Net.drawn:Drawn N.E.length where
 A i:=N.pt N.E[i].1 N.E[i].2
 B i:=N.pt N.E[i].1 (N.E[i].2+1)
 nearA i:=N.near _ _ _ (N.get_mem i) (Nat.le_of_lt (N.mem _ _ (N.get_mem i)).2)
 nearB i:=N.near _ _ _ (N.get_mem i) (N.mem _ _ (N.get_mem i)).2
 ne i:=N.ne _ _ (N.get_mem i)
 meet i j hij:=N.meet _ _ _ _ (N.get_mem i) (N.get_mem j) fun h=>hij (by
  have h2:N.E[i]=N.E[j]:=by
   rw [zic] at h
   exact Prod.ext h.1 h.2
  exact Fin.ext ((List.getElem_inj N.nodup).1 h2))
def Net.fwd (x:Dt (Ix N.E.length)):Bool:=x.up==decide ((N.drawn.A x.s).h<(N.drawn.B x.s).h)
def Net.dart (x:Dt (Ix N.E.length)):Int:=if N.fwd x then N.E[x.s].1 else - N.E[x.s].1
theorem Net.fwd_rev (x:Dt (Ix N.E.length)):N.fwd x.rev=!N.fwd x:=by
 unfold Net.fwd Dt.rev
 cases x.up <;> cases decide ((N.drawn.A x.s).h<(N.drawn.B x.s).h) <;> rfl
theorem Net.dart_rev (x:Dt (Ix N.E.length)):N.dart x.rev=- N.dart x:=by
 unfold Net.dart
 rw [N.fwd_rev]
 cases N.fwd x <;> simp [Dt.rev]
theorem Net.fro_fwd {x:Dt (Ix N.E.length)} (h:N.fwd x=true):N.drawn.fro x=N.pt N.E[x.s].1 N.E[x.s].2/\N.drawn.to x=N.pt N.E[x.s].1 (N.E[x.s].2+1):=by
 unfold Net.fwd at h
 have h:=eq_of_beq h
 unfold Drawn.fro Drawn.to
 rw [if_pos h,if_pos h]
 exact ⟨rfl,rfl⟩
theorem Net.fro_bwd {x:Dt (Ix N.E.length)} (h:N.fwd x=false):N.drawn.fro x=N.pt N.E[x.s].1 (N.E[x.s].2+1)/\N.drawn.to x=N.pt N.E[x.s].1 N.E[x.s].2:=by
 unfold Net.fwd at h
 have h:¬ x.up=decide ((N.drawn.A x.s).h<(N.drawn.B x.s).h):=by simpa using h
 unfold Drawn.fro Drawn.to
 rw [if_neg h,if_neg h]
 exact ⟨rfl,rfl⟩
theorem Net.same {x y:Dt (Ix N.E.length)} (h1:N.E[x.s]=N.E[y.s]) (h2:N.fwd x=N.fwd y):x=y:=by
 have hs:x.s=y.s:=Fin.ext ((List.getElem_inj N.nodup).1 h1)
 cases x with | mk s u =>
 cases y with | mk t v =>
 simp only at hs
 subst hs
 unfold Net.fwd at h2
 simp only at h2
 congr 1
 generalize decide ((N.drawn.A s).h<(N.drawn.B s).h)=b at h2
 cases u <;> cases v <;> cases b <;> simp_all
theorem Net.ex {a:Int} {k:Nat} (h:(a,k)∈N.E) (b:Bool):∃ x:Dt (Ix N.E.length),N.E[x.s]=(a,k)/\N.fwd x=b:=by
 obtain ⟨i,hi,he⟩:=List.getElem_of_mem h
 refine ⟨⟨⟨i,hi⟩,b==decide ((N.drawn.A ⟨i,hi⟩).h<(N.drawn.B ⟨i,hi⟩).h)⟩,he,?_⟩
 unfold Net.fwd
 simp only
 generalize decide ((N.drawn.A ⟨i,hi⟩).h<(N.drawn.B ⟨i,hi⟩).h)=c
 cases b <;> cases c <;> rfl
def Net.sp (d:Int):Pt:=if 0<d then N.pt d 0 else N.pt (-d) (N.len (-d))
def Net.sc (d:Int):Pt:=if 0<d then N.pt d 1 else N.pt (-d) (N.len (-d) - 1)
def Net.isDart (d:Int):Prop:=(d,0)∈N.E∨(-d,0)∈N.E
theorem Net.first {a:Int} {k:Nat} (h:(a,k)∈N.E):(a,0)∈N.E:=N.whole a k 0 h (by have:=(N.mem a k h).2; omega)
theorem Zg {o p q:Pt} (h1:lss o p q=true) (h2:lss o q p=true):False:=by
 unfold lss at h1 h2
 cases ha:lwr o p <;> cases hb:lwr o q <;> rw [ha,hb] at h1 <;> rw [ha,hb] at h2 <;> simp at h1 h2
 all_goals
  have:tw o q p=- tw o p q:=by unfold tw; grind
  omega
structure Net.Turns (nx:Int->Int):Prop where
 around:∀ d,N.isDart d->∃ l:List Int,(∀ e,e∈l↔N.isDart e/\N.sp e=N.sp d)/\(l.Pairwise fun a b=>lss (N.sp d) (N.sc a) (N.sc b)=true)/\∀ x y,Adj l x y->nx (-y)=x
variable {PI:Int} (hPI:0<PI) (hd:∀ i,((N.drawn.B i).h - (N.drawn.A i).h) ∣ PI)
theorem Net.cyc {nx:Int->Int} (hT:N.Turns nx) {c:Int->Bool} (hc:∀ d,N.isDart d->c (nx d)=c d):(N.drawn.rowed hPI hd).strips.Cyc fun x=>c (N.dart x):=by
 refine cyc_of fun m x y hxy=>?_
 have fro:∀ z,z∈(N.drawn.rowed hPI hd).strips.ring m↔N.drawn.fro z=N.drawn.fro y:=fun z=>by
  have hy:=(N.drawn.mem_ring hPI hd).1 hxy.mem.2
  rw [N.drawn.mem_ring hPI hd]
  exact ⟨fun h=>zbj (N.drawn.near_fro z).1 (N.drawn.near_fro y).1 (h.trans hy.symm),fun h=>by rw [h]; exact hy⟩
 have hnd:((N.drawn.rowed hPI hd).strips.ring m).Nodup:=(N.drawn.ring_pair hPI hd (m:=m)).imp fun {a b} h hab=>by
  subst hab
  rcases h with h | h
  ·omega
  ·rw [h.1] at h; exact absurd h.2 (by decide)
 have hin:∀ z:Dt (Ix N.E.length),(N.E[z.s].1,0)∈N.E:=fun z=>N.first (N.get_mem z.s)
 by_cases hv:∃ a k,(a,0)∈N.E/\0<k/\k<N.len a/\N.pt a k=N.drawn.fro y
 ·obtain ⟨a,k,h1,h2,h3,h4⟩:=hv
  have key:∀ z,z∈(N.drawn.rowed hPI hd).strips.ring m->(N.fwd z=true/\N.E[z.s]=(a,k))∨(N.fwd z=false/\N.E[z.s]=(a,k - 1)):=fun z hz=>by
   have e:=((fro z).1 hz).trans h4.symm
   have hm:=N.mem _ _ (N.get_mem z.s)
   cases hf:N.fwd z
   ·rw [(N.fro_bwd hf).1] at e
    obtain ⟨g1,g2⟩:=N.via a k _ _ h1 (hin z) h2 h3 (by omega) e
    exact .inr ⟨rfl,Prod.ext g1 (by simp only; omega)⟩
   ·rw [(N.fro_fwd hf).1] at e
    obtain ⟨g1,g2⟩:=N.via a k _ _ h1 (hin z) h2 h3 (by omega) e
    exact .inl ⟨rfl,Prod.ext g1 g2⟩
  have both:∀ b,∃ z∈(N.drawn.rowed hPI hd).strips.ring m,N.fwd z=b:=fun b=>by
   cases b
   ·obtain ⟨z,g1,g2⟩:=N.ex (N.whole a 0 (k - 1) h1 (by omega)) false
    refine ⟨z,(fro z).2 ?_,g2⟩
    rw [(N.fro_bwd g2).1,g1,← h4]
    simp only
    rw [show k - 1+1=k by omega]
   ·obtain ⟨z,g1,g2⟩:=N.ex (N.whole a 0 k h1 h3) true
    exact ⟨z,(fro z).2 (by rw [(N.fro_fwd g2).1,g1,← h4]),g2⟩
  have hne:N.fwd x≠N.fwd y:=fun h=>by
   have hxy2:x=y:=N.same (by
    rcases key x hxy.mem.1 with ⟨a1,a2⟩ | ⟨a1,a2⟩ <;> rcases key y hxy.mem.2 with ⟨b1,b2⟩ | ⟨b1,b2⟩
    ·rw [a2,b2]
    ·rw [a1,b1] at h; cases h
    ·rw [a1,b1] at h; cases h
    ·rw [a2,b2]) h
   subst hxy2
   obtain ⟨z,hz,hb⟩:=both (!N.fwd x)
   rw [hxy.ne hnd hz] at hb
   cases hq:N.fwd x <;> rw [hq] at hb <;> cases hb
  show c (N.dart y.rev)=c (N.dart x)
  congr 1
  rw [N.dart_rev]
  unfold Net.dart
  have ex:N.E[x.s].1=a:=by rcases key x hxy.mem.1 with ⟨_,h⟩ | ⟨_,h⟩ <;> rw [h]
  have ey:N.E[y.s].1=a:=by rcases key y hxy.mem.2 with ⟨_,h⟩ | ⟨_,h⟩ <;> rw [h]
  rw [ex,ey]
  cases hx:N.fwd x <;> cases hy:N.fwd y <;> rw [hx,hy] at hne <;> simp at hne ⊢
 ·-- where darts begin
  have key:∀ z,z∈(N.drawn.rowed hPI hd).strips.ring m->N.isDart (N.dart z)/\N.sp (N.dart z)=N.drawn.fro y/\N.sc (N.dart z)=N.drawn.to z:=fun z hz=>by
   have e:=(fro z).1 hz
   have hm:=N.mem _ _ (N.get_mem z.s)
   unfold Net.isDart Net.sp Net.sc Net.dart
   cases hf:N.fwd z
   ·obtain ⟨e1,e2⟩:=N.fro_bwd hf
    rw [e1] at e
    have hk:N.E[z.s].2+1=N.len N.E[z.s].1:=by
     by_cases hk:N.E[z.s].2+1<N.len N.E[z.s].1
     ·exact absurd ⟨_,_,hin z,by omega,hk,e⟩ hv
     ·omega
    simp only [zgk,if_false,ziv]
    rw [if_neg (by omega),if_neg (by omega),← hk,e2]
    exact ⟨.inr (hin z),e,by simp⟩
   ·obtain ⟨e1,e2⟩:=N.fro_fwd hf
    rw [e1] at e
    have hk:N.E[z.s].2=0:=by
     by_cases hk:0<N.E[z.s].2
     ·exact absurd ⟨_,_,hin z,hk,hm.2,e⟩ hv
     ·omega
    simp only [if_true]
    rw [if_pos (by omega),if_pos (by omega),e2,hk]
    rw [hk] at e
    exact ⟨.inl (hin z),e,rfl⟩
  obtain ⟨hy1,hy2,_⟩:=key y hxy.mem.2
  obtain ⟨l,l1,l2,l3⟩:=hT.around _ hy1
  rw [hy2] at l1 l2
  obtain ⟨R1,R2,hR,hless⟩:=N.drawn.ring_less hPI hd (o:=N.drawn.fro y) (m:=m) (N.drawn.near_fro y).1 ((N.drawn.mem_ring hPI hd).1 hxy.mem.2)
  have hsub:∀ z,z∈R2++R1↔z∈(N.drawn.rowed hPI hd).strips.ring m:=fun z=>by
   rw [hR,zhf,zhf]
   exact Or.comm
  have hL:((R2++R1).map N.dart).Pairwise fun a b=>lss (N.drawn.fro y) (N.sc a) (N.sc b)=true:=by
   rw [zhk]
   refine hless.imp_of_mem fun {a b} ha hb h=>?_
   rw [(key a ((hsub a).1 ha)).2.2,(key b ((hsub b).1 hb)).2.2]
   exact h
  have nd:∀ {l:List Int},(l.Pairwise fun a b=>lss (N.drawn.fro y) (N.sc a) (N.sc b)=true)->l.Nodup:=fun h=>h.imp fun {a b} hab e=>by
   subst e
   exact Zg hab hab
  have heq:(R2++R1).map N.dart=l:=by
   refine List.Perm.eq_of_pairwise (fun a b _ _ h1 h2=>(Zg h1 h2).elim) hL l2 ((List.perm_ext_iff_of_nodup (nd hL) (nd l2)).2 fun e=>?_)
   rw [l1,zgx]
   constructor
   ·rintro ⟨z,hz,rfl⟩
    obtain ⟨g1,g2,_⟩:=key z ((hsub z).1 hz)
    exact ⟨g1,g2⟩
   ·rintro ⟨g1,g2⟩
    have hx:∃ z,N.drawn.fro z=N.drawn.fro y/\N.dart z=e:=by
     rcases g1 with g1 | g1
     ·obtain ⟨z,z1,z2⟩:=N.ex g1 true
      have hp:=(N.mem _ _ g1).1
      refine ⟨z,?_,?_⟩
      ·rw [(N.fro_fwd z2).1,z1,← g2]
       unfold Net.sp
       rw [if_pos hp]
      ·unfold Net.dart
       rw [z2,z1]
       rfl
     ·have hp:=N.mem _ _ g1
      obtain ⟨z,z1,z2⟩:=N.ex (N.whole _ _ (N.len (-e) - 1) g1 (by omega)) false
      refine ⟨z,?_,?_⟩
      ·rw [(N.fro_bwd z2).1,z1,← g2]
       unfold Net.sp
       rw [if_neg (by omega)]
       simp only
       rw [show N.len (-e) - 1+1=N.len (-e) by omega]
      ·unfold Net.dart
       rw [z2,z1]
       simp
    obtain ⟨z,z1,z2⟩:=hx
    exact ⟨z,(hsub z).2 ((fro z).2 z1),z2⟩
  have hadj:Adj l (N.dart x) (N.dart y):=by
   rw [← heq]
   refine Adj.map _ (Adj.rot ?_)
   rw [← hR]
   exact hxy
  show c (N.dart y.rev)=c (N.dart x)
  rw [N.dart_rev,← l3 _ _ hadj]
  refine (hc _ ?_).symm
  unfold Net.isDart at hy1 ⊢
  rw [ziv]
  exact hy1.symm
end
end
end Go.Proofs.YtdacpmgnhkmnkaaGreatDoor
end
section
namespace Go.Proofs.YtdacpmgnhkmnkaaGreatDoor
open Go Go.RowKit
section
theorem zG {p:Pt} (h:p.near):nearP p=true:=by
 obtain ⟨h1,h2,h3,h4⟩:=h
 unfold nearP
 rw [decide_eq_false (by omega),decide_eq_false (by omega),decide_eq_false (by omega),decide_eq_false (by omega)]
 rfl
theorem Yb {p:Pt} (h:nearP p=true):p.near:=by
 unfold nearP at h
 simp only [zhs,zhz,decide_eq_false_iff_not] at h
 obtain ⟨⟨⟨h1,h2⟩,h3⟩,h4⟩:=h
 exact ⟨by omega,by omega,by omega,by omega⟩
def qd (a b:Int):Int:=bif decide (0<a)&&decide (0<=b) then 0 else bif decide (a<=0)&&decide (0<b) then 1 else bif decide (a<0) then 2 else 3
theorem quart_qd {o p:Pt} (ho:o.near) (hp:p.near):quartI o p=qd (p.x - o.x) (p.y - o.y):=by
 obtain ⟨h1,h2,h3,h4⟩:=ho
 obtain ⟨g1,g2,g3,g4⟩:=hp
 have e1:wrapI .i64 (p.x - o.x)=p.x - o.x:=zX rfl (by omega) (by omega)
 have e2:wrapI .i64 (p.y - o.y)=p.y - o.y:=zX rfl (by omega) (by omega)
 unfold quartI qd
 rw [e1,e2]
theorem ZK {a b k:Int} (h1:-k<=a) (h2:a<=k) (h3:-k<=b) (h4:b<=k):-(k*k)<=a*b/\a*b<=k*k:=by
 have hk:0<=k:=by omega
 have e1:(k - a)*(k+b)=k*k+k*b - a*k - a*b:=by grind
 have e2:(k+a)*(k - b)=k*k - k*b+a*k - a*b:=by grind
 have e3:(k - a)*(k - b)=k*k - k*b - a*k+a*b:=by grind
 have e4:(k+a)*(k+b)=k*k+k*b+a*k+a*b:=by grind
 have p1:=Int.mul_nonneg (show 0<=k - a by omega) (show 0<=k+b by omega)
 have p2:=Int.mul_nonneg (show 0<=k+a by omega) (show 0<=k - b by omega)
 have p3:=Int.mul_nonneg (show 0<=k - a by omega) (show 0<=k - b by omega)
 have p4:=Int.mul_nonneg (show 0<=k+a by omega) (show 0<=k+b by omega)
 omega
theorem cr_tw {o p q:Pt} (ho:o.near) (hp:p.near) (hq:q.near):crR o p o q=tw o p q:=by
 obtain ⟨h1,h2,h3,h4⟩:=ho
 obtain ⟨g1,g2,g3,g4⟩:=hp
 obtain ⟨f1,f2,f3,f4⟩:=hq
 have e1:wrapI .i64 (p.x - o.x)=p.x - o.x:=zX rfl (by omega) (by omega)
 have e2:wrapI .i64 (p.y - o.y)=p.y - o.y:=zX rfl (by omega) (by omega)
 have e3:wrapI .i64 (q.x - o.x)=q.x - o.x:=zX rfl (by omega) (by omega)
 have e4:wrapI .i64 (q.y - o.y)=q.y - o.y:=zX rfl (by omega) (by omega)
 unfold crR tw
 rw [e1,e2,e3,e4]
 obtain ⟨m1,m2⟩:=ZK (a:=p.x - o.x) (b:=q.y - o.y) (k:=4194304) (by omega) (by omega) (by omega) (by omega)
 obtain ⟨m3,m4⟩:=ZK (a:=p.y - o.y) (b:=q.x - o.x) (k:=4194304) (by omega) (by omega) (by omega) (by omega)
 generalize (p.x - o.x)*(q.y - o.y)=u at m1 m2 ⊢
 generalize (p.y - o.y)*(q.x - o.x)=v at m3 m4 ⊢
 have e5:wrapI .i64 u=u:=zX rfl (by omega) (by omega)
 have e6:wrapI .i64 v=v:=zX rfl (by omega) (by omega)
 rw [e5,e6]
 exact zX rfl (by omega) (by omega)
def lw2 (a b:Int):Bool:=decide (b<0)||(decide (b=0)&&decide (a<0))
theorem zdn {a b:Int}:lw2 a b=true↔b<0∨(b=0/\a<0):=by simp [lw2]
theorem lw2_no {a b:Int} (h:¬ (b<0∨(b=0/\a<0))):lw2 a b=false:=Bool.eq_false_iff.2 fun e=>h (zdn.1 e)
theorem qd_cases {a b:Int} (h:a≠0∨b≠0):(qd a b=0/\lw2 a b=false/\0<a/\0<=b)∨(qd a b=1/\lw2 a b=false/\a<=0/\0<b)∨(qd a b=2/\lw2 a b=true/\a<0/\b<=0)∨(qd a b=3/\lw2 a b=true/\0<=a/\b<0):=by
 unfold qd
 by_cases h1:0<a/\0<=b
 ·left
  rw [decide_eq_true h1.1,decide_eq_true h1.2]
  exact ⟨rfl,lw2_no (by omega),h1⟩
 ·have e1:(decide (0<a)&&decide (0<=b))=false:=by
   rw [Bool.and_eq_false_iff,decide_eq_false_iff_not,decide_eq_false_iff_not]
   omega
  rw [e1,cond_false]
  right
  by_cases h2:a<=0/\0<b
  ·left
   rw [decide_eq_true h2.1,decide_eq_true h2.2]
   exact ⟨rfl,lw2_no (by omega),h2⟩
  ·have e2:(decide (a<=0)&&decide (0<b))=false:=by
    rw [Bool.and_eq_false_iff,decide_eq_false_iff_not,decide_eq_false_iff_not]
    omega
   rw [e2,cond_false]
   right
   by_cases h3:a<0
   ·left
    rw [decide_eq_true h3]
    exact ⟨rfl,zdn.2 (by omega),h3,by omega⟩
   ·right
    rw [decide_eq_false h3]
    exact ⟨rfl,zdn.2 (by omega),by omega,by omega⟩
theorem less_lss {o p q:Pt} (ho:o.near) (hp:p.near) (hq:q.near) (hpo:p≠o) (hqo:q≠o):lessR o p q=lss o p q:=by
 have n1:ptE p o=false:=Bool.eq_false_iff.2 fun h=>hpo (ptE_eq.1 h)
 have n2:ptE q o=false:=Bool.eq_false_iff.2 fun h=>hqo (ptE_eq.1 h)
 have hall:[o,p,q].all nearP=true:=by
  rw [zhr,zhr,zhr,zG ho,zG hp,zG hq]
  rfl
 unfold lessR lss
 rw [hall,n1,n2,quart_qd ho hp,quart_qd ho hq,cr_tw ho hp hq]
 have hp2:p.x - o.x≠0∨p.y - o.y≠0:=by
  refine Decidable.byContradiction fun h=>hpo ?_
  cases p; cases o
  simp only [Pt.mk.injEq] at *
  omega
 have hq2:q.x - o.x≠0∨q.y - o.y≠0:=by
  refine Decidable.byContradiction fun h=>hqo ?_
  cases q; cases o
  simp only [Pt.mk.injEq] at *
  omega
 unfold tw
 have lw:∀ r:Pt,lwr o r=lw2 (r.x - o.x) (r.y - o.y):=fun r=>by
  rw [zhi,Ya,zdn]
  omega
 rw [lw p,lw q]
 generalize p.x - o.x=a at *
 generalize p.y - o.y=b at *
 generalize q.x - o.x=c at *
 generalize q.y - o.y=d at *
 clear hall n1 n2 lw ho hp hq hpo hqo
 have pos:∀ x y z w:Int,0<x*y->z*w<=0->decide (0<x*y - z*w)=true:=fun x y z w h1 h2=>decide_eq_true (by omega)
 have neg:∀ x y z w:Int,x*y<=0->0<z*w->decide (0<x*y - z*w)=false:=fun x y z w h1 h2=>decide_eq_false (by omega)
 rcases qd_cases hp2 with ⟨k1,l1,a1,a2⟩ | ⟨k1,l1,a1,a2⟩ | ⟨k1,l1,a1,a2⟩ | ⟨k1,l1,a1,a2⟩ <;> rcases qd_cases hq2 with ⟨k2,l2,c1,c2⟩ | ⟨k2,l2,c1,c2⟩ | ⟨k2,l2,c1,c2⟩ | ⟨k2,l2,c1,c2⟩ <;> rw [k1,k2,l1,l2]
 ·simp
 ·rw [pos _ _ _ _ (Int.mul_pos a1 c2) (Zt.2.1 a2 c1)]; rfl
 ·simp
 ·simp
 ·rw [neg _ _ _ _ (Zt.2.2.1 a1 c2) (Int.mul_pos a2 c1)]; rfl
 ·simp
 ·simp
 ·simp
 ·simp
 ·simp
 ·simp
 ·rw [pos _ _ _ _ (Int.mul_pos_of_neg_of_neg a1 c2) (Zt.2.2.1 a2 c1)]; rfl
 ·simp
 ·simp
 ·rw [neg _ _ _ _ (Zt.2.1 a1 c2) (Int.mul_pos_of_neg_of_neg a2 c1)]; rfl
 ·simp
end
section
structure Rg where
 a:Ac
 (k n:Nat)
 (A B:Pt)
def Rg.sp (s:Rg):Sp:=⟨s.a.id,s.a.fr,s.a.to,s.k,s.n,s.A,s.B⟩
noncomputable def Sp.meetR (s t:Sp):Int:=Go.Proofs.YtdacpmgnhkmnkaaGreatDoor.meetR s.A s.B t.A t.B
noncomputable def apartB (s t:Sp):Bool:=bif (t.k:Int)==((s.k+1:Nat):Int) then s.meetR t==1 else bif (s.k:Int)==0&&((t.k:Int)==((t.n - 1:Nat):Int)&&s.fr==s.to) then s.meetR t==1 else s.meetR t==0
def endS (s:Sp) (id:Int):Bool:=s.fr==id||s.to==id
noncomputable def joinNd (s t:Sp) (x:Nd):Bool:=endS s x.id&&(endS t x.id&&(onR s.A s.B x.at'&&onR t.A t.B x.at'))
noncomputable def joinedB (ns:List Nd) (s t:Sp):Bool:=bif s.meetR t==1 then ns.any (joinNd s t) else s.meetR t==0
def isEnd (s:Sp) (x:Nd):Bool:=((s.k:Int)==0&&s.fr==x.id)||((s.k:Int)==((s.n - 1:Nat):Int)&&s.to==x.id)
noncomputable def aloneNd (s:Sp) (x:Nd):Bool:=!isEnd s x&&onR s.A s.B x.at'
noncomputable def aloneB (ns:List Nd) (s:Sp):Bool:=!ns.any (aloneNd s)&&(!ptE s.A s.B&&(s.fr != s.to||decide ((3:Int)<=(s.n:Int))))
end
section
def lineR (p:Pn) (a:Ac):List Pt:=(nodeD p a.fr).at'::(a.via.l++[(nodeD p a.to).at'])
def rgsOf (a:Ac) (l:List Pt):List Rg:=(List.range (l.length - 1)).map fun k=>⟨a,k,l.length - 1,l.getD k zPt,l.getD (k+1) zPt⟩
def rgsL (p:Pn):List Rg:=p.az.l.flatMap fun a=>rgsOf a (lineR p a)
end
section
def kindZ (f:Ft):Int:=bif shapeI f.kind==3 then f.kind else 0
def keysF (f:Ft):List (Int × Int):=bif shapeI f.kind==2 then [] else f.parts.l.map fun x=>(kindZ f,x)
def partOk (p:Pn) (f:Ft) (x:Int):Bool:=bif shapeI f.kind==1 then (nodeF p x).isSome else bif shapeI f.kind==2 then (arcF p x).isSome else bif shapeI f.kind==3 then p.fs.l.contains x else false
def bad1 (f:Ft):Bool:=decide ((64:Int)<(f.parts.l.length:Int))
def bad3 (f:Ft):Bool:=decide (f.id<1)||(decide (1073741824<f.id)||(decide (f.cls<1)||decide (9<f.cls)))
def bad4 (f:Ft):Bool:=shapeI f.kind==0
def bad5 (nm:ByteArray->Int) (f:Ft):Bool:=!(f.name.1.toList==(bs []).toList)&&(nm f.name.1 != 0)
def bad6 (f:Ft):Bool:=(f.parts.l.length:Int)==0||(shapeI f.kind==1&&decide ((1:Int)<(f.parts.l.length:Int)))
def bad7 (p:Pn) (f:Ft):Bool:=f.parts.l.any fun x=>!partOk p f x
def disB (fs:List Ft):Bool:=!ascL (fs.map Ft.id)||fs.any fun f=>!ascL f.parts.l
def dupB (fs:List Ft):Bool:=!decide (fs.flatMap keysF).Nodup
def ruleE (nm:ByteArray->Int) (p:Pn) (fs:List Ft):Int:=bif decide ((128:Int)<(fs.length:Int)) then 3 else bif fs.any bad1 then 3 else bif disB fs then 10 else bif fs.any bad3 then 2 else bif fs.any bad4 then 9 else bif fs.any (bad5 nm) then 14 else bif fs.any bad6 then 1 else bif fs.any (bad7 p) then 7 else bif dupB fs then 13 else 0
structure FtOK (nm:ByteArray->Int) (p:Pn) (f:Ft):Prop where
 few:f.parts.l.length<=64
 asc:ascL f.parts.l=true
 ids:1<=f.id/\f.id<=1073741824/\1<=f.cls/\f.cls<=9
 shape:shapeI f.kind≠0
 name:bad5 nm f=false
 some:f.parts.l≠[]
 one:shapeI f.kind=1->f.parts.l.length<=1
 part:∀ x∈f.parts.l,partOk p f x=true
structure FtsOK (nm:ByteArray->Int) (p:Pn) (fs:List Ft):Prop where
 few:fs.length<=128
 each:∀ f∈fs,FtOK nm p f
 asc:ascL (fs.map Ft.id)=true
 keys:(fs.flatMap keysF).Nodup
theorem yQ {b:Bool} {e r:Int} (he:e≠0):(bif b then e else r)=0↔b=false/\r=0:=by
 cases b <;> simp [he]
theorem ruleE_zero {nm:ByteArray->Int} {p:Pn} {fs:List Ft}:ruleE nm p fs=0↔FtsOK nm p fs:=by
 unfold ruleE
 rw [yQ (by decide),yQ (by decide),yQ (by decide),yQ (by decide),yQ (by decide),yQ (by decide),yQ (by decide),yQ (by decide),yQ (by decide)]
 simp only [decide_eq_false_iff_not,zhv,disB,zhz,Bool.not_eq_false',dupB,and_true,decide_eq_true_eq]
 constructor
 ·rintro ⟨h0,h1,⟨h2,h2'⟩,h3,h4,h5,h6,h7,h8⟩
  refine ⟨by omega,fun f hf=>?_,h2,h8⟩
  have g1:=h1 f hf
  have g2:=h2' f hf
  have g3:=h3 f hf
  have g4:=h4 f hf
  have g5:=h5 f hf
  have g6:=h6 f hf
  have g7:=h7 f hf
  simp only [bad1,decide_eq_true_eq,bad3,zha,bad4,beq_iff_eq,bad6,zf6,bad7,zh5,not_exists,not_and,zhs,Bool.not_eq_false] at g1 g2 g3 g4 g6 g7
  refine ⟨by omega,by simpa using g2,by omega,g4,by simpa using g5,fun h=>g6 (.inl (by rw [h]; rfl)),fun h=>?_,fun x hx=>by simpa using g7 x hx⟩
  have:=fun hh=>g6 (.inr ⟨h,hh⟩)
  omega
 ·rintro ⟨h0,h1,h2,h3⟩
  refine ⟨by omega,fun f hf=>?_,⟨h2,fun f hf=>?_⟩,fun f hf=>?_,fun f hf=>?_,fun f hf=>?_,fun f hf=>?_,fun f hf=>?_,h3⟩
  ·have:=(h1 f hf).few
   simp only [bad1,decide_eq_true_eq]
   omega
  ·simp [(h1 f hf).asc]
  ·have:=(h1 f hf).ids
   simp only [bad3,decide_eq_true_eq,zha]
   omega
  ·simp [bad4,(h1 f hf).shape]
  ·simp [(h1 f hf).name]
  ·have a:=(h1 f hf).some
   have b:=(h1 f hf).one
   simp only [bad6,zha,beq_iff_eq,zf6,decide_eq_true_eq,Int.natCast_eq_zero,zhd]
   rintro (h | ⟨h,h'⟩)
   ·exact a h
   ·have:=b h
    omega
  ·have a:=(h1 f hf).part
   simp only [bad7,zh5,not_exists,not_and,zhs,Bool.not_eq_false]
   exact a
theorem yF:∀ {l:List Int},ascL l=true↔l.Pairwise (·<·)
 | []=>by simp [ascL]
 | [a]=>by simp [ascL]
 | a::b::t=>by
  have ih:=yF (l:=b::t)
  rw [ascL,zf6,decide_eq_true_eq,ih,zib (a:=a)]
  constructor
  ·rintro ⟨h1,h2⟩
   refine ⟨fun x hx=>?_,h2⟩
   rcases zgf.1 hx with rfl | hx
   ·exact h1
   ·exact Int.lt_trans h1 ((zib.1 h2).1 x hx)
  ·rintro ⟨h1,h2⟩
   exact ⟨h1 b (zgi ..),h2⟩
end
section
section
variable {S:ySM}
def anyTo (qb:Nat->Bool) (n:Nat):Bool:=(List.range n).any qb
theorem zaa {qb:Nat->Bool} {n:Nat}:anyTo qb (n+1)=(anyTo qb n||qb n):=by simp [anyTo,List.range_succ]
theorem anyTo_hit {qb:Nat->Bool} {n i:Nat} (h:i<n) (hq:qb i=true):anyTo qb n=true:=by
 unfold anyTo
 rw [zh5]
 exact ⟨i,zht.2 h,hq⟩
theorem anyTo_list {α:Type} {q:α->Bool} {qb:Nat->Bool} {l:List α} (h:∀ i x,l[i]?=some x->qb i=q x):anyTo qb l.length=l.any q:=by
 rw [zhi]
 simp only [anyTo,zh5,zht]
 constructor
 ·rintro ⟨i,hi,hq⟩
  exact ⟨l[i],zgt hi,by rw [← h i _ (zf0 hi)]; exact hq⟩
 ·rintro ⟨x,hx,hq⟩
  obtain ⟨i,hi,rfl⟩:=List.mem_iff_getElem.1 hx
  exact ⟨i,hi,by rw [h i _ (zf0 hi)]; exact hq⟩
theorem idxF_run (hS:NoS S) {m D:Nat} {out:yLM} (l:SlOf 5 Ft.c) (qb:Nat->Bool) (gf:FuncId) (caps:List IV) (Inv:Nat->List IObj->Prop) (hmore:∀ k J R,Inv k J->Inv k (J++R)) (hm:l.l.length+10<=m)
  (hc:∀ k x J,l.l[k]?=some x->anyTo qb k=false->Inv k J->∃ e J',(∀ id,callN Ftab S m D out J J id gf (.agg x.c::caps)=some (e,.bool (qb k),J'))/\Inv (k+1) J') (own:yLO) (h0:Inv 0 own) :
  ∃ (r:Int) (own':yLO),(∀ ownV id,callN Ftab S (m+1) D out ownV own id 56 [l.v,.fn gf [] caps]=some (.x,.int .i64 r,own'))/\decide (0<=r)=anyTo qb l.l.length/\∃ k,k<=l.l.length/\Inv k own':=by
 have main:∃ v own',(∀ id,callN Ftab S (m+1) D out [] own id 56 [l.v,.fn gf [] caps]=some (.x,v,own'))/\(∃ r:Int,v=.int .i64 r/\decide (0<=r)=anyTo qb l.l.length/\∃ k,k<=l.l.length/\Inv k own'):=by
  refine yL (i:=i56) (ns hS (by rfl)) rfl rfl (lb rfl) fun t hfr=>?_
  simp only [V2,Xb,i56] at hfr
  have hlf:=l.few
  simp only [i56,V0,sevalprocAttr,hfr]
  refine zd (fun jj st=>∃ (i:Nat) (O:yLO),l.l.length - i<=jj/\i<=l.l.length/\anyTo qb i=false/\Inv i O/\st.own=O/\Slots 19 st.t [(0,l.v),(1,.fn gf [] caps),(7,iv (l.l.length:Nat)),(8,iv i)]) l.l.length (by omega) ⟨0,own,by omega,by omega,rfl,h0,rfl,by simp only [V0,sevalprocAttr,hfr,zg4]⟩ ?_
  clear hfr
  rintro jj ⟨t,own⟩ K ⟨i,O,hjj,hi,ha,hI,ho,hfr⟩ hn he hr
  dsimp only at ho hfr
  subst ho
  simp only [V3] at hfr
  by_cases h:i<l.l.length
  ·obtain ⟨x,hx⟩:=gx (l:=l.l) (i:=i) h
   have hrd:rdN (l.l.flatMap Ft.c) (i*5) 5=some [.int .i64 x.id,.int .i64 x.kind,.int .i64 x.cls,.str x.name.1,x.parts.v]:=(zb Ft.c_len 0 5 hx (by omega)).trans rfl
   have hw:wrapI .i64 ((i:Int)+1)=((i+1:Nat):Int):=we
   obtain ⟨e,J',cc,hI'⟩:=hc i x _ hx ha (hmore _ _ [.free] hI)
   simp only [Ft.c,zf] at cc
   cases hq:qb i
   ·simp only [V0,sevalprocAttr,hfr,h,za l h,hrd,cc,hq,hw]
    exact hn _ (l.l.length - (i+1)) (by omega) ⟨i+1,_,by omega,by omega,by rw [zaa,ha,hq]; rfl,hI',rfl,by simp only [V0,sevalprocAttr,hfr,cc,hq,hw]⟩
   ·simp only [V0,sevalprocAttr,hfr,h,za l h,hrd,cc,hq]
    refine hr _ ?_
    simp only [V0,sevalprocAttr,hfr,yw,zdc]
    exact ⟨_,rfl,_,rfl,by rw [anyTo_hit h hq]; simp,i+1,by omega,hI'⟩
  ·simp only [V0,sevalprocAttr,hfr,h]
   refine he _ _ ?_
   simp only [V0,sevalprocAttr,hfr,yw,zdc]
   obtain rfl:i=l.l.length:=by omega
   exact ⟨_,rfl,_,rfl,by rw [ha]; decide,l.l.length,by omega,hI⟩
 obtain ⟨v,own',h1,r,rfl,h2,h3⟩:=main
 exact ⟨r,own',fun ownV id=>(yE (ns hS (by rfl)) rfl rfl).trans (h1 0),h2,h3⟩
theorem zfi (hS:NoS S) {m D:Nat} {out:yLM} (l:SlOf 5 Ft.c) (qb:Nat->Bool) (gf:FuncId) (caps:List IV) (Inv:Nat->List IObj->Prop) (hmore:∀ k J R,Inv k J->Inv k (J++R)) (hm:l.l.length+10<=m)
  (hc:∀ k x J,l.l[k]?=some x->anyTo qb k=false->Inv k J->∃ e J',(∀ id,callN Ftab S m D out J J id gf (.agg x.c::caps)=some (e,.bool (qb k),J'))/\Inv (k+1) J') (own:yLO) (h0:Inv 0 own) :
  ∃ own':yLO,(∀ ownV id,callN Ftab S (m+2) D out ownV own id 31 [l.v,.fn gf [] caps]=some (.x,.bool (anyTo qb l.l.length),own'))/\∃ k,k<=l.l.length/\Inv k own':=by
 have main:∃ v own',(∀ id,callN Ftab S (m+1+1) D out [] own id 31 [l.v,.fn gf [] caps]=some (.x,v,own'))/\(v=.bool (anyTo qb l.l.length)/\∃ k,k<=l.l.length/\Inv k own'):=by
  refine yL (i:=i31) (ns hS (by rfl)) rfl rfl (lb rfl) fun t hfr=>?_
  simp only [V2,Xb,i31] at hfr
  obtain ⟨r,own',hcc,hr,hI⟩:=idxF_run hS l qb gf caps Inv hmore hm hc (own++[.free]) (hmore _ _ _ h0)
  simp only [i31,V0,sevalprocAttr,hfr,hcc,ge_iff_le,hr,yw,zdc]
  exact ⟨_,rfl,rfl,hI⟩
 obtain ⟨v,own',h1,rfl,h3⟩:=main
 exact ⟨own',fun ownV id=>(yE (ns hS (by rfl)) rfl rfl).trans (h1 0),h3⟩
theorem conF_pure (hS:NoS S) {m D:Nat} {out:yLM} (l:SlOf 5 Ft.c) (q:Ft->Bool) (gf:FuncId) (caps:List IV) (own:yLO) (hm:l.l.length+10<=m)
  (hc:∀ x∈l.l,∀ R id,callN Ftab S m D out (own++R) (own++R) id gf (.agg x.c::caps)=some (.r,.bool (q x),own++R)) :
  ∃ R:yLO,∀ ownV id,callN Ftab S (m+2) D out ownV own id 31 [l.v,.fn gf [] caps]=some (.x,.bool (l.l.any q),own++R):=by
 obtain ⟨own',h1,k,_,R,rfl⟩:=zfi (D:=D) (out:=out) hS l (fun k=>((l.l[k]?).map q).getD false) gf caps (fun _ J=>∃ R,J=own++R) (fun k J R ⟨R0,h⟩=>⟨R0++R,by rw [h,zgu]⟩) hm
  (fun k x J hx _ ⟨R,hJ⟩=>⟨.r,J,fun id=>by
   subst hJ
   rw [hc x (zgl hx) R id]
   simp only [hx,zf2,zh7],R,hJ⟩) own ⟨[],by simp⟩
 refine ⟨R,fun ownV id=>?_⟩
 rw [h1 ownV id,anyTo_list (q:=q) (l:=l.l) fun i x hx=>by simp only [hx,zf2,zh7]]
theorem Zu (hS:NoS S) (k:Int):GivesN S 2 11 [iv k] (.int .i64 (shapeI k)):=by
 refine zh (i:=i11) (ns hS (by rfl)) rfl rfl (lb rfl) 1 (by omega) zo fun m hm d out t hfr=>?_
 simp only [V2,Xb,i11,zf] at hfr
 unfold shapeI
 cases h1:k==1
 rotate_left
 ·simp only [i11,V0,sevalprocAttr,hfr,h1,zhu,cond_true]
 cases h2:k==2
 rotate_left
 ·simp only [i11,V0,sevalprocAttr,hfr,h1,h2,zhu,zhm,cond_true]
 cases h8:k==8
 rotate_left
 ·simp only [i11,V0,sevalprocAttr,hfr,h1,h2,h8,zhu,zhm,cond_true]
 cases h3:k==3
 rotate_left
 ·simp only [i11,V0,sevalprocAttr,hfr,h1,h2,h8,h3,zhu,zhm,cond_true,cond_false]
 cases h4:k==4
 rotate_left
 ·simp only [i11,V0,sevalprocAttr,hfr,h1,h2,h8,h3,h4,zhu,zhm,cond_true,cond_false]
 cases h5:k==5
 rotate_left
 ·simp only [i11,V0,sevalprocAttr,hfr,h1,h2,h8,h3,h4,h5,zhu,zhm,cond_true,cond_false]
 cases h6:k==6
 rotate_left
 ·simp only [i11,V0,sevalprocAttr,hfr,h1,h2,h8,h3,h4,h5,h6,zhu,zhm,cond_true,cond_false]
 cases h7:k==7
 ·simp only [i11,V0,sevalprocAttr,hfr,h1,h2,h8,h3,h4,h5,h6,h7,zhu,zhm,cond_true,cond_false]
 ·simp only [i11,V0,sevalprocAttr,hfr,h1,h2,h8,h3,h4,h5,h6,h7,zhu,zhm,cond_true,cond_false]
theorem at_r1 (hS:NoS S) (f:Ft):GivesN S 2 21 [.agg f.c] (.bool (bad1 f)):=by
 refine zh (i:=i21) (ns hS (by rfl)) rfl rfl (lb rfl) 1 (by omega) zn fun m hm d out t hfr=>?_
 simp only [V2,Xb,i21,Ft.c,zf] at hfr
 simp only [i21,V0,sevalprocAttr,hfr,bad1,gt_iff_lt]
theorem at_r3 (hS:NoS S) (f:Ft):GivesN S 2 23 [.agg f.c] (.bool (bad3 f)):=by
 refine zh (i:=i23) (ns hS (by rfl)) rfl rfl (lb rfl) 1 (by omega) zn fun m hm d out t hfr=>?_
 simp only [V2,Xb,i23,Ft.c,zf] at hfr
 unfold bad3
 cases h1:decide (f.id<1)
 ·cases h2:decide (1073741824<f.id)
  ·cases h3:decide (f.cls<1)
   ·simp only [i23,V0,sevalprocAttr,hfr,gt_iff_lt,h1,h2,h3,zhm]
   ·simp only [i23,V0,sevalprocAttr,hfr,gt_iff_lt,h1,h2,h3,zhm,zhu]
  ·simp only [i23,V0,sevalprocAttr,hfr,gt_iff_lt,h1,h2,zhm,zhu]
 ·simp only [i23,V0,sevalprocAttr,hfr,gt_iff_lt,h1,zhu]
theorem at_r4 (hS:NoS S) (f:Ft):GivesN S 4 24 [.agg f.c] (.bool (bad4 f)):=by
 refine zh (i:=i24) (ns hS (by rfl)) rfl rfl (lb rfl) 3 (by omega) zn fun m hm d out t hfr=>?_
 simp only [V2,Xb,i24,Ft.c,zf] at hfr
 have c0:=Zu hS f.kind m (by omega)
 simp only [zf] at c0
 simp only [i24,V0,sevalprocAttr,hfr,bad4,c0]
def NmOK (S:ySM) (nm:ByteArray->Int):Prop:=∀ s:{ s:ByteArray // s.size<=maxLen },GivesN S 20 26 [.str s.1] (.int .i64 (nm s.1))
theorem at_r5 (hS:NoS S) {nm:ByteArray->Int} (hN:NmOK S nm) (f:Ft):GivesN S 24 25 [.agg f.c] (.bool (bad5 nm f)):=by
 refine zh (i:=i25) (ns hS (by rfl)) rfl rfl (lb rfl) 23 (by omega) zn fun m hm d out t hfr=>?_
 simp only [V2,Xb,i25,Ft.c,zf] at hfr
 have c0:=hN f.name m (by omega)
 unfold bad5
 cases h1:f.name.1.toList==(bs []).toList
 ·simp only [i25,V0,sevalprocAttr,hfr,c0,h1,strBin,zhj,zgo]
 ·simp only [i25,V0,sevalprocAttr,hfr,c0,h1,strBin,zhj,zgo]
theorem at_r6 (hS:NoS S) (f:Ft):GivesN S 4 27 [.agg f.c] (.bool (bad6 f)):=by
 refine zh (i:=i27) (ns hS (by rfl)) rfl rfl (lb rfl) 3 (by omega) zn fun m hm d out t hfr=>?_
 simp only [V2,Xb,i27,Ft.c,zf] at hfr
 have c0:=Zu hS f.kind m (by omega)
 simp only [zf] at c0
 unfold bad6
 cases h1:(f.parts.l.length:Int)==0
 ·cases h2:shapeI f.kind==1
  ·simp only [i27,V0,sevalprocAttr,hfr,c0,h1,h2,gt_iff_lt,zhm,zgo]
  ·simp only [i27,V0,sevalprocAttr,hfr,c0,h1,h2,gt_iff_lt,zhm,zhj]
 ·simp only [i27,V0,sevalprocAttr,hfr,c0,h1,gt_iff_lt,zhu]
theorem at_valid (hS:NoS S) (l:SlOf 1 intc):GivesN S (l.l.length+4) 49 [l.v] (.bool (ascL l.l)):=by
 refine zh (i:=i49) (ns hS (by rfl)) rfl rfl (lb rfl) (l.l.length+3) (by omega) zn fun m hm d out t hfr=>?_
 simp only [V2,Xb,i49] at hfr
 have hlf:=l.few
 simp only [i49,V0,sevalprocAttr,hfr]
 refine zd (fun jj st=>∃ (i:Nat) (O:yLO),l.l.length - i<=jj/\(1<=i/\i<=l.l.length+1)/\ascTo l.l i/\st.own=O/\Slots 20 st.t [(0,l.v),(3,iv i)]) l.l.length (by omega) ⟨1,[],by omega,by omega,fun i x y h _ _=>by omega,rfl,by simp only [V0,sevalprocAttr,hfr,Int.natCast_one]⟩ ?_
 rintro jj ⟨t,own⟩ K ⟨i,O,hjj,hi,ha,ho,hfr⟩ hn he hr
 dsimp only at ho hfr
 subst ho
 simp only [V3] at hfr
 by_cases h:i<l.l.length
 ·obtain ⟨x,hx⟩:=gx (l:=l.l) (i:=i) h
  have h0:i - 1<l.l.length:=by omega
  obtain ⟨y,hy⟩:=gx (l:=l.l) (i:=i - 1) h0
  have hrx:rdN (l.l.flatMap intc) (i*1) 1=some [.int .i64 x]:=zb zk 0 1 hx (by omega)
  have hry:rdN (l.l.flatMap intc) ((i - 1)*1) 1=some [.int .i64 y]:=zb zk 0 1 hy (by omega)
  have hw:wrapI .i64 ((i:Int)+1)=((i+1:Nat):Int):=we
  have hv:wrapI .i64 ((i:Int) - 1)=((i - 1:Nat):Int):=we
  by_cases hb:x<=y
  ·simp only [V0,sevalprocAttr,hfr,h,za l h,za l h0,hrx,hry,hv,ge_iff_le,hb]
   refine ⟨by simp [comm],?_⟩
   simp only [V0,sevalprocAttr,hfr]
   refine hr _ ?_
   have hf:ascL l.l=false:=by
    rw [← zh8]
    intro hc
    have:=Zp.1 hc (i - 1) y x (by omega) hy (by rw [show i - 1+1=i by omega]; exact hx)
    omega
   simp only [V0,sevalprocAttr,hfr,hf]
  ·simp only [V0,sevalprocAttr,hfr,h,za l h,za l h0,hrx,hry,hv,ge_iff_le,hb]
   refine ⟨by simp [comm],?_⟩
   simp only [V0,sevalprocAttr,hfr,hw]
   refine hn _ (l.l.length - (i+1)) (by omega) ⟨i+1,_,by omega,by omega,?_,rfl,by simp only [V0,sevalprocAttr,hfr,hw]⟩
   intro j u v hj hu hv
   by_cases hj2:j+1<i
   ·exact ha j u v hj2 hu hv
   ·have e:j=i - 1:=by omega
    subst e
    rw [show i - 1+1=i by omega] at hv
    rw [hy] at hu
    rw [hx] at hv
    cases hu
    cases hv
    omega
 ·simp only [V0,sevalprocAttr,hfr,h]
  refine he _ _ ?_
  have hf:ascL l.l=true:=Zp.2 fun j u v hj hu hv=>ha j u v (by omega) hu hv
  simp only [V0,sevalprocAttr,hfr,hf]
end
end
section
section
variable {S:ySM}
theorem idxI_low (hS:NoS S) (l:SlOf 1 intc) (q:Int->Bool) (gf:FuncId) (caps:List IV) (Nc D:Nat) (B:yLO) (hc:∀ x∈l.l,∀ m,Nc<=m->∀ d out ownV own id,D<d->out D=B->callN Ftab S m d out ownV own id gf (iv x::caps)=some (.r,.bool (q x),own)) :
  ∀ m,Nc+l.l.length+4<=m->∀ d out ownV own id,D<d->out D=B->callN Ftab S m d out ownV own id 80 [l.v,.fn gf [] caps]=some (.r,.int .i64 (fIdx q l.l),own):=fun m hm d out ownV own id hd hB=>by
 refine ZT (i:=i80) (N:=Nc+l.l.length+3) (ns hS (by rfl)) rfl rfl (lb rfl) (by omega) (by omega) zo fun m hm t hfr=>?_
 have hB2:(fun a=>if a=d then ownV else out a:yLM) D=B:=by
  show (if D=d then ownV else out D)=B
  rw [if_neg (by omega),hB]
 generalize (fun a=>if a=d then ownV else out a:yLM)=out2 at hB2 ⊢
 simp only [V2,Xb,i80] at hfr
 simp only [i80,V0,sevalprocAttr,hfr]
 have hlf:=l.few
 refine zd (fun jj st=>∃ (i:Nat) (O:yLO),l.l.length - i<=jj/\i<=l.l.length/\(l.l.take i).findIdx? q=none/\st.own=O/\Slots 19 st.t [(0,l.v),(1,.fn gf [] caps),(7,iv (l.l.length:Nat)),(8,iv i)]) l.l.length (by omega) ⟨0,[],by omega,by omega,by simp,rfl,by simp only [V0,sevalprocAttr,hfr,zg4]⟩ ?_
 rintro jj ⟨t,own⟩ K ⟨i,O,hjj,hi,ha,ho,hfr⟩ hn he hr
 dsimp only at ho hfr
 subst ho
 simp only [V3] at hfr
 by_cases h:i<l.l.length
 ·have hx:l.l[i]?=some l.l[i]:=zf0 h
  have hmem:l.l[i]∈l.l:=zgt h
  generalize l.l[i]=x at hx hmem
  have hrd:rdN (l.l.flatMap intc) (i*1) 1=some [.int .i64 x]:=zb zk 0 1 hx (by omega)
  have hw:wrapI .i64 ((i:Int)+1)=((i+1:Nat):Int):=we
  have cc:=fun ownV own id=>hc x hmem m (by omega) (d+1) out2 ownV own id (by omega) hB2
  simp only [zf] at cc
  cases hq:q x
  ·simp only [V0,sevalprocAttr,hfr,h,za l h,hrd,cc,hq,hw]
   refine hn _ (l.l.length - (i+1)) (by omega) ⟨i+1,_,by omega,by omega,?_,rfl,by simp only [V0,sevalprocAttr,hfr,cc,hq,hw]⟩
   rw [zhb,hx,zhq,List.findIdx?_append,ha]
   simp [List.findIdx?_cons,hq]
  ·simp only [V0,sevalprocAttr,hfr,h,za l h,hrd,cc,hq]
   refine hr _ ?_
   simp only [V0,sevalprocAttr,hfr,zdj hx hq ha]
 ·simp only [V0,sevalprocAttr,hfr,h]
  refine he _ _ ?_
  have hall:fIdx q l.l=-1:=by
   rw [zgg (by omega)] at ha
   simp only [fIdx,ha]
  simp only [V0,sevalprocAttr,hfr,hall]
theorem conI_low (hS:NoS S) (l:SlOf 1 intc) (q:Int->Bool) (gf:FuncId) (caps:List IV) (Nc D:Nat) (B:yLO) (hc:∀ x∈l.l,∀ m,Nc<=m->∀ d out ownV own id,D<d->out D=B->callN Ftab S m d out ownV own id gf (iv x::caps)=some (.r,.bool (q x),own)) :
  ∀ m,Nc+l.l.length+6<=m->∀ out own id,callN Ftab S m D out B own id 51 [l.v,.fn gf [] caps]=some (.r,.bool (l.l.any q),own):=fun m hm out own id=>by
 refine ZT (i:=i51) (N:=Nc+l.l.length+5) (ns hS (by rfl)) rfl rfl (lb rfl) (by omega) (by omega) zn fun m hm t hfr=>?_
 have hB2:(fun a=>if a=D then B else out a:yLM) D=B:=if_pos rfl
 generalize (fun a=>if a=D then B else out a:yLM)=out2 at hB2 ⊢
 simp only [V2,Xb,i51] at hfr
 have cc:=fun ownV own id=>idxI_low hS l q gf caps Nc D B hc m (by omega) (D+1) out2 ownV own id (by omega) hB2
 have hz:decide (0<=fIdx q l.l)=l.l.any q:=za8
 simp only [i51,V0,sevalprocAttr,hfr,cc,ge_iff_le,hz]
theorem miss1_run (hS:NoS S) (p:Pn) (hv:FewVia p) (f:Ft) (x:Int):∃ N,∀ m,N<=m->∀ D d out ownV own id R,D<d->out D=.cells p.c::.cells f.c::R->callN Ftab S m d out ownV own id 52 [iv x,.ptrM D 1 0,.ptrM D 0 0]=some (.r,.bool (!partOk p f x),own):=by
 obtain ⟨N1,hN1⟩:=Z8 hS p x
 obtain ⟨q,hq,N2,hN2⟩:=zcb hS p x (fun a ha=>by have:=hv a ha; omega)
 obtain ⟨N3,hN3⟩:=Zm hS p.fs x
 obtain ⟨N4,hN4⟩:∃ N,GivesN S N 54 [p.fs.v,iv x] (.bool (p.fs.l.contains x)):=by
  refine ⟨N3+2,zh (i:=i54) (ns hS (by rfl)) rfl rfl (lb rfl) (N3+1) (by omega) zn fun m hm d out t hfr=>?_⟩
  simp only [V2,Xb,i54,zf] at hfr
  have c0:=hN3 m (by omega)
  simp only [zf] at c0
  simp only [i54,V0,sevalprocAttr,hfr,c0]
 refine ⟨N1+N2+N4+10,fun m hm D d out ownV own id R hd hB=>?_⟩
 refine ZT (i:=i52) (N:=N1+N2+N4+9) (ns hS (by rfl)) rfl rfl (lb rfl) (by omega) (by omega) zn fun m hm t hfr=>?_
 have hB2:(fun a=>if a=d then ownV else out a:yLM) D=.cells p.c::.cells f.c::R:=by
  show (if D=d then ownV else out D)=_
  rw [if_neg (by omega),hB]
 generalize (fun a=>if a=d then ownV else out a:yLM)=out2 at hB2 ⊢
 simp only [V2,Xb,i52,zf] at hfr
 simp only [Pn.c,Ft.c,zf] at hB2
 have hd1:(D=d+1)=False:=eq_false (by omega)
 have hd2:(D<d+1)=True:=eq_true (by omega)
 have c0:=Zu hS f.kind m (by omega)
 have c1:=hN1 m (by omega)
 have c2:=hN2 m (by omega)
 have c4:=hN4 m (by omega)
 simp only [Pn.c,zf] at c0 c1 c2 c4
 have e1:(p.ns.l.find? fun f=>f.id==x).isSome=(nodeF p x).isSome:=rfl
 have e2:(p.az.l.find? fun f=>f.id==x).isSome=(arcF p x).isSome:=rfl
 unfold partOk
 cases h1:shapeI f.kind==1
 rotate_left
 ·simp only [i52,V0,sevalprocAttr,hfr,hd1,hd2,hB2,c0,c1,h1,e1,cond_true]
 cases h2:shapeI f.kind==2
 rotate_left
 ·simp only [i52,V0,sevalprocAttr,hfr,hd1,hd2,hB2,c0,c2,h1,h2,e2,cond_true,cond_false]
 cases h3:shapeI f.kind==3
 ·simp only [i52,V0,sevalprocAttr,hfr,hd1,hd2,hB2,c0,c4,h1,h2,h3,cond_true,cond_false]
 ·simp only [i52,V0,sevalprocAttr,hfr,hd1,hd2,hB2,c0,c4,h1,h2,h3,cond_true,cond_false]
theorem at_miss (hS:NoS S) (p:Pn) (hv:FewVia p) (f:Ft):∃ N,GivesN S N 29 [.agg p.c,.agg f.c] (.bool (bad7 p f)):=by
 obtain ⟨N1,hN1⟩:=Yv f.parts.l (fun x _=>miss1_run hS p hv f x)
 refine ⟨N1+f.parts.l.length+10,zh (i:=i29) (ns hS (by rfl)) rfl rfl (lb rfl) (N1+f.parts.l.length+9) (by omega) zn fun m hm d out t hfr=>?_⟩
 simp only [V2,Xb,i29,Pn.c,Ft.c,zf] at hfr
 have c0:=fun own id=>conI_low hS f.parts (fun x=>!partOk p f x) 52 [.ptrM d 1 0,.ptrM d 0 0] N1 d [.cells p.c,.cells f.c,.free] (fun x hx m hm d' out ownV own id hd hB=>hN1 x hx m hm d d' out ownV own id [.free] hd hB) m (by omega) out own id
 have hb:(f.parts.l.any fun x=>!partOk p f x)=bad7 p f:=rfl
 simp only [Pn.c,Ft.c,zf,hb] at c0
 simp only [i29,V0,sevalprocAttr,hfr,c0]
theorem r7_run (hS:NoS S) (s:Sv) (hv:FewVia s.pl) (f:Ft):∃ N,∀ m,N<=m->∀ D out own id R,own=.cells s.c::R->callN Ftab S m D out own own id 28 [.agg f.c,.ptrM D 0 0]=some (.r,.bool (bad7 s.pl f),own):=by
 obtain ⟨N1,hN1⟩:=at_miss hS s.pl hv f
 refine ⟨N1+3,fun m hm D out own id R ho=>?_⟩
 refine ZT (i:=i28) (N:=N1+2) (ns hS (by rfl)) rfl rfl (lb rfl) (by omega) (by omega) zn fun m hm t hfr=>?_
 have hB2:(fun a=>if a=D then own else out a:yLM) D=.cells s.c::R:=(if_pos rfl).trans ho
 generalize (fun a=>if a=D then own else out a:yLM)=out2 at hB2 ⊢
 simp only [V2,Xb,i28,Ft.c,zf] at hfr
 simp only [Sv.c] at hB2
 have hd1:(D=D+1)=False:=eq_false (by omega)
 have hd2:(D<D+1)=True:=eq_true (by omega)
 have c0:=hN1 m (by omega)
 simp only [Pn.c,Ft.c,zf] at c0
 simp only [i28,V0,sevalprocAttr,hfr,hd1,hd2,hB2,c0]
end
end
section
def pairI (k:Int × Int):IV:=.agg [.int .i64 k.1,.int .i64 k.2]
def pKs (L:List (Int × Int)):List IV:=L.map pairI
def pVs (L:List (Int × Int)):List IV:=L.map fun _=>.bool true
theorem zfj (k:Int × Int):∀ (L:List (Int × Int)) (n:Nat),findIx (true,[1,1]) (pairI k) (pKs L) n=some ((L.findIdx? fun x=>k==x).map (n+·))
 | [],n=>rfl
 | x::L,n=>by
  have ih:=zfj k L (n+1)
  have e:eqk (true,[1,1]) (pairI k) (pairI x)=some (k==x):=by
   have:eqvs [1,1] [.int .i64 k.1,.int .i64 k.2] [.int .i64 x.1,.int .i64 x.2]=some (k==x):=by
    have hk:(k==x)=(k.1==x.1&&k.2==x.2):=rfl
    rw [hk]
    simp only [eqvs,eqv]
    cases h1:k.1==x.1 <;> cases h2:k.2==x.2 <;> simp [h1,h2]
   exact this
  show (match eqk (true,[1,1]) (pairI k) (pairI x) with | some true=>some (some n) | some false=>findIx (true,[1,1]) (pairI k) (pKs L) (n+1) | none=>none)=_
  rw [e]
  cases h:k==x
  ·simp only [ih,List.findIdx?_cons,h]
   cases L.findIdx? fun x=>k==x with
   | none=>rfl
   | some j=>simp; omega
  ·simp [List.findIdx?_cons,h]
theorem find_not {k:Int × Int} {L:List (Int × Int)} (h:L.contains k=false):(L.findIdx? fun x=>k==x)=none:=by
 rw [zij]
 intro x hx
 cases hb:k==x
 ·rfl
 ·obtain rfl:k=x:=by simpa using hb
  rw [zgh.2 hx] at h
  cases h
theorem find_yes {k:Int × Int} {L:List (Int × Int)} (h:L.contains k=true):∃ j,(L.findIdx? fun x=>k==x)=some j/\j<L.length:=by
 cases hf:L.findIdx? fun x=>k==x with
 | none =>
  rw [zij] at hf
  have:=hf k (zgh.1 h)
  simp at this
 | some j =>
  obtain ⟨hj,_⟩:=zh0.1 hf
  exact ⟨j,rfl,hj⟩
theorem ev_lookP {L:List (Int × Int)} {bs:List Nat} {ck:Nat} (k:Int × Int) {C:Call} {d n0 l j:Nat} {out:yLM} {ownV own:yLO} {t:List IV} {a b:Opd} (h1:ρ t a=.mapM l j) (h2:ρ t b=.agg [.int .i64 k.1,.int .i64 k.2]) (h3:look d out ownV l j=some (.map (pKs L) (pVs L) bs ck)):evOp C d out n0 ownV own t (.lookup (.bool false) (true,[1,1]) false a b)=some (.r,.bool (L.contains k),own):=by
 have h0:(kindB true (pairI k)&&(pairI k).cells.length==[1,1].length)=true:=rfl
 have h2:ρ t b=pairI k:=h2
 rw [Zf]
 simp only [e_lookup,h1,h2,h3,findK,h0,if_true,zfj]
 cases hc:L.contains k
 ·rw [find_not hc]
  rfl
 ·obtain ⟨j,hj,hl⟩:=find_yes hc
  rw [hj]
  simp [pVs,hl]
theorem upd_p {L:List (Int × Int)} {bs:List Nat} {ck:Nat} (k:Int × Int) (hL:L.contains k=false) (C:Call) (D:Nat) (out:yLM) (n0 j:Nat) (ownV own:yLO) (t:List IV) (a b c:Opd) (h1:ρ t a=.mapM D j) (h2:ρ t b=.agg [.int .i64 k.1,.int .i64 k.2]) (h3:ρ t c=.bool true) (h4:own[j]?=some (.map (pKs L) (pVs L) bs ck)) :
  evOp C D out n0 ownV own t (.mapupd (true,[1,1]) a b c)=some (.x,.tuple [],own.set j (.map (pKs (L++[k])) (pVs (L++[k])) (bs++[ck]) (ck+1))):=by
 have h0:(kindB true (pairI k)&&(pairI k).cells.length==[1,1].length)=true:=rfl
 have h2:ρ t b=pairI k:=h2
 rw [ZR]
 simp only [e_mapupd,h1,h2,h3,h4,h0,and_self,if_true,zfj,find_not hL,zg2,zc]
 simp [pKs,pVs]
def hitB:List (Int × Int)->List (Int × Int)->Bool
 | _,[]=>false
 | L,k::r=>L.contains k||hitB (L++[k]) r
theorem zfk:∀ {L r:List (Int × Int)},L.Nodup->hitB L r=!decide (L++r).Nodup
 | L,[],h=>by simp [hitB,h]
 | L,k::r,h=>by
  rw [hitB]
  cases hc:L.contains k
  ·have hk:k ∉ L:=fun hm=>by
    rw [zgh.2 hm] at hc
    cases hc
   have h2:(L++[k]).Nodup:=by
    rw [List.nodup_append]
    refine ⟨h,by simp,fun x hx y hy=>?_⟩
    rw [zhe] at hy
    subst hy
    intro e
    exact hk (e ▸ hx)
   rw [zfk h2,zhm,zgu]
   rfl
  ·have:¬ (L++k::r).Nodup:=fun hn=>by
    rw [List.nodup_append] at hn
    exact hn.2.2 k (zgh.1 hc) k (zgi ..) rfl
   simp [this]
def hitAt (fs:List Ft) (k:Nat):Bool:=((fs[k]?).map fun f=>hitB ((fs.take k).flatMap keysF) (keysF f)).getD false
theorem hitAt_to {fs:List Ft}:∀ {n:Nat},n<=fs.length->anyTo (hitAt fs) n=!decide ((fs.take n).flatMap keysF).Nodup
 | 0,_=>by simp [anyTo]
 | n+1,h=>by
  have ih:=hitAt_to (fs:=fs) (n:=n) (by omega)
  have hx:fs[n]?=some fs[n]:=zf0 h
  rw [zaa,ih,take_flat hx]
  have e:hitAt fs n=hitB ((fs.take n).flatMap keysF) (keysF fs[n]):=by simp [hitAt,hx]
  rw [e]
  by_cases hn:((fs.take n).flatMap keysF).Nodup
  ·rw [zfk hn]
   simp [hn]
  ·have:¬ ((fs.take n).flatMap keysF++keysF fs[n]).Nodup:=fun h2=>hn (List.nodup_append.1 h2).1
   simp [hn,this]
theorem hitAt_dup {fs:List Ft}:anyTo (hitAt fs) fs.length=dupB fs:=by
 rw [hitAt_to (zf7 _),List.take_length]
 rfl
def disAt (fs:List Ft) (k:Nat):Bool:=((fs[k]?).map fun x=>(decide (0<k)&&((fs[k - 1]?).map fun y=>decide (x.id<=y.id)).getD false)||!ascL x.parts.l).getD false
theorem disAt_dis {fs:List Ft}:anyTo (disAt fs) fs.length=disB fs:=by
 unfold disB
 rw [zhi]
 simp only [anyTo,zh5,zht,zha,zhs]
 constructor
 ·rintro ⟨k,hk,h⟩
  have hx:fs[k]?=some fs[k]:=zf0 hk
  simp only [disAt,hx,zf2,zh7,zha,zf6,decide_eq_true_eq,zhs] at h
  rcases h with ⟨h0,h⟩ | h
  ·left
   have hy:fs[k - 1]?=some fs[k - 1]:=zf0 (by omega)
   rw [hy] at h
   simp only [zf2,zh7,decide_eq_true_eq] at h
   rw [← zh8]
   intro ha
   have:=Zp.1 ha (k - 1) fs[k - 1].id fs[k].id (by rw [zgw]; omega) (by rw [zgd,hy]; rfl) (by rw [show k - 1+1=k by omega,zgd,hx]; rfl)
   omega
  ·exact .inr ⟨fs[k],zgt hk,h⟩
 ·rintro (h | ⟨f,hf,h⟩)
  ·rw [← zh8,Zp] at h
   unfold ascTo at h
   simp only [Classical.not_forall] at h
   obtain ⟨i,x,y,hi,hx,hy,hxy⟩:=h
   rw [zgw] at hi
   rw [zgd] at hx hy
   have hx1:fs[i]?=some fs[i]:=zf0 (by omega)
   have hy1:fs[i+1]?=some fs[i+1]:=zf0 hi
   rw [hx1] at hx
   rw [hy1] at hy
   simp only [zf2,zf5] at hx hy
   refine ⟨i+1,hi,?_⟩
   simp only [disAt,hy1,hx1,Nat.add_sub_cancel,zf2,zh7,zha,zf6,decide_eq_true_eq]
   exact .inl ⟨by omega,by omega⟩
  ·obtain ⟨k,hk,rfl⟩:=List.mem_iff_getElem.1 hf
   refine ⟨k,hk,?_⟩
   have hx:fs[k]?=some fs[k]:=zf0 hk
   simp [disAt,hx,h]
section
variable {S:ySM}
theorem dis_run (hS:NoS S) {m D:Nat} {out:yLM} (hm:1<=m) (s:Sv) (own:yLO):∀ ownV id,callN Ftab S (m+1) D out ownV own id 22 [.agg s.c]=some (.x,.fn 48 [] [.ptrM D (own.length+1) 0,.ptrM D own.length 0],own++[.cells s.c,.cells [.int .i64 0]]):=by
 have main:∃ v own',(∀ id,callN Ftab S (m+1) D out [] own id 22 [.agg s.c]=some (.x,v,own'))/\(v=.fn 48 [] [.ptrM D (own.length+1) 0,.ptrM D own.length 0]/\own'=own++[.cells s.c,.cells [.int .i64 0]]):=by
  refine yL (i:=i22) (ns hS (by rfl)) rfl rfl (lb rfl) fun t hfr=>?_
  simp only [V2,Xb,i22,Sv.c] at hfr
  simp only [i22,V0,Xa,Xb,Xc,Xd,Xe,reduceCtorEq,hfr,yw,zdc,Sv.c]
  exact ⟨_,rfl,rfl⟩
 obtain ⟨v,own',h1,rfl,rfl⟩:=main
 exact fun ownV id=>(yE (ns hS (by rfl)) rfl rfl).trans (h1 0)
theorem sha_run (hS:NoS S) {m D:Nat} {out:yLM} (hm:1<=m) (own:yLO):∀ ownV id,callN Ftab S (m+1) D out ownV own id 30 []=some (.x,.fn 55 [] [.ptrM D (own.length+1) 0],own++[.map [] [] [] 0,.cells [.mapM D own.length]]):=by
 have main:∃ v own',(∀ id,callN Ftab S (m+1) D out [] own id 30 []=some (.x,v,own'))/\(v=.fn 55 [] [.ptrM D (own.length+1) 0]/\own'=own++[.map [] [] [] 0,.cells [.mapM D own.length]]):=by
  refine yL (i:=i30) (ns hS (by rfl)) rfl rfl (lb rfl) fun t hfr=>?_
  simp only [V2,Xb,i30] at hfr
  have smp:∀ j,(IV.mapM D j).scalar=true:=fun j=>rfl
  have cmp:∀ j,(IV.mapM D j).cells=[.mapM D j]:=fun j=>rfl
  simp only [i30,V0,Xa,Xb,Xc,Xd,Xe,reduceCtorEq,hfr,smp,cmp,yw,zdc]
  exact ⟨_,rfl,rfl⟩
 obtain ⟨v,own',h1,rfl,rfl⟩:=main
 exact fun ownV id=>(yE (ns hS (by rfl)) rfl rfl).trans (h1 0)
theorem dis1_run (hS:NoS S) {m D:Nat} {out:yLM} (s:Sv) (k:Nat) (x:Ft) (hx:s.ft.l[k]?=some x) (hm:x.parts.l.length+10<=m) (P J:yLO):∃ R,∀ ownV id,callN Ftab S (m+1) D out ownV (P++.cells s.c::.cells [iv k]::J) id 48 [.agg x.c,.ptrM D (P.length+1) 0,.ptrM D P.length 0]=some (.x,.bool (disAt s.ft.l k),P++.cells s.c::.cells [iv (k+1:Nat)]::(J++R)):=by
 have main:∃ v own',(∀ id,callN Ftab S (m+1) D out [] (P++.cells s.c::.cells [iv k]::J) id 48 [.agg x.c,.ptrM D (P.length+1) 0,.ptrM D P.length 0]=some (.x,v,own'))/\(v=.bool (disAt s.ft.l k)/\∃ R,own'=P++.cells s.c::.cells [iv (k+1:Nat)]::(J++R)):=by
  refine yL (i:=i48) (ns hS (by rfl)) rfl rfl (lb rfl) fun t hfr=>?_
  simp only [V2,Xb,i48,Ft.c,zf] at hfr
  obtain ⟨hk,hxe⟩:=zfz.1 hx
  have hlf:=s.ft.few
  have hw:wrapI .i64 ((k:Int)+1)=((k+1:Nat):Int):=we
  have c0:=at_valid hS x.parts m (by omega)
  have g3:∀ (a b c:IObj),(P++a::b::(J++[c]))[P.length+(J.length+1+1)]?=some c:=fun a b c=>by
   rw [show P++a::b::(J++[c])=(P++a::b::J)++[c] by simp,show P.length+(J.length+1+1)=(P++a::b::J).length by simp,zf4 (zf7 _),zit]
   rfl
  have g3f:∀ (a b c e:IObj),(P++a::b::(J++[c,e]))[P.length+(J.length+1+1)]?=some c:=fun a b c e=>by
   rw [show P++a::b::(J++[c,e])=(P++a::b::J)++[c,e] by simp,show P.length+(J.length+1+1)=(P++a::b::J).length by simp,zf4 (zf7 _),zit]
   rfl
  have h0:∀ (vis:List Nat) (a b c e:IObj),(hide vis (P.length+(J.length+1+1+1)) (P++a::b::(J++[c,e])))[P.length]?=some a:=fun vis a b c e=>by
   rw [zw,YI,zf2,if_pos (by simp)]
  have h1:∀ (vis:List Nat) (a b c e:IObj),(hide vis (P.length+(J.length+1+1+1)) (P++a::b::(J++[c,e])))[P.length+1]?=some b:=fun vis a b c e=>by
   rw [zw,zem,zf2,if_pos (by simp)]
  have h2:∀ (vis:List Nat) (a b c e:IObj),(hide vis (P.length+(J.length+1+1+1)) (P++a::b::(J++[c,e])))[P.length+(J.length+1+1)]?=some c:=fun vis a b c e=>by
   rw [zw,g3f,zf2,if_pos (by simp)]
  have s3:∀ (a b c e:IObj),(P++a::b::(J++[c])).set (P.length+(J.length+1+1)) e=P++a::b::(J++[e]):=fun a b c e=>by
   rw [show P++a::b::(J++[c])=(P++a::b::J)++[c] by simp,show P.length+(J.length+1+1)=(P++a::b::J).length by simp,zie _ _ (zf7 _),zit]
   simp
  cases k with
  | zero =>
   have hgt:decide (((0+1:Nat):Int) > 1)=false:=by decide
   have hd:disAt s.ft.l 0=!ascL x.parts.l:=by simp [disAt,hx]
   simp only [i48,V0,Xa,Xb,Xc,Xd,Xe,reduceCtorEq,hfr,Sv.c,zf,hw,g3,s3,h0,h1,h2,hgt,c0]
   refine ⟨by simp [comm],?_⟩
   simp only [V0,Xa,Xb,Xc,Xd,Xe,reduceCtorEq,hfr,yw,zdc]
   exact ⟨_,rfl,by rw [hd],_,rfl⟩
  | succ k =>
   have hgt:decide (((k+1+1:Nat):Int) > 1)=true:=by rw [decide_eq_true_iff]; omega
   have hlt:k<s.ft.l.length:=by omega
   obtain ⟨y,hy⟩:=gx (l:=s.ft.l) (i:=k) hlt
   have hw2:wrapI .i64 (((k+1+1:Nat):Int) - 2)=((k:Nat):Int):=we
   have hrd:rdN (s.ft.l.flatMap Ft.c) (k*5) 1=some [.int .i64 y.id]:=(zb Ft.c_len 0 1 hy (by omega)).trans rfl
   have hd:disAt s.ft.l (k+1)=(decide (x.id<=y.id)||!ascL x.parts.l):=by simp [disAt,hx,hy]
   cases hb:decide (x.id<=y.id)
   ·simp only [i48,V0,Xa,Xb,Xc,Xd,Xe,reduceCtorEq,hfr,Sv.c,zf,hw,g3,s3,h0,h1,h2,hgt,c0,hw2,za s.ft hlt,hrd,ge_iff_le,hb]
    refine ⟨by simp [comm],?_⟩
    simp only [V0,Xa,Xb,Xc,Xd,Xe,reduceCtorEq,hfr,yw,zdc]
    exact ⟨_,rfl,by rw [hd,hb,zhm],_,rfl⟩
   ·simp only [i48,V0,Xa,Xb,Xc,Xd,Xe,reduceCtorEq,hfr,Sv.c,zf,hw,g3,s3,h0,h1,h2,hgt,c0,hw2,za s.ft hlt,hrd,ge_iff_le,hb]
    refine ⟨by simp [comm],?_⟩
    simp only [V0,Xa,Xb,Xc,Xd,Xe,reduceCtorEq,hfr,yw,zdc]
    exact ⟨_,rfl,by rw [hd,hb,zhu],_,rfl⟩
 obtain ⟨v,own',h1,rfl,R,rfl⟩:=main
 exact ⟨R,fun ownV id=>(yE (ns hS (by rfl)) rfl rfl).trans (h1 0)⟩
end
end
section
theorem mid_get {α:Type} {P R:List α} {a b c:α} {j:Nat} (h:R[j]?=some c):(P++a::b::R)[P.length+(j+1+1)]?=some c:=by
 rw [zf4 (by omega),show P.length+(j+1+1) - P.length=j+1+1 by omega,zgc,zgc,h]
theorem mid_set {α:Type} {P R:List α} {a b v:α} {j:Nat}:(P++a::b::R).set (P.length+(j+1+1)) v=P++a::b::R.set j v:=by
 rw [zie _ _ (by omega),show P.length+(j+1+1) - P.length=j+1+1 by omega,zim,zim]
section
variable {S:ySM}
theorem sha_tail (hS:NoS S) {m D:Nat} {out:yLM} {K:yKM} (f:Ft) (kind:Int) (L:List (Int × Int)) (P J:yLO) (bs:List Nat) (ck j:Nat) (hm:f.parts.l.length+10<=m) (hkey:keysF f=f.parts.l.map fun x=>(kind,x)) (hj:J[j]?=some (.cells f.c)) (t:List IV)
  (hfr:Slots 33 t [(1,.ptrM D (P.length+1) 0),(2,.ptrM D (P.length+(j+1+1)) 0),(4,.int .i64 kind)])
  (hK:∀ t' L' bs' ck' R b,Slots 33 t' [(3,.bool b)]->b=hitB L (keysF f)->(b=false->L'=L++keysF f)->K .ret ⟨t',P++.map (pKs L') (pVs L') bs' ck'::.cells [.mapM D P.length]::(J++R)⟩) :
  Ex (callN Ftab S m) D out m (i55.body.sub [1,1,1]) K ⟨t,P++.map (pKs L) (pVs L) bs ck::.cells [.mapM D P.length]::J⟩:=by
 simp only [ze,zg] at hfr
 have hlf:=f.parts.few
 have g0:∀ (a b:IObj),(P++a::b::J)[P.length+(j+1+1)]?=some (.cells f.c):=fun a b=>mid_get hj
 simp only [Ft.c,zf] at g0
 simp only [i55,IC.sub,V0,sevalprocAttr,hfr,g0]
 refine zd (fun jj st=>∃ (i:Nat) (L1:List (Int × Int)) (bs:List Nat) (ck:Nat) (R:yLO),f.parts.l.length - i<=jj/\i<=f.parts.l.length/\L1=L++(keysF f).take i/\hitB L (keysF f)=hitB L1 ((keysF f).drop i)/\st.own=P++.map (pKs L1) (pVs L1) bs ck::.cells [.mapM D P.length]::(J++R)/\Slots 33 st.t [(1,.ptrM D (P.length+1) 0),(4,.int .i64 kind),(18,f.parts.v),(19,iv (f.parts.l.length:Nat)),(20,iv i)]) f.parts.l.length (by omega) ⟨0,L,bs,ck,[],by omega,by omega,by simp,by simp,by simp,by simp only [V0,sevalprocAttr,hfr,g0,zg4]⟩ ?_
 clear hfr
 rintro jj ⟨t,own⟩ KA ⟨i,L1,bs,ck,R,hjj,hi,hL1,hhit,ho,hfr⟩ hnA heA hrA
 dsimp only at ho hfr
 subst ho
 simp only [V3] at hfr
 by_cases h:i<f.parts.l.length
 ·obtain ⟨x,hx⟩:=gx (l:=f.parts.l) (i:=i) h
  have hrd:rdN (f.parts.l.flatMap intc) (i*1) 1=some [.int .i64 x]:=(zb zk 0 1 hx (by omega)).trans rfl
  have hw:wrapI .i64 ((i:Int)+1)=((i+1:Nat):Int):=we
  have hkx:(keysF f)[i]?=some (kind,x):=by rw [hkey,zgd,hx]; rfl
  have hdrop:(keysF f).drop i=(kind,x)::(keysF f).drop (i+1):=by
   obtain ⟨h1,h2⟩:=zfz.1 hkx
   rw [← h2,List.drop_eq_getElem_cons h1]
  have gN:∀ (a b c:IObj),(P++a::b::(J++(R++[c])))[P.length+(J.length+R.length+1+1)]?=some c:=fun a b c=>mid_get (by rw [← zgu,← zga,zf4 (zf7 _),zit]; rfl)
  have sN:∀ (a b c v:IObj),(P++a::b::(J++(R++[c]))).set (P.length+(J.length+R.length+1+1)) v=P++a::b::(J++(R++[v])):=fun a b c v=>by
   rw [mid_set,← zgu,← zga,zie _ _ (zf7 _),zit]
   simp
  have evL:=fun (C:Call) (n0:Nat) (ownV own:yLO) (t:List IV) (a b:Opd) h1 h2 h3=>@ev_lookP L1 bs ck (kind,x) C D n0 D P.length out ownV own t a b h1 h2 h3
  have kk:∀ (p:Int × Int),([IV.int .i64 p.1,IV.int .i64 p.2]:List IV).all IV.scalar=true:=fun p=>rfl
  rw [hdrop,hitB] at hhit
  cases hc:L1.contains (kind,x)
  ·rw [hc,zhm] at hhit
   have evU:=fun (C:Call) (n0:Nat) (ownV own:yLO) (t:List IV) (a b c:Opd) h1 h2 h3 h4=>@upd_p L1 bs ck (kind,x) hc C D out n0 P.length ownV own t a b c h1 h2 h3 h4
   simp only [hc] at evL
   simp only [V0,sevalprocAttr,hfr,h,za f.parts h,hrd,gN,sN,evL,evU,hw]
   exact hnA _ (f.parts.l.length - (i+1)) (by omega) ⟨i+1,L1++[(kind,x)],bs++[ck],ck+1,_,by omega,by omega,by rw [hL1,zgu,zhb,hkx]; rfl,hhit,rfl,by simp only [V0,sevalprocAttr,hfr,gN,sN,evL,evU,hw]⟩
  ·rw [hc,zhu] at hhit
   simp only [hc] at evL
   simp only [V0,sevalprocAttr,hfr,h,za f.parts h,hrd,gN,sN,evL]
   refine hrA _ ?_
   simp only [V0,sevalprocAttr]
   exact hK _ L1 bs ck _ true (by simp only [V0,sevalprocAttr,hfr,gN,sN,evL]) hhit.symm (fun h=>by cases h)
 ·have hdrop:(keysF f).drop i=[]:=by
   rw [List.drop_eq_nil_iff,hkey,zgw]
   omega
  have htake:(keysF f).take i=keysF f:=zgg (by rw [hkey,zgw]; omega)
  rw [hdrop,hitB] at hhit
  rw [htake] at hL1
  simp only [V0,sevalprocAttr,hfr,h]
  refine heA _ _ ?_
  simp only [V0,sevalprocAttr,hfr]
  exact hK _ L1 bs ck R false (by simp only [V0,sevalprocAttr,hfr]) hhit.symm fun _=>hL1
theorem sha1_run (hS:NoS S) {m D:Nat} {out:yLM} (f:Ft) (L:List (Int × Int)) (P J:yLO) (bs:List Nat) (ck:Nat) (hm:f.parts.l.length+10<=m):∃ L' bs' ck' R,(∀ ownV id,callN Ftab S (m+1) D out ownV (P++.map (pKs L) (pVs L) bs ck::.cells [.mapM D P.length]::J) id 55 [.agg f.c,.ptrM D (P.length+1) 0]=some (.x,.bool (hitB L (keysF f)),P++.map (pKs L') (pVs L') bs' ck'::.cells [.mapM D P.length]::(J++R)))/\(hitB L (keysF f)=false->L'=L++keysF f):=by
 have main:∃ v own',(∀ id,callN Ftab S (m+1) D out [] (P++.map (pKs L) (pVs L) bs ck::.cells [.mapM D P.length]::J) id 55 [.agg f.c,.ptrM D (P.length+1) 0]=some (.x,v,own'))/\(v=.bool (hitB L (keysF f))/\∃ L' bs' ck' R,own'=P++.map (pKs L') (pVs L') bs' ck'::.cells [.mapM D P.length]::(J++R)/\(hitB L (keysF f)=false->L'=L++keysF f)):=by
  refine yL (i:=i55) (ns hS (by rfl)) rfl rfl (lb rfl) fun t hfr=>?_
  simp only [V2,Xb,i55,Ft.c,zf] at hfr
  suffices hsuf:∀ K:yKM,(∀ t' L' bs' ck' R b,Slots 33 t' [(3,.bool b)]->b=hitB L (keysF f)->(b=false->L'=L++keysF f)->K .ret ⟨t',P++.map (pKs L') (pVs L') bs' ck'::.cells [.mapM D P.length]::(J++R)⟩)->Ex (callN Ftab S m) D out m i55.body K ⟨t,P++.map (pKs L) (pVs L) bs ck::.cells [.mapM D P.length]::J⟩ from hsuf _ fun t' L' bs' ck' R b ht hb hb2=>by
   simp only [ze,zg] at ht
   simp only [i55,V0,sevalprocAttr,ht,yw,zdc]
   exact ⟨_,rfl,by rw [hb],L',bs',ck',R,rfl,fun h=>hb2 (hb.trans h)⟩
  intro K fin
  have c0:=Zu hS f.kind m (by omega)
  simp only [zf] at c0
  have g1:∀ (a b c:IObj) (r:yLO),(P++a::b::(J++c::r))[P.length+(J.length+1+1)]?=some c:=fun a b c r=>mid_get (by rw [zf4 (zf7 _),zit]; rfl)
  have s1:∀ (a b c v:IObj) (r:yLO),(P++a::b::(J++c::r)).set (P.length+(J.length+1+1)) v=P++a::b::(J++v::r):=fun a b c v r=>by
   rw [mid_set,zie _ _ (zf7 _),zit,List.set_cons_zero]
  have hT:=fun K kind J j hkey hj t hfr hK=>@sha_tail S hS m D out K f kind L P J bs ck j hm hkey hj t hfr hK
  rw [show i55.body=.seq (i55.body.sub [0]) (.seq (i55.body.sub [1,0]) (.seq (i55.body.sub [1,1,0]) (i55.body.sub [1,1,1]))) from rfl]
  generalize i55.body.sub [1,1,1]=T at hT ⊢
  cases h2:shapeI f.kind==2
  ·cases h3:shapeI f.kind==3
   ·have hkey:keysF f=f.parts.l.map fun x=>(0,x):=by simp [keysF,kindZ,h2,h3]
    simp only [i55,IC.sub,V0,sevalprocAttr,hfr,c0,g1,s1,h2,h3]
    refine hT _ 0 _ J.length hkey (by rw [zf4 (zf7 _),zit]; rfl) _ (by simp only [V0,sevalprocAttr,hfr]) fun t' L' bs' ck' R b h1 h2 h3=>?_
    rw [zgu]
    exact fin _ _ _ _ _ _ h1 h2 h3
   ·have hkey:keysF f=f.parts.l.map fun x=>(f.kind,x):=by simp [keysF,kindZ,h2,h3]
    simp only [i55,IC.sub,V0,sevalprocAttr,hfr,c0,g1,s1,h2,h3]
    refine hT _ f.kind _ J.length hkey (by rw [zf4 (zf7 _),zit]; rfl) _ (by simp only [V0,sevalprocAttr,hfr]) fun t' L' bs' ck' R b h1 h2 h3=>?_
    rw [zgu]
    exact fin _ _ _ _ _ _ h1 h2 h3
  ·have hkey:keysF f=[]:=by simp [keysF,h2]
   simp only [i55,IC.sub,V0,sevalprocAttr,hfr,c0,g1,s1,h2]
   exact fin _ L bs ck _ false (by simp only [V0,sevalprocAttr,hfr]) (by rw [hkey]; rfl) fun _=>by rw [hkey,zhc]
 obtain ⟨v,own',h1,rfl,L',bs',ck',R,rfl,h2⟩:=main
 exact ⟨L',bs',ck',R,fun ownV id=>(yE (ns hS (by rfl)) rfl rfl).trans (h1 0),h2⟩
end
end
section
theorem parts_few:∀ (l:List Ft),∃ B,∀ f∈l,f.parts.l.length<=B
 | []=>⟨0,fun _ h=>by simp at h⟩
 | x::l=>by
  obtain ⟨B,hB⟩:=parts_few l
  refine ⟨B+x.parts.l.length,fun f h=>?_⟩
  rcases zgf.1 h with rfl | h
  ·omega
  ·have:=hB f h
   omega
def rg (r:IV × Int × Bool):List IV:=[r.1,.int .i64 r.2.1]
def rulesL (nm:ByteArray->Int) (s:Sv) (D:Nat):List (IV × Int × Bool) :=
 [(.fn 21 [] [],3,s.ft.l.any bad1),(.fn 48 [] [.ptrM D 5 0,.ptrM D 4 0],10,disB s.ft.l),(.fn 23 [] [],2,s.ft.l.any bad3),(.fn 24 [] [],9,s.ft.l.any bad4),(.fn 25 [] [],14,s.ft.l.any (bad5 nm)),(.fn 27 [] [],1,s.ft.l.any bad6),(.fn 28 [] [.ptrM D 0 0],7,s.ft.l.any (bad7 s.pl)),(.fn 55 [] [.ptrM D 7 0],13,dupB s.ft.l)]
def rulesV (l:List (IV × Int × Bool)):Int:=((l.find? fun r=>r.2.2).map fun r=>r.2.1).getD 0
theorem rulesV_cons {r:IV × Int × Bool} {l:List (IV × Int × Bool)}:rulesV (r::l)=bif r.2.2 then r.2.1 else rulesV l:=by
 unfold rulesV
 rw [List.find?_cons]
 cases r.2.2 <;> rfl
theorem rulesV_eq (nm:ByteArray->Int) (s:Sv) (D:Nat):(bif decide ((128:Int)<(s.ft.l.length:Int)) then 3 else rulesV (rulesL nm s D))=ruleE nm s.pl s.ft.l:=by
 unfold rulesL ruleE
 simp only [rulesV_cons]
 rfl
def fcheckE (nm:ByteArray->Int) (e:Int) (s:Sv):Int:=bif e != 0 then e else ruleE nm s.pl s.ft.l
def fcPre (s:Sv) (D:Nat) (x5 x6:IObj):yLO:=[.cells s.c,.free,.free,.free,.cells s.c,x5,x6,.cells [.mapM D 6]]
theorem freezeA_agg {n d:Nat} {own:yLO} {cs:List IV}:freezeA (n+1) d own (.agg cs)=(cs.mapM (freezeA n d own)).map .agg:=zgr rfl rfl
theorem ptl_fA (n d:Nat) (own:yLO) (q:SlOf 2 Pt.c):freezeA (n+2) d own q.v=some q.v:=zbe q fun a x hx=>by
 simp only [Pt.c,zf,zgf,zg1,or_false] at hx
 rcases hx with rfl | rfl <;> rfl
theorem ft_fA (n d:Nat) (own:yLO) (f:Ft):∀ x∈f.c,freezeA (n+2) d own x=some x:=fun x hx=>by
 simp only [Ft.c,zf,zgf,zg1,or_false] at hx
 rcases hx with rfl | rfl | rfl | rfl | rfl
 ·rfl
 ·rfl
 ·rfl
 ·rfl
 ·exact ints_fA n d own f.parts
theorem pl_fA (p:Pn) (d:Nat) (own:yLO):[p.ns.v,p.az.v,p.fs.v].mapM (freezeA 11 d own)=some [p.ns.v,p.az.v,p.fs.v]:=by
 have h1:freezeA 11 d own p.ns.v=some p.ns.v:=zbe p.ns fun a x hx=>by
  simp only [Nd.c,zf,zgf,zg1,or_false] at hx
  rcases hx with rfl | rfl | rfl <;> rfl
 have h2:freezeA 11 d own p.az.v=some p.az.v:=zbe p.az fun a x hx=>by
  simp only [Ac.c,zf,zgf,zg1,or_false] at hx
  rcases hx with rfl | rfl | rfl | rfl | rfl | rfl
  ·rfl
  ·rfl
  ·rfl
  ·exact ptl_fA 8 d own a.via
  ·rfl
  ·rfl
 have h3:freezeA 11 d own p.fs.v=some p.fs.v:=ints_fA 9 d own p.fs
 exact zR fun x hx=>by
  simp only [zgf,zg1,or_false] at hx
  rcases hx with rfl | rfl | rfl
  ·exact h1
  ·exact h2
  ·exact h3
theorem sv_fA (s:Sv) (d:Nat) (own:yLO):[IV.agg s.c].mapM (freezeA 12 d own)=some [.agg s.c]:=by
 have hp:=pl_fA s.pl d own
 have h4:freezeA 11 d own s.ft.v=some s.ft.v:=zbe s.ft fun a x hx=>ft_fA 8 d own a x hx
 have hall:s.c.mapM (freezeA 11 d own)=some s.c:=by
  have e:s.c=[s.pl.ns.v,s.pl.az.v,s.pl.fs.v]++[s.ft.v]:=rfl
  rw [e,List.mapM_append,hp,zhy,h4]
  rfl
 refine zR fun x hx=>?_
 rw [zhe] at hx
 rw [hx,freezeA_agg,hall]
 rfl
section
variable {S:ySM}
theorem rules_call (hS:NoS S) {nm:ByteArray->Int} (hN:NmOK S nm) (s:Sv) (hv:FewVia s.pl):∃ M,∀ m,M<=m->∀ (D:Nat) (out:yLM) (i:Nat) (r:IV × Int × Bool),(rulesL nm s D)[i]?=some r->∀ (c:Int) (R:yLO),(i<=1->c=0) ->
  ∃ x5 x6 R',(∀ ownV id,callN Ftab S m D out ownV (fcPre s D (.cells [.int .i64 c]) (.map [] [] [] 0)++R) id 31 [s.ft.v,r.1]=some (.x,.bool r.2.2,fcPre s D x5 x6++(R++R')))/\(i<=6->∃ c':Int,x5=.cells [.int .i64 c']/\x6=.map [] [] [] 0/\(i=0->c'=0)):=by
 obtain ⟨B,hB⟩:=parts_few s.ft.l
 obtain ⟨N7,hN7⟩:=Yv s.ft.l (fun f _=>r7_run hS s hv f)
 refine ⟨N7+B+s.ft.l.length+60,fun m hm D out i r hr c R hc=>?_⟩
 obtain ⟨m,rfl⟩:∃ q,m=q+2:=⟨m - 2,by omega⟩
 have pure:∀ (q:Ft->Bool) (gf:FuncId) (caps:List IV) (x6:IObj),(∀ x∈s.ft.l,∀ R id,callN Ftab S m D out (fcPre s D (.cells [.int .i64 c]) x6++R) (fcPre s D (.cells [.int .i64 c]) x6++R) id gf (.agg x.c::caps)=some (.r,.bool (q x),fcPre s D (.cells [.int .i64 c]) x6++R))->∃ R',∀ ownV id,callN Ftab S (m+2) D out ownV (fcPre s D (.cells [.int .i64 c]) x6++R) id 31 [s.ft.v,.fn gf [] caps]=some (.x,.bool (s.ft.l.any q),fcPre s D (.cells [.int .i64 c]) x6++(R++R')):=fun q gf caps x6 h=>by
  obtain ⟨R',h'⟩:=conF_pure (D:=D) (out:=out) (m:=m) hS s.ft q gf caps (fcPre s D (.cells [.int .i64 c]) x6++R) (by omega) (fun x hx R2 id=>by rw [zgu]; exact h x hx _ id)
  exact ⟨R',fun ownV id=>by rw [h' ownV id,zgu]⟩
 match i,hr,hc with
 | 0,hr,hc =>
  cases hr
  obtain ⟨R',h⟩:=pure bad1 21 [] (.map [] [] [] 0) fun x hx R id=>at_r1 hS x m (by omega) D out _ _ id
  exact ⟨_,_,R',h,fun _=>⟨c,rfl,rfl,fun _=>hc (by omega)⟩⟩
 | 1,hr,hc =>
  cases hr
  obtain rfl:=hc (by omega)
  obtain ⟨own',h1,k,_,R',rfl⟩:=zfi (D:=D) (out:=out) (m:=m) hS s.ft (disAt s.ft.l) 48 [.ptrM D 5 0,.ptrM D 4 0] (fun k J=>∃ R',J=fcPre s D (.cells [.int .i64 (k:Nat)]) (.map [] [] [] 0)++(R++R')) (fun k J R2 ⟨R',h⟩=>⟨R'++R2,by rw [h]; simp⟩) (by omega) (fun k x J hx _ ⟨R',hJ⟩=>by
   subst hJ
   obtain ⟨m,rfl⟩:∃ q,m=q+1:=⟨m - 1,by omega⟩
   obtain ⟨R2,h2⟩:=dis1_run (D:=D) (out:=out) (m:=m) hS s k x hx (by have:=hB x (zgl hx); omega) [.cells s.c,.free,.free,.free] ([.map [] [] [] 0,.cells [.mapM D 6]]++(R++R'))
   exact ⟨_,_,fun id=>h2 _ id,R'++R2,by simp [fcPre,zf]⟩) (fcPre s D (.cells [.int .i64 0]) (.map [] [] [] 0)++R) ⟨[],by simp⟩
  rw [disAt_dis] at h1
  exact ⟨_,_,R',h1,fun _=>⟨_,rfl,rfl,fun h=>absurd h (by omega)⟩⟩
 | 2,hr,hc =>
  cases hr
  obtain ⟨R',h⟩:=pure bad3 23 [] (.map [] [] [] 0) fun x hx R id=>at_r3 hS x m (by omega) D out _ _ id
  exact ⟨_,_,R',h,fun _=>⟨c,rfl,rfl,fun h=>absurd h (by omega)⟩⟩
 | 3,hr,hc =>
  cases hr
  obtain ⟨R',h⟩:=pure bad4 24 [] (.map [] [] [] 0) fun x hx R id=>at_r4 hS x m (by omega) D out _ _ id
  exact ⟨_,_,R',h,fun _=>⟨c,rfl,rfl,fun h=>absurd h (by omega)⟩⟩
 | 4,hr,hc =>
  cases hr
  obtain ⟨R',h⟩:=pure (bad5 nm) 25 [] (.map [] [] [] 0) fun x hx R id=>at_r5 hS hN x m (by omega) D out _ _ id
  exact ⟨_,_,R',h,fun _=>⟨c,rfl,rfl,fun h=>absurd h (by omega)⟩⟩
 | 5,hr,hc =>
  cases hr
  obtain ⟨R',h⟩:=pure bad6 27 [] (.map [] [] [] 0) fun x hx R id=>at_r6 hS x m (by omega) D out _ _ id
  exact ⟨_,_,R',h,fun _=>⟨c,rfl,rfl,fun h=>absurd h (by omega)⟩⟩
 | 6,hr,hc =>
  cases hr
  obtain ⟨R',h⟩:=pure (bad7 s.pl) 28 [.ptrM D 0 0] (.map [] [] [] 0) fun x hx R id=>hN7 x hx m (by omega) D out _ id _ rfl
  exact ⟨_,_,R',h,fun _=>⟨c,rfl,rfl,fun h=>absurd h (by omega)⟩⟩
 | 7,hr,hc =>
  cases hr
  obtain ⟨own',h1,k,_,L,bs,ck,R',rfl,_⟩:=zfi (D:=D) (out:=out) (m:=m) hS s.ft (hitAt s.ft.l) 55 [.ptrM D 7 0] (fun k J=>∃ L bs ck R',J=fcPre s D (.cells [.int .i64 c]) (.map (pKs L) (pVs L) bs ck)++(R++R')/\(anyTo (hitAt s.ft.l) k=false->L=(s.ft.l.take k).flatMap keysF)) (fun k J R2 ⟨L,bs,ck,R',h,h2⟩=>⟨L,bs,ck,R'++R2,by rw [h]; simp,h2⟩) (by omega) (fun k x J hx hk ⟨L,bs,ck,R',hJ,hL⟩=>by
   subst hJ
   obtain rfl:=hL hk
   obtain ⟨m,rfl⟩:∃ q,m=q+1:=⟨m - 1,by omega⟩
   obtain ⟨L',bs',ck',R2,h2,h3⟩:=sha1_run (D:=D) (out:=out) (m:=m) hS x ((s.ft.l.take k).flatMap keysF) [.cells s.c,.free,.free,.free,.cells s.c,.cells [.int .i64 c]] (R++R') bs ck (by have:=hB x (zgl hx); omega)
   have e:hitAt s.ft.l k=hitB ((s.ft.l.take k).flatMap keysF) (keysF x):=by simp [hitAt,hx]
   rw [e]
   refine ⟨_,_,fun id=>h2 _ id,L',bs',ck',R'++R2,by simp [fcPre],fun ha=>?_⟩
   rw [zaa,zhz,e] at ha
   rw [h3 ha.2,take_flat hx]) (fcPre s D (.cells [.int .i64 c]) (.map [] [] [] 0)++R) ⟨[],[],0,[],by simp [pKs,pVs],fun _=>by simp⟩
  rw [hitAt_dup] at h1
  exact ⟨_,_,R',h1,fun h=>absurd h (by omega)⟩
 | i+8,hr,hc=>simp [rulesL] at hr
theorem fcheck_gives (hS:NoS S) {nm:ByteArray->Int} (hN:NmOK S nm) (s:Sv) (hv:FewVia s.pl) {e:Int} {N0:Nat} (hR:GivesN S N0 20 [.agg s.pl.c] (.int .i64 e)):∃ N,GivesN S N 7 [.agg s.c] (.int .i64 (fcheckE nm e s)):=by
 obtain ⟨M,hM⟩:=rules_call hS hN s hv
 refine ⟨N0+M+30,gives_m03 (i:=i7) (ns hS (by rfl)) rfl (by first | exact .inl rfl | exact .inr rfl) (lb rfl) (N0+M+29) (by omega) zo (fun _=>rfl) (fun d own=>sv_fA s d own) fun m hm d out t hfr=>?_⟩
 simp only [V2,Xb,i7,Sv.c] at hfr
 have c0:=hR m (by omega)
 simp only [Pn.c] at c0
 unfold fcheckE
 cases he:e != 0
 rotate_left
 ·simp only [i7,V0,Xa,Xb,Xc,Xd,Xe,reduceCtorEq,hfr,c0,he,cond_true]
 cases hl:decide ((128:Int)<(s.ft.l.length:Int))
 rotate_left
 ·have hr:ruleE nm s.pl s.ft.l=3:=by unfold ruleE; rw [hl]; rfl
  simp only [i7,V0,Xa,Xb,Xc,Xd,Xe,reduceCtorEq,hfr,c0,he,gt_iff_lt,hl,hr,cond_true,cond_false]
 have hr:ruleE nm s.pl s.ft.l=rulesV (rulesL nm s d):=by rw [← rulesV_eq nm s d,hl]; rfl
 obtain ⟨m1,rfl⟩:∃ q,m=q+1:=⟨m - 1,by omega⟩
 have c1:∀ ownV id,callN Ftab S (m1+1) d out ownV [.cells s.c,.free,.free,.free] id 22 [.agg s.c]=some (.x,.fn 48 [] [.ptrM d 5 0,.ptrM d 4 0],[.cells s.c,.free,.free,.free,.cells s.c,.cells [.int .i64 0]]):=fun ownV id=>dis_run (D:=d) (out:=out) (m:=m1) hS (by omega) s [.cells s.c,.free,.free,.free] ownV id
 have c2:∀ ownV id,callN Ftab S (m1+1) d out ownV [.cells s.c,.free,.free,.free,.cells s.c,.cells [.int .i64 0]] id 30 []=some (.x,.fn 55 [] [.ptrM d 7 0],fcPre s d (.cells [.int .i64 0]) (.map [] [] [] 0)):=fun ownV id=>sha_run (D:=d) (out:=out) (m:=m1) hS (by omega) [.cells s.c,.free,.free,.free,.cells s.c,.cells [.int .i64 0]] ownV id
 have cC:(rulesL nm s d).flatMap rg=[.fn 21 [] [],.int .i64 3,.fn 48 [] [.ptrM d 5 0,.ptrM d 4 0],.int .i64 10,.fn 23 [] [],.int .i64 2,.fn 24 [] [],.int .i64 9,.fn 25 [] [],.int .i64 14,.fn 27 [] [],.int .i64 1,.fn 28 [] [.ptrM d 0 0],.int .i64 7,.fn 55 [] [.ptrM d 7 0],.int .i64 13]:=rfl
 have hlen:(rulesL nm s d).length=8:=rfl
 have hcall:=fun i r hr c R hc=>hM (m1+1) (by omega) d out i r hr c R hc
 simp only [Sv.c] at c1 c2
 rw [hr]
 have cfn:∀ a b c,(IV.fn a b c).cells=[.fn a b c]:=fun a b c=>rfl
 have rep8:∀ a b:IV,rep [a,b] 8=[a,b,a,b,a,b,a,b,a,b,a,b,a,b,a,b]:=fun a b=>rfl
 simp only [i7,V0,Xa,Xb,Xc,Xd,Xe,reduceCtorEq,hfr,c0,he,gt_iff_lt,hl,c1,c2,cfn,rep8,cond_false]
 have hfn:∀ r∈rulesL nm s d,∃ g b c,r.1=.fn g b c:=by
  intro r hr
  simp only [rulesL,zgf,zg1,or_false] at hr
  rcases hr with rfl | rfl | rfl | rfl | rfl | rfl | rfl | rfl <;> exact ⟨_,_,_,rfl⟩
 generalize rulesL nm s d=rl at cC hlen hcall hfn ⊢
 refine zd (fun jj st=>∃ (i:Nat) (O:yLO),8 - i<=jj/\i<=8/\(rl.take i).find? (fun r=>r.2.2)=none/\(i<=7->∃ (c:Int) (R:yLO),O=fcPre s d (.cells [.int .i64 c]) (.map [] [] [] 0)++R/\(i<=1->c=0))/\st.own=O/\Slots 43 st.t [(1,.ptrM d 0 0),(29,.slC (rl.flatMap rg) 8 2 true),(30,iv (8:Nat)),(31,iv i)]) 8 (by omega) ⟨0,_,by omega,by omega,rfl,fun _=>⟨0,[],by rw [zhc],fun _=>rfl⟩,rfl,by simp only [V0,Xa,Xb,Xc,Xd,Xe,reduceCtorEq,hfr,cC,zg4]⟩ ?_
 clear hfr
 rintro jj ⟨t,own⟩ KA ⟨i,O,hjj,hi,hfnd,hO,ho,hfr⟩ hnA heA hrA
 dsimp only at ho hfr
 subst ho
 simp only [V3] at hfr
 by_cases h:i<8
 ·obtain ⟨c,R,rfl,hc⟩:=hO (by omega)
  have hx:rl[i]?=some (rl[i]'(by omega)):=zf0 (by omega)
  generalize rl[i]'(by omega)=r at hx
  have hrd:rdN (rl.flatMap rg) (i*2) 2=some [r.1,.int .i64 r.2.1]:=(zb (g:=rg) (sz:=2) (fun _=>rfl) 0 2 hx (by omega)).trans rfl
  have hw:wrapI .i64 ((i:Int)+1)=((i+1:Nat):Int):=we
  have h8:decide ((i:Int)<((8:Nat):Int))=true:=by rw [decide_eq_true_iff]; omega
  obtain ⟨g1,g2,g3,hfe⟩:=hfn r (zgl hx)
  obtain ⟨x5,x6,R',h1,h2⟩:=hcall i r hx c (R++[.cells [r.1,.int .i64 r.2.1],.free]) hc
  rw [hfe] at hrd h1
  have hpl:∀ (x5 x6:IObj),(fcPre s d x5 x6).length=8:=fun x5 x6=>rfl
  have gA:∀ (x5 x6 a:IObj) (l:yLO),(fcPre s d x5 x6++(R++a::l))[8+R.length]?=some a:=fun x5 x6 a l=>by
   rw [zf4 (by simp [fcPre]),show 8+R.length - (fcPre s d x5 x6).length=R.length by simp [fcPre],YI]
  have sA:∀ (x5 x6 a v:IObj) (l:yLO),(fcPre s d x5 x6++(R++a::l)).set (8+R.length) v=fcPre s d x5 x6++(R++v::l):=fun x5 x6 a v l=>by
   rw [zie _ _ (by simp [fcPre]),show 8+R.length - (fcPre s d x5 x6).length=R.length by simp [fcPre],YJ]
  have g00:∀ (x5 x6:IObj) (l:yLO),(fcPre s d x5 x6++l)[0]?=some (.cells [s.pl.ns.v,s.pl.az.v,s.pl.fs.v,s.ft.v]):=fun x5 x6 l=>rfl
  simp only [zgq,zgz,zgu] at h1
  cases hb:r.2.2
  ·rw [hb] at h1
   simp only [V0,Xa,Xb,Xc,Xd,Xe,reduceCtorEq,hfr,h,zZ,hrd,cfn,hpl,gA,sA,g00,h1,hw]
   refine hnA _ (8 - (i+1)) (Nat.lt_of_lt_of_le (Nat.sub_lt_sub_left h (Nat.lt_succ_self i)) hjj) ⟨i+1,_,zf7 _,h,yX hfnd hx hb,fun hi7=>?_,rfl,by simp only [V0,Xa,Xb,Xc,Xd,Xe,reduceCtorEq,hfr,hw]⟩
   obtain ⟨c',rfl,rfl,h0⟩:=h2 (Nat.le_of_succ_le_succ hi7)
   exact ⟨c',_,rfl,fun hi1=>h0 (Nat.le_zero.1 (Nat.le_of_succ_le_succ hi1))⟩
  ·rw [hb] at h1
   simp only [V0,Xa,Xb,Xc,Xd,Xe,reduceCtorEq,hfr,h,zZ,hrd,cfn,hpl,gA,sA,g00,h1]
   refine hrA _ ?_
   have hv1:rulesV rl=r.2.1:=by
    unfold rulesV
    rw [Zn hfnd hx hb]
    rfl
   simp only [V0,Xa,Xb,Xc,Xd,Xe,reduceCtorEq,hfr,hv1]
 ·obtain rfl:i=8:=by omega
  have hv0:rulesV rl=0:=by
   unfold rulesV
   rw [zgg (by omega)] at hfnd
   rw [hfnd]
   rfl
  have h8:decide (((8:Nat):Int)<((8:Nat):Int))=false:=by decide
  simp only [V0,Xa,Xb,Xc,Xd,Xe,reduceCtorEq,hfr,h8]
  refine heA _ _ ?_
  simp only [V0,Xa,Xb,Xc,Xd,Xe,reduceCtorEq,hfr,hv0]
end
end
section
def sumC {α:Type} (g:α->Nat) (l:List α):Nat:=(l.map g).sum
theorem sum_next {α:Type} {g:α->Nat} {l:List α} {i:Nat} {x:α} (hx:l[i]?=some x):sumC g (l.take (i+1))=sumC g (l.take i)+g x:=by
 unfold sumC
 rw [zhb,hx,zhq,zir,List.sum_append]
 simp
theorem sum_le {α:Type} {g:α->Nat} (l:List α) (i:Nat):sumC g (l.take i)<=sumC g l:=by
 unfold sumC
 conv=>rhs; rw [← zih i l,zir,List.sum_append]
 omega
theorem sum_mem {α:Type} {g:α->Nat}:∀ {l:List α} {x:α},x∈l->g x<=sumC g l
 | y::l,x,h=>by
  have e:sumC g (y::l)=g y+sumC g l:=by simp [sumC]
  rw [e]
  rcases zgf.1 h with rfl | h
  ·omega
  ·have:=sum_mem (g:=g) h
   omega
def viaC (a:Ac):Nat:=min a.via.l.length 101
def partC (f:Ft):Nat:=min f.parts.l.length 101
theorem w101:wrapI .i64 (100+1)=101:=by rw [zC]; decide
theorem min101 (n:Nat):(if (101:Int)<(n:Int) then (101:Int) else (n:Int))=((min n 101:Nat):Int):=by
 split <;> omega
def few14 (p:Pn):Bool:=decide (p.ns.l.length<=100)&&(decide (p.az.l.length<=100)&&(decide (p.fs.l.length<=100)&&decide (sumC viaC p.az.l<=100)))
def few17 (s:Sv):Bool:=few14 s.pl&&(decide (s.ft.l.length<=100)&&decide (sumC partC s.ft.l<=100))
theorem gt100 {n:Nat}:decide ((n:Int) > 100)=!decide (n<=100):=by
 rw [zhi]
 simp
 omega
theorem le100 {n:Nat}:decide ((n:Int)<=100)=decide (n<=100):=by
 rw [zhi,decide_eq_true_iff,decide_eq_true_iff]
 omega
section
variable {S:ySM}
theorem gives_few14 (hS:NoS S) (p:Pn):Gives Ftab S 13 [.agg p.c,iv 100] (.bool (few14 p)):=by
 refine zH (i:=i13) (k:=1) (ns hS (by rfl)) rfl rfl zn (p.az.l.length+5) (by omega) fun m hm d out=>?_
 unfold few14
 cases h1:decide (p.ns.l.length<=100)
 ·simp only [i13,W0,e_nilchk,e_pick,e_box,e_bslice,e_load,e_store,e_eqb,e_eqp,e_eqs,e_eqagg,e_conv,e_faddr,e_field,e_extract,e_call,e_mx,mkAt,List.replicate,look,mkv,binI,intBin,isShift,unI,fillI,cellV,Xb,Xc,Xd,reduceCtorEq,Xe,Pn.c,gt100,h1,zgo]
 cases h2:decide (p.az.l.length<=100)
 ·simp only [i13,W0,e_nilchk,e_pick,e_box,e_bslice,e_load,e_store,e_eqb,e_eqp,e_eqs,e_eqagg,e_conv,e_faddr,e_field,e_extract,e_call,e_mx,mkAt,List.replicate,look,mkv,binI,intBin,isShift,unI,fillI,cellV,Xb,Xc,Xd,reduceCtorEq,Xe,Pn.c,gt100,h1,h2,zgo]
 cases h3:decide (p.fs.l.length<=100)
 ·simp only [i13,W0,e_nilchk,e_pick,e_box,e_bslice,e_load,e_store,e_eqb,e_eqp,e_eqs,e_eqagg,e_conv,e_faddr,e_field,e_extract,e_call,e_mx,mkAt,List.replicate,look,mkv,binI,intBin,isShift,unI,fillI,cellV,Xb,Xc,Xd,reduceCtorEq,Xe,Pn.c,gt100,h1,h2,h3,zgo]
 simp only [i13,W0,e_nilchk,e_pick,e_box,e_bslice,e_load,e_store,e_eqb,e_eqp,e_eqs,e_eqagg,e_conv,e_faddr,e_field,e_extract,e_call,e_mx,mkAt,List.replicate,look,mkv,binI,intBin,isShift,unI,fillI,cellV,Xb,Xc,Xd,reduceCtorEq,Xe,Pn.c,gt100,h1,h2,h3]
 refine zd (fun j st=>∃ i J,j=p.az.l.length - i/\i<=p.az.l.length/\st.t.length=53/\getK (.tuple []) st.t 1=iv 100/\getK (.tuple []) st.t 2=.ptrM d 0 0/\getK (.tuple []) st.t 4=.bool false/\getK (.tuple []) st.t 5=iv ((sumC viaC (p.az.l.take i):Nat):Int)/\getK (.tuple []) st.t 6=iv i/\st.own=.cells [p.ns.v,p.az.v,p.fs.v]::J) p.az.l.length (by omega) ⟨0,[],by omega,by omega,rfl,rfl,rfl,rfl,rfl,rfl,rfl⟩ ?_
 rintro j ⟨t,own⟩ K ⟨i,J,rfl,hi,hl,k1,k2,k4,k5,k6,ho⟩ hn he hr
 dsimp only at hl k1 k2 k4 k5 k6 ho
 have ht:t=[getK (.tuple []) t 0,getK (.tuple []) t 1,getK (.tuple []) t 2,getK (.tuple []) t 3,getK (.tuple []) t 4,getK (.tuple []) t 5,getK (.tuple []) t 6,getK (.tuple []) t 7,getK (.tuple []) t 8,getK (.tuple []) t 9,getK (.tuple []) t 10,getK (.tuple []) t 11,getK (.tuple []) t 12,getK (.tuple []) t 13,getK (.tuple []) t 14,getK (.tuple []) t 15,getK (.tuple []) t 16,getK (.tuple []) t 17,getK (.tuple []) t 18,getK (.tuple []) t 19,getK (.tuple []) t 20,getK (.tuple []) t 21,getK (.tuple []) t 22,getK (.tuple []) t 23,getK (.tuple []) t 24,getK (.tuple []) t 25,getK (.tuple []) t 26,getK (.tuple []) t 27,getK (.tuple []) t 28,getK (.tuple []) t 29,getK (.tuple []) t 30,getK (.tuple []) t 31,getK (.tuple []) t 32,getK (.tuple []) t 33,getK (.tuple []) t 34,getK (.tuple []) t 35,getK (.tuple []) t 36,getK (.tuple []) t 37,getK (.tuple []) t 38,getK (.tuple []) t 39,getK (.tuple []) t 40,getK (.tuple []) t 41,getK (.tuple []) t 42,getK (.tuple []) t 43,getK (.tuple []) t 44,getK (.tuple []) t 45,getK (.tuple []) t 46,getK (.tuple []) t 47,getK (.tuple []) t 48,getK (.tuple []) t 49,getK (.tuple []) t 50,getK (.tuple []) t 51,getK (.tuple []) t 52]:=expand_t hl
 simp only [k1,k2,k4,k5,k6] at ht
 generalize getK (.tuple []) t=r at ht
 subst ht
 subst ho
 by_cases h:i<p.az.l.length
 ·obtain ⟨x,hx⟩:=gx (l:=p.az.l) (i:=i) h
  have hnx:=sum_next (g:=viaC) hx
  have htot:=sum_le (g:=viaC) p.az.l i
  have hmx:viaC x<=101:=Nat.min_le_right _ _
  have hrd:rdN (p.az.l.flatMap Ac.c) (i*6+3) 1=some [x.via.v]:=(zb Ac.c_len 3 1 hx (by omega)).trans rfl
  have hw:wrapI .i64 ((i:Int)+1)=((i+1:Nat):Int):=yu (by have:=p.az.few; omega)
  have hmin:(if (101:Int)<(x.via.l.length:Int) then (101:Int) else (x.via.l.length:Int))=((viaC x:Nat):Int):=min101 _
  generalize sumC viaC (p.az.l.take i)=n at *
  cases hle:decide ((n:Int)<=100)
  ·simp only [W0,e_nilchk,e_pick,e_box,e_bslice,e_load,e_store,e_eqb,e_eqp,e_eqs,e_eqagg,e_conv,e_faddr,e_field,e_extract,e_call,e_mx,mkAt,List.replicate,look,mkv,binI,intBin,isShift,unI,fillI,cellV,Xb,Xc,Xd,reduceCtorEq,Xe,h,hle]
   refine he _ _ ?_
   simp only [W0,e_nilchk,e_pick,e_box,e_bslice,e_load,e_store,e_eqb,e_eqp,e_eqs,e_eqagg,e_conv,e_faddr,e_field,e_extract,e_call,e_mx,mkAt,List.replicate,look,mkv,binI,intBin,isShift,unI,fillI,cellV,Xb,Xc,Xd,reduceCtorEq,Xe,hle]
   have hbig:decide (sumC viaC p.az.l<=100)=false:=by
    rw [decide_eq_false_iff_not] at hle ⊢
    omega
   rw [hbig]
   all_goals simp only [zh3]
  ·have hle':n<=100:=by
    rw [decide_eq_true_iff] at hle
    omega
   have hadd:wrapI .i64 ((n:Int)+((viaC x:Nat):Int))=((n+viaC x:Nat):Int):=za4 (by omega)
   simp only [W0,e_nilchk,e_pick,e_box,e_bslice,e_load,e_store,e_eqb,e_eqp,e_eqs,e_eqagg,e_conv,e_faddr,e_field,e_extract,e_call,e_mx,mkAt,List.replicate,look,mkv,binI,intBin,isShift,unI,fillI,cellV,Xb,Xc,Xd,reduceCtorEq,Xe,h,hle,za p.az h,hrd,w101,hmin,hadd,hw]
   exact hn _ (p.az.l.length - (i+1)) (by omega) ⟨i+1,J,rfl,by omega,rfl,rfl,rfl,rfl,by rw [hnx]; rfl,rfl,rfl⟩
 ·simp only [W0,e_nilchk,e_pick,e_box,e_bslice,e_load,e_store,e_eqb,e_eqp,e_eqs,e_eqagg,e_conv,e_faddr,e_field,e_extract,e_call,e_mx,mkAt,List.replicate,look,mkv,binI,intBin,isShift,unI,fillI,cellV,Xb,Xc,Xd,reduceCtorEq,Xe,h]
  refine he _ _ ?_
  rw [zgg (by omega)]
  simp only [W0,e_nilchk,e_pick,e_box,e_bslice,e_load,e_store,e_eqb,e_eqp,e_eqs,e_eqagg,e_conv,e_faddr,e_field,e_extract,e_call,e_mx,mkAt,List.replicate,look,mkv,binI,intBin,isShift,unI,fillI,cellV,Xb,Xc,Xd,reduceCtorEq,Xe]
  rw [le100]
theorem gives_few17 (hS:NoS S) (s:Sv):Gives Ftab S 5 [.agg s.c,iv 100] (.bool (few17 s)):=by
 obtain ⟨N,hN⟩:=gives_few14 hS s.pl
 refine zH (i:=i5) (k:=1) (ns hS (by rfl)) rfl rfl zn (N+s.ft.l.length+5) (by omega) fun m hm d out=>?_
 have c1:=hN m (by omega)
 simp only [zf,Pn.c] at c1
 unfold few17
 cases h1:few14 s.pl
 ·simp only [h1] at c1
  simp only [i5,W0,e_nilchk,e_pick,e_box,e_bslice,e_load,e_store,e_eqb,e_eqp,e_eqs,e_eqagg,e_conv,e_faddr,e_field,e_extract,e_call,e_mx,mkAt,List.replicate,look,mkv,binI,intBin,isShift,unI,fillI,cellV,Xb,Xc,Xd,reduceCtorEq,Xe,Sv.c,c1,zgo]
 simp only [h1] at c1
 cases h2:decide (s.ft.l.length<=100)
 ·simp only [i5,W0,e_nilchk,e_pick,e_box,e_bslice,e_load,e_store,e_eqb,e_eqp,e_eqs,e_eqagg,e_conv,e_faddr,e_field,e_extract,e_call,e_mx,mkAt,List.replicate,look,mkv,binI,intBin,isShift,unI,fillI,cellV,Xb,Xc,Xd,reduceCtorEq,Xe,Sv.c,c1,gt100,h2,zgo]
 simp only [i5,W0,e_nilchk,e_pick,e_box,e_bslice,e_load,e_store,e_eqb,e_eqp,e_eqs,e_eqagg,e_conv,e_faddr,e_field,e_extract,e_call,e_mx,mkAt,List.replicate,look,mkv,binI,intBin,isShift,unI,fillI,cellV,Xb,Xc,Xd,reduceCtorEq,Xe,Sv.c,c1,gt100,h2]
 refine zd (fun j st=>∃ i J,j=s.ft.l.length - i/\i<=s.ft.l.length/\st.t.length=46/\getK (.tuple []) st.t 1=iv 100/\getK (.tuple []) st.t 2=.ptrM d 0 0/\getK (.tuple []) st.t 4=.bool false/\getK (.tuple []) st.t 5=iv ((sumC partC (s.ft.l.take i):Nat):Int)/\getK (.tuple []) st.t 6=iv i/\st.own=.cells [s.pl.ns.v,s.pl.az.v,s.pl.fs.v,s.ft.v]::J) s.ft.l.length (by omega) ⟨0,[.free],by omega,by omega,rfl,rfl,rfl,rfl,rfl,rfl,rfl⟩ ?_
 rintro j ⟨t,own⟩ K ⟨i,J,rfl,hi,hl,k1,k2,k4,k5,k6,ho⟩ hn he hr
 dsimp only at hl k1 k2 k4 k5 k6 ho
 have ht:t=[getK (.tuple []) t 0,getK (.tuple []) t 1,getK (.tuple []) t 2,getK (.tuple []) t 3,getK (.tuple []) t 4,getK (.tuple []) t 5,getK (.tuple []) t 6,getK (.tuple []) t 7,getK (.tuple []) t 8,getK (.tuple []) t 9,getK (.tuple []) t 10,getK (.tuple []) t 11,getK (.tuple []) t 12,getK (.tuple []) t 13,getK (.tuple []) t 14,getK (.tuple []) t 15,getK (.tuple []) t 16,getK (.tuple []) t 17,getK (.tuple []) t 18,getK (.tuple []) t 19,getK (.tuple []) t 20,getK (.tuple []) t 21,getK (.tuple []) t 22,getK (.tuple []) t 23,getK (.tuple []) t 24,getK (.tuple []) t 25,getK (.tuple []) t 26,getK (.tuple []) t 27,getK (.tuple []) t 28,getK (.tuple []) t 29,getK (.tuple []) t 30,getK (.tuple []) t 31,getK (.tuple []) t 32,getK (.tuple []) t 33,getK (.tuple []) t 34,getK (.tuple []) t 35,getK (.tuple []) t 36,getK (.tuple []) t 37,getK (.tuple []) t 38,getK (.tuple []) t 39,getK (.tuple []) t 40,getK (.tuple []) t 41,getK (.tuple []) t 42,getK (.tuple []) t 43,getK (.tuple []) t 44,getK (.tuple []) t 45]:=expand_t hl
 simp only [k1,k2,k4,k5,k6] at ht
 generalize getK (.tuple []) t=r at ht
 subst ht
 subst ho
 by_cases h:i<s.ft.l.length
 ·obtain ⟨x,hx⟩:=gx (l:=s.ft.l) (i:=i) h
  have hnx:=sum_next (g:=partC) hx
  have htot:=sum_le (g:=partC) s.ft.l i
  have hmx:partC x<=101:=Nat.min_le_right _ _
  have hrd:rdN (s.ft.l.flatMap Ft.c) (i*5+4) 1=some [x.parts.v]:=(zb Ft.c_len 4 1 hx (by omega)).trans rfl
  have hw:wrapI .i64 ((i:Int)+1)=((i+1:Nat):Int):=yu (by have:=s.ft.few; omega)
  have hmin:(if (101:Int)<(x.parts.l.length:Int) then (101:Int) else (x.parts.l.length:Int))=((partC x:Nat):Int):=min101 _
  generalize sumC partC (s.ft.l.take i)=n at *
  cases hle:decide ((n:Int)<=100)
  ·simp only [W0,e_nilchk,e_pick,e_box,e_bslice,e_load,e_store,e_eqb,e_eqp,e_eqs,e_eqagg,e_conv,e_faddr,e_field,e_extract,e_call,e_mx,mkAt,List.replicate,look,mkv,binI,intBin,isShift,unI,fillI,cellV,Xb,Xc,Xd,reduceCtorEq,Xe,h,hle]
   refine he _ _ ?_
   simp only [W0,e_nilchk,e_pick,e_box,e_bslice,e_load,e_store,e_eqb,e_eqp,e_eqs,e_eqagg,e_conv,e_faddr,e_field,e_extract,e_call,e_mx,mkAt,List.replicate,look,mkv,binI,intBin,isShift,unI,fillI,cellV,Xb,Xc,Xd,reduceCtorEq,Xe,hle]
   have hbig:decide (sumC partC s.ft.l<=100)=false:=by
    rw [decide_eq_false_iff_not] at hle ⊢
    omega
   rw [hbig]
   all_goals simp only [zh3]
  ·have hle':n<=100:=by
    rw [decide_eq_true_iff] at hle
    omega
   have hadd:wrapI .i64 ((n:Int)+((partC x:Nat):Int))=((n+partC x:Nat):Int):=za4 (by omega)
   simp only [W0,e_nilchk,e_pick,e_box,e_bslice,e_load,e_store,e_eqb,e_eqp,e_eqs,e_eqagg,e_conv,e_faddr,e_field,e_extract,e_call,e_mx,mkAt,List.replicate,look,mkv,binI,intBin,isShift,unI,fillI,cellV,Xb,Xc,Xd,reduceCtorEq,Xe,h,hle,za s.ft h,hrd,w101,hmin,hadd,hw]
   exact hn _ (s.ft.l.length - (i+1)) (by omega) ⟨i+1,J,rfl,by omega,rfl,rfl,rfl,rfl,by rw [hnx]; rfl,rfl,rfl⟩
 ·simp only [W0,e_nilchk,e_pick,e_box,e_bslice,e_load,e_store,e_eqb,e_eqp,e_eqs,e_eqagg,e_conv,e_faddr,e_field,e_extract,e_call,e_mx,mkAt,List.replicate,look,mkv,binI,intBin,isShift,unI,fillI,cellV,Xb,Xc,Xd,reduceCtorEq,Xe,h]
  refine he _ _ ?_
  rw [zgg (by omega)]
  simp only [W0,e_nilchk,e_pick,e_box,e_bslice,e_load,e_store,e_eqb,e_eqp,e_eqs,e_eqagg,e_conv,e_faddr,e_field,e_extract,e_call,e_mx,mkAt,List.replicate,look,mkv,binI,intBin,isShift,unI,fillI,cellV,Xb,Xc,Xd,reduceCtorEq,Xe]
  rw [le100]
theorem Yc {s:Sv} (h:few17 s=true):FewVia s.pl/\s.pl.az.l.length<=100/\s.ft.l.length<=100/\∀ f∈s.ft.l,f.parts.l.length<=100:=by
 simp only [few17,few14,zf6,decide_eq_true_iff] at h
 obtain ⟨⟨h1,h2,h3,h4⟩,h5,h6⟩:=h
 refine ⟨fun a ha=>?_,h2,h5,fun f hf=>?_⟩
 ·have h7:min a.via.l.length 101<=sumC viaC s.pl.az.l:=sum_mem (g:=viaC) ha
  omega
 ·have h7:min f.parts.l.length 101<=sumC partC s.ft.l:=sum_mem (g:=partC) hf
  omega
end
end
section
theorem few14_ns {p:Pn} (h:few14 p=true):p.ns.l.length<=100/\p.az.l.length<=100:=by
 simp only [few14,zf6,decide_eq_true_iff] at h
 exact ⟨h.1,h.2.1⟩
theorem few_pl {s:Sv} (h:few17 s=true):few14 s.pl=true:=by
 simp only [few17,zf6] at h
 exact h.1
theorem gives_sum {F:FuncId->Option IFn} {S:ySM} {f:FuncId} {args:List IV} {v:IV} (h:S f args=some v):∀ m,1<=m->∀ d out ownV own id,callN F S m d out ownV own id f args=some (.r,v,own):=fun m hm d out ownV own id=>by
 obtain ⟨m,rfl⟩:∃ q,m=q+1:=⟨m - 1,by omega⟩
 simp only [callN,h]
end
section
theorem hasI_mem {l:List Int} {n:Int} (h:hasI l n=true):n∈l:=by
 unfold hasI at h
 obtain ⟨x,hx,he⟩:=zh5.1 h
 have:n=x:=by simpa using he
 rw [this]
 exact hx
theorem node_some {p:Pn} {n:Int} (h:hasI (p.ns.l.map Nd.id) n=true):(nodeF p n).isSome=true:=by
 obtain ⟨x,hx,rfl⟩:=zgx.1 (hasI_mem h)
 unfold nodeF
 rw [List.find?_isSome]
 exact ⟨x,hx,by simp⟩
def allPts (p:Pn):List Pt:=p.ns.l.map Nd.at'++p.az.l.flatMap fun a=>a.via.l
end
section
section
variable {S:ySM}
def rngR (p:Pn):Bool:=!(idsL p false++idsL p true++p.fs.l).any badId&&!(allPts p).any badPt
end
end
section
noncomputable def pairR (ns:List Nd) (s t:Sp):Bool:=bif s.id==t.id then apartB s t else joinedB ns s t
noncomputable def planR (ns:List Nd) (l:List Rg):Bool:=!(l.zipIdx.any fun ti=>!aloneB ns ti.1.sp||(l.take ti.2).any fun s=>!pairR ns s.sp ti.1.sp)
end
section
def lineOk (p:Pn) (a:Ac):Bool:=(nodeF p a.fr).isSome&&(nodeF p a.to).isSome
def faceOk (p:Pn) (n:Int):Bool:=hasI p.fs.l n||n==0
noncomputable def ref3 (p:Pn):Int:=bif p.az.l.any (fun a=>!lineOk p a) then 7 else bif p.az.l.any (fun a=>!faceOk p a.l||!faceOk p a.r) then 12 else bif planR p.ns.l (rgsL p) then 0 else 11
noncomputable def ref2 (p:Pn):Int:=bif !rngR p then 2 else bif dupPt p.ns.l then 8 else ref3 p
noncomputable def refE (p:Pn):Int:=bif limI p||limV p then 3 else bif !ordB p then 10 else ref2 p
end
section
theorem zci {u v B:Int} (h1:-B<=u) (h2:u<=B) (h3:-B<=v) (h4:v<=B):-(B*B)<=u*v/\u*v<=B*B:=by
 have a1:=Int.mul_nonneg (show 0<=B - u by omega) (show 0<=B+v by omega)
 have a2:=Int.mul_nonneg (show 0<=B+u by omega) (show 0<=B - v by omega)
 have a3:=Int.mul_nonneg (show 0<=B - u by omega) (show 0<=B - v by omega)
 have a4:=Int.mul_nonneg (show 0<=B+u by omega) (show 0<=B+v by omega)
 constructor <;> grind
theorem Zh (x y:Int):x<y∨y<=x:=by omega
theorem zA {x:Int} (h1:-9223372036854775808<=x) (h2:x<9223372036854775808):wrapI .i64 x=x:=by
 rw [zC]
 exact IntWalk.i64_in _ (by constructor <;> omega)
theorem ZX {p:Pt}:nearP p=true↔(-2097152<=p.x/\p.x<=2097152)/\(-2097152<=p.y/\p.y<=2097152):=by
 simp only [nearP,zhs,zhz,decide_eq_false_iff_not,Int.not_lt]
 omega
def cr (a b c d:Pt):Int:=(b.x - a.x)*(d.y - c.y) - (b.y - a.y)*(d.x - c.x)
def dot (a b c d:Pt):Int:=(b.x - a.x)*(d.x - c.x)+(b.y - a.y)*(d.y - c.y)
section
variable {a b c d p:Pt}
theorem zx (ha:nearP a=true) (hb:nearP b=true) (hc:nearP c=true) (hd:nearP d=true):crR a b c d=cr a b c d:=by
 rw [ZX] at ha hb hc hd
 unfold crR cr
 rw [zA (x:=b.x - a.x) (by omega) (by omega),zA (x:=d.y - c.y) (by omega) (by omega),zA (x:=b.y - a.y) (by omega) (by omega),zA (x:=d.x - c.x) (by omega) (by omega)]
 have h1:=zci (B:=4194304) (u:=b.x - a.x) (v:=d.y - c.y) (by omega) (by omega) (by omega) (by omega)
 have h2:=zci (B:=4194304) (u:=b.y - a.y) (v:=d.x - c.x) (by omega) (by omega) (by omega) (by omega)
 generalize (b.x - a.x)*(d.y - c.y)=s at *
 generalize (b.y - a.y)*(d.x - c.x)=t at *
 rw [zA (x:=s) (by omega) (by omega),zA (x:=t) (by omega) (by omega),zA (by omega) (by omega)]
theorem Yj (ha:nearP a=true) (hb:nearP b=true) (hc:nearP c=true) (hd:nearP d=true):-35184372088832<=cr a b c d/\cr a b c d<=35184372088832:=by
 rw [ZX] at ha hb hc hd
 unfold cr
 have h1:=zci (B:=4194304) (u:=b.x - a.x) (v:=d.y - c.y) (by omega) (by omega) (by omega) (by omega)
 have h2:=zci (B:=4194304) (u:=b.y - a.y) (v:=d.x - c.x) (by omega) (by omega) (by omega) (by omega)
 generalize (b.x - a.x)*(d.y - c.y)=s at *
 generalize (b.y - a.y)*(d.x - c.x)=t at *
 omega
theorem dotR_eq (ha:nearP a=true) (hb:nearP b=true) (hc:nearP c=true) (hd:nearP d=true):dotR a b c d=dot a b c d:=by
 rw [ZX] at ha hb hc hd
 unfold dotR dot
 rw [zA (x:=b.x - a.x) (by omega) (by omega),zA (x:=d.x - c.x) (by omega) (by omega),zA (x:=b.y - a.y) (by omega) (by omega),zA (x:=d.y - c.y) (by omega) (by omega)]
 have h1:=zci (B:=4194304) (u:=b.x - a.x) (v:=d.x - c.x) (by omega) (by omega) (by omega) (by omega)
 have h2:=zci (B:=4194304) (u:=b.y - a.y) (v:=d.y - c.y) (by omega) (by omega) (by omega) (by omega)
 generalize (b.x - a.x)*(d.x - c.x)=s at *
 generalize (b.y - a.y)*(d.y - c.y)=t at *
 rw [zA (x:=s) (by omega) (by omega),zA (x:=t) (by omega) (by omega),zA (by omega) (by omega)]
theorem zab (ha:nearP a=true) (hb:nearP b=true) (hc:nearP c=true):twI a b c=cr a b a c:=by
 rw [← zx ha hb ha hc]
 rfl
theorem ZG:ptE a b=true↔a=b:=by
 cases a
 cases b
 simp [ptE]
theorem mn_le {u v z:Int}:mnI u v<=z↔u<=z∨v<=z:=by
 unfold mnI
 split <;> omega
theorem le_mx {u v z:Int}:z<=mxI u v↔z<=u∨z<=v:=by
 unfold mxI
 split <;> omega
theorem betw {u v z:Int}:(u<=z∨v<=z)/\(z<=u∨z<=v)↔(z - u)*(z - v)<=0:=by
 constructor
 ·rintro ⟨h1,h2⟩
  rcases Int.le_total u z with h | h <;> rcases Int.le_total v z with g | g
  ·rcases h2 with h2 | h2
   ·rw [show z - u=0 by omega,Int.zero_mul]; omega
   ·rw [show z - v=0 by omega,Int.mul_zero]; omega
  ·exact zho (by omega) (by omega)
  ·exact zii (by omega) (by omega)
  ·rcases h1 with h1 | h1
   ·rw [show z - u=0 by omega,Int.zero_mul]; omega
   ·rw [show z - v=0 by omega,Int.mul_zero]; omega
 ·intro h
  constructor
  ·rcases Zh z u with g | g
   ·rcases Zh z v with k | k
    ·have:=Int.mul_pos_of_neg_of_neg (show z - u<0 by omega) (show z - v<0 by omega)
     omega
    ·exact .inr k
   ·exact .inl g
  ·rcases Zh u z with g | g
   ·rcases Zh v z with k | k
    ·have:=Int.mul_pos (show 0<z - u by omega) (show 0<z - v by omega)
     omega
    ·exact .inr k
   ·exact .inl g
theorem on_same (ha:nearP a=true) (hb:nearP b=true) (hp:nearP p=true):onI a b p=onR a b p:=by
 unfold onI onR
 rw [zab ha hb hp,zx ha hb ha hp,dotR_eq ha hp hb hp]
 have hall:[a,b,p].all nearP=true:=by simp [ha,hb,hp]
 rw [hall,zhj,zhj]
 cases h0:cr a b a p==0
 ·simp
 ·have h0:cr a b a p=0:=by simpa using h0
  rw [zhj,zhj,zhi]
  simp only [zf6,decide_eq_true_eq,mn_le,le_mx]
  have e:dot a p b p=(p.x - a.x)*(p.x - b.x)+(p.y - a.y)*(p.y - b.y):=rfl
  rw [e]
  have hx:=@betw a.x b.x p.x
  have hy:=@betw a.y b.y p.y
  unfold cr at h0
  constructor
  ·rintro ⟨h1,h2,h3,h4⟩
   have:=hx.1 ⟨h1,h2⟩
   have:=hy.1 ⟨h3,h4⟩
   omega
  ·intro h
   generalize hX:p.x - a.x=X at *
   generalize hX2:p.x - b.x=X2 at *
   generalize hY:p.y - a.y=Y at *
   generalize hY2:p.y - b.y=Y2 at *
   have hc:X2*Y=Y2*X:=by
    have e1:b.x - a.x=X - X2:=by omega
    have e2:b.y - a.y=Y - Y2:=by omega
    rw [e1,e2] at h0
    grind
   have sq:(X*X2)*(Y*Y2)=(X2*Y)*(X2*Y):=by
    have:(X*X2)*(Y*Y2)=(X2*Y)*(Y2*X):=by grind
    rw [this,← hc]
   have hsq:0<=(X2*Y)*(X2*Y):=by
    rcases Int.le_total 0 (X2*Y) with h | h
    ·exact Int.mul_nonneg h h
    ·exact Int.mul_nonneg_of_nonpos_of_nonpos h h
   generalize X*X2=s at *
   generalize Y*Y2=w at *
   have hs:s<=0:=by
    rcases Zh 0 s with g | g
    ·have:=Int.mul_neg_of_pos_of_neg g (show w<0 by omega)
     omega
    ·exact g
   have hw:w<=0:=by
    rcases Zh 0 w with g | g
    ·have:=Int.mul_neg_of_neg_of_pos (show s<0 by omega) g
     omega
    ·exact g
   have a1:=hx.2 hs
   have a2:=hy.2 hw
   exact ⟨a1.1,a1.2,a2.1,a2.2⟩
theorem zdo (ha:nearP a=true) (hb:nearP b=true) (hc:nearP c=true):sideI a b c=if 0<cr a b a c then 1 else if cr a b a c<0 then -1 else 0:=by
 have hall:[a,b,c].all nearP=true:=by simp [ha,hb,hc]
 unfold sideI twG
 rw [hall,cond_true,zab ha hb hc]
 split
 ·rw [decide_eq_true ‹_›,cond_true]
 ·rw [decide_eq_false ‹_›,cond_false]
  split
  ·rw [decide_eq_true ‹_›,cond_true]
  ·rw [decide_eq_false ‹_›,cond_false]
def sgn (x:Int):Int:=if 0<x then 1 else if x<0 then -1 else 0
theorem sgn_mul {x y:Int}:wrapI .i64 (sgn x*sgn y)<=0↔(x<=0/\0<=y)∨(0<=x/\y<=0):=by
 have hb:-1<=sgn x*sgn y/\sgn x*sgn y<=1:=by
  unfold sgn
  split <;> split <;> (try split) <;> (try split) <;> omega
 rw [zA (by omega) (by omega)]
 unfold sgn
 split <;> split <;> (try split) <;> (try split) <;> omega
theorem meet_same (ha:nearP a=true) (hb:nearP b=true) (hc:nearP c=true) (hd:nearP d=true) (hab:ptE a b=false) (hcd:ptE c d=false):meetI a b c d=meetR a b c d:=by
 have hall:[a,b,c,d].all nearP=true:=by simp [ha,hb,hc,hd]
 unfold meetI meetR meetQ
 rw [hall,cond_true,cond_true,hab,cond_false,hcd,cond_false,zgo,cond_false]
 simp only [zx ha hb hc hd,zx ha hb ha hc,zx ha hb ha hd,zx hc hd hc ha,zx hc hd hc hb,zx ha hc hc hd,zx ha hc ha hb]
 have e1:sideI a b c=sgn (cr a b a c):=zdo ha hb hc
 have e2:sideI a b d=sgn (cr a b a d):=zdo ha hb hd
 have e3:sideI c d a=sgn (cr c d c a):=zdo hc hd ha
 have e4:sideI c d b=sgn (cr c d c b):=zdo hc hd hb
 rw [e1,e2,e3,e4]
 have n1:cr a b a d=cr a b a c+cr a b c d:=by unfold cr; grind
 have n2:cr c d c b=cr c d c a - cr a b c d:=by unfold cr; grind
 have n3:cr a c c d=cr c d c a:=by unfold cr; grind
 have n4:cr a c a b=- cr a b a c:=by unfold cr; grind
 have z1:=Yj ha hb hc hd
 have z2:=Yj ha hb ha hc
 have z3:=Yj hc hd hc ha
 have hs0:∀ x:Int,(sgn x==0)=(x==0):=fun x=>by
  unfold sgn
  split
  ·simp; omega
  ·split
   ·simp; omega
   ·have:x=0:=by omega
    subst this
    rfl
 have hcol:cr a b c d=0->cr a b a c=0->cr c d c a=0:=fun h1 h2=>by
  have hne:¬ (b.x - a.x=0/\b.y - a.y=0):=by
   intro h
   have:a=b:=by
    cases a; cases b
    simp only [Pt.mk.injEq] at *
    constructor <;> omega
   rw [ZG.2 this] at hab
   cases hab
  unfold cr at *
  generalize b.x - a.x=e at *
  generalize b.y - a.y=f at *
  have k1:e*((d.x - c.x)*(a.y - c.y) - (d.y - c.y)*(a.x - c.x))=0:=by grind
  have k2:f*((d.x - c.x)*(a.y - c.y) - (d.y - c.y)*(a.x - c.x))=0:=by grind
  rcases Int.mul_eq_zero.1 k1 with h | h
  ·rcases Int.mul_eq_zero.1 k2 with g | g
   ·exact absurd ⟨h,g⟩ hne
   ·exact g
  ·exact h
 rw [hs0,hs0,n3,n4,n2,n1]
 generalize cr a b c d=n at *
 generalize cr a b a c=u at *
 generalize cr c d c a=s at *
 clear e1 e2 e3 e4 n1 n2 n3 n4
 have hsg:∀ x y:Int,decide (wrapI .i64 (sgn x*sgn y)<=0)=decide ((x<=0/\0<=y)∨(0<=x/\y<=0)):=fun x y=>decide_eq_decide.2 sgn_mul
 rw [hsg,hsg]
 by_cases h0:n=0
 ·subst h0
  rw [show ((0:Int)==0)=true from rfl,cond_true]
  by_cases hu:u=0
  ·subst hu
   have:=hcol rfl rfl
   subst this
   simp
  ·rw [show (u==0)=false by simpa using hu,zgo,cond_false]
   have q1:decide ((u<=0/\0<=u+0)∨(0<=u/\u+0<=0))=false:=by
    rw [decide_eq_false_iff_not]
    omega
   have q2:(u != 0)=true:=by simpa using hu
   rw [q1,q2,zgo,zhu,cond_false,cond_true]
 ·rw [show (n==0)=false by simpa using h0,cond_false]
  have q0:((u==0)&&(u+n==0))=false:=by
   cases hz:u==0
   ·rfl
   ·have:u=0:=by simpa using hz
    subst this
    rw [zhj]
    simp
    omega
  rw [q0,cond_false]
  unfold inR
  by_cases hn:n<0
  ·rw [decide_eq_true hn,cond_true,zA (x:=0 - n) (by omega) (by omega),zA (x:=0 - s) (by omega) (by omega),zA (x:=0 - -u) (by omega) (by omega)]
   congr 1
   rw [zhi]
   simp only [zf6,decide_eq_true_eq]
   omega
  ·rw [decide_eq_false hn,cond_false]
   congr 1
   rw [zhi]
   simp only [zf6,decide_eq_true_eq]
   omega
end
end
section
section
variable {a b c d:Pt}
theorem zdp {u v:Pt} (h:bfP u v=true):bfP v u=false:=by
 simp only [bfP,zha,zf6,decide_eq_true_eq,beq_iff_eq] at h
 simp only [bfP,zhz,Bool.and_eq_false_iff,decide_eq_false_iff_not,beq_eq_false_iff_ne]
 omega
theorem bf_eq {u v:Pt} (h:bfP u v=false) (h2:bfP v u=false):u=v:=by
 cases u
 cases v
 simp only [bfP,zhz,Bool.and_eq_false_iff,decide_eq_false_iff_not,beq_eq_false_iff_ne] at h h2
 simp only [Pt.mk.injEq]
 omega
theorem shared_comm:sharedI a b c d=sharedI c d a b:=by
 unfold sharedI
 have e1:(bif bfP (swP a b).1 (swP c d).1 then (swP c d).1 else (swP a b).1)=(bif bfP (swP c d).1 (swP a b).1 then (swP a b).1 else (swP c d).1):=by
  cases h:bfP (swP a b).1 (swP c d).1 <;> cases h2:bfP (swP c d).1 (swP a b).1
  ·exact bf_eq h h2
  ·rfl
  ·rfl
  ·rw [zdp h] at h2
   cases h2
 have e2:(bif bfP (swP c d).2 (swP a b).2 then (swP c d).2 else (swP a b).2)=(bif bfP (swP a b).2 (swP c d).2 then (swP a b).2 else (swP c d).2):=by
  cases h:bfP (swP c d).2 (swP a b).2 <;> cases h2:bfP (swP a b).2 (swP c d).2
  ·exact bf_eq h2 h
  ·rfl
  ·rfl
  ·rw [zdp h] at h2
   cases h2
 rw [e1,e2]
theorem meet_comm (ha:nearP a=true) (hb:nearP b=true) (hc:nearP c=true) (hd:nearP d=true) (hab:ptE a b=false) (hcd:ptE c d=false):meetR a b c d=meetR c d a b:=by
 have h1:[a,b,c,d].all nearP=true:=by simp [ha,hb,hc,hd]
 have h2:[c,d,a,b].all nearP=true:=by simp [ha,hb,hc,hd]
 unfold meetR meetQ
 rw [h1,h2,cond_true,cond_true,hab,hcd,zgo,cond_false,zgo,cond_false]
 simp only [zx ha hb hc hd,zx ha hb ha hc,zx ha hb ha hd,zx hc hd hc ha,zx hc hd hc hb,zx ha hc hc hd,zx ha hc ha hb,zx hc hd ha hb,zx hc ha ha hb,zx hc ha hc hd]
 have n1:cr c d a b=- cr a b c d:=by unfold cr; grind
 have n2:cr c a a b=- cr a c a b:=by unfold cr; grind
 have n3:cr c a c d=- cr a c c d:=by unfold cr; grind
 have z1:=Yj ha hb hc hd
 have z2:=Yj ha hc ha hb
 have z3:=Yj ha hc hc hd
 rw [n1,n2,n3,shared_comm]
 generalize cr a b c d=n at *
 generalize cr a c a b=t at *
 generalize cr a c c d=s at *
 have hor:((cr a b a c != 0)||((cr a b a d != 0)||((cr c d c a != 0)||(cr c d c b != 0))))=((cr c d c a != 0)||((cr c d c b != 0)||((cr a b a c != 0)||(cr a b a d != 0)))):=by
  cases (cr a b a c != 0) <;> cases (cr a b a d != 0) <;> cases (cr c d c a != 0) <;> cases (cr c d c b != 0) <;> rfl
 rw [hor]
 have e0:(-n==0)=(n==0):=by
  rw [zhi]
  simp only [beq_iff_eq]
  omega
 rw [e0]
 cases hn0:n==0
 ·have hn0:n≠0:=by simpa using hn0
  rw [cond_false,cond_false]
  rw [zA (x:=0 - n) (by omega) (by omega),zA (x:=0 - t) (by omega) (by omega),zA (x:=0 - s) (by omega) (by omega),zA (x:=0 - -n) (by omega) (by omega),zA (x:=0 - -t) (by omega) (by omega),zA (x:=0 - -s) (by omega) (by omega)]
  unfold inR
  by_cases hn:n<0
  ·rw [decide_eq_true hn,decide_eq_false (show ¬ -n<0 by omega),cond_true,cond_false]
   congr 1
   rw [zhi]
   simp only [zf6,decide_eq_true_eq]
   omega
  ·rw [decide_eq_false hn,decide_eq_true (show -n<0 by omega),cond_true,cond_false]
   congr 1
   rw [zhi]
   simp only [zf6,decide_eq_true_eq]
   omega
 ·rfl
theorem meet_apart (ha:nearP a=true) (hb:nearP b=true) (hc:nearP c=true) (hd:nearP d=true) (hab:ptE a b=false) (hcd:ptE c d=false) (h:mxI a.x b.x<mnI c.x d.x):meetR a b c d=0:=by
 have x1:a.x<=mxI a.x b.x:=le_mx.2 (.inl (Int.le_refl _))
 have x2:b.x<=mxI a.x b.x:=le_mx.2 (.inr (Int.le_refl _))
 have x3:mnI c.x d.x<=c.x:=mn_le.2 (.inl (Int.le_refl _))
 have x4:mnI c.x d.x<=d.x:=mn_le.2 (.inr (Int.le_refl _))
 generalize mxI a.x b.x=M at *
 generalize mnI c.x d.x=m at *
 have h1:[a,b,c,d].all nearP=true:=by simp [ha,hb,hc,hd]
 unfold meetR meetQ
 rw [h1,cond_true,hab,zgo,cond_false]
 simp only [zx ha hb hc hd,zx ha hb ha hc,zx ha hb ha hd,zx hc hd hc ha,zx hc hd hc hb,zx ha hc hc hd,zx ha hc ha hb]
 have z1:=Yj ha hb hc hd
 have z2:=Yj ha hc ha hb
 have z3:=Yj ha hc hc hd
 have id:cr a b c d*a.x+cr a c c d*(b.x - a.x)=cr a b c d*c.x+cr a c a b*(d.x - c.x):=by unfold cr; grind
 cases hn0:cr a b c d==0
 ·have hn0:cr a b c d≠0:=by simpa using hn0
  rw [cond_false]
  generalize cr a b c d=n at *
  generalize cr a c a b=t at *
  generalize cr a c c d=s at *
  have key:∀ n s t:Int,0<n->0<=s->s<=n->0<=t->t<=n->n*a.x+s*(b.x - a.x)=n*c.x+t*(d.x - c.x)->False:=fun n s t hn hs1 hs2 ht1 ht2 e=>by
   have p1:=Int.mul_nonneg (show 0<=n - s by omega) (show 0<=M - a.x by omega)
   have p2:=Int.mul_nonneg hs1 (show 0<=M - b.x by omega)
   have p3:=Int.mul_nonneg (show 0<=n - t by omega) (show 0<=c.x - m by omega)
   have p4:=Int.mul_nonneg ht1 (show 0<=d.x - m by omega)
   have p5:=Int.mul_pos hn (show 0<m - M by omega)
   grind
  unfold inR
  rw [zA (x:=0 - n) (by omega) (by omega),zA (x:=0 - t) (by omega) (by omega),zA (x:=0 - s) (by omega) (by omega)]
  by_cases hn:n<0
  ·rw [decide_eq_true hn,cond_true]
   have:(decide (0<=0 - s)&&(decide (0 - s<=0 - n)&&(decide (0<=0 - t)&&decide (0 - t<=0 - n))))=false:=by
    rw [← zh8]
    simp only [zf6,decide_eq_true_eq]
    rintro ⟨g1,g2,g3,g4⟩
    refine key (0 - n) (0 - s) (0 - t) (by omega) g1 g2 g3 g4 ?_
    rw [Int.sub_mul,Int.sub_mul,Int.sub_mul,Int.sub_mul]
    omega
   rw [this,cond_false]
  ·rw [decide_eq_false hn,cond_false]
   have:(decide (0<=s)&&(decide (s<=n)&&(decide (0<=t)&&decide (t<=n))))=false:=by
    rw [← zh8]
    simp only [zf6,decide_eq_true_eq]
    rintro ⟨g1,g2,g3,g4⟩
    exact key n s t (by omega) g1 g2 g3 g4 id
   rw [this,cond_false]
 ·rw [cond_true]
  have hsh:sharedI a b c d=0:=by
   unfold sharedI
   have sx:∀ u v:Pt,u.x<=M->v.x<=M->(swP u v).1.x<=M/\(swP u v).2.x<=M:=fun u v h1 h2=>by
    unfold swP
    cases bfP v u
    ·exact ⟨h1,h2⟩
    ·exact ⟨h2,h1⟩
   have sy:∀ u v:Pt,m<=u.x->m<=v.x->m<=(swP u v).1.x/\m<=(swP u v).2.x:=fun u v h1 h2=>by
    unfold swP
    cases bfP v u
    ·exact ⟨h1,h2⟩
    ·exact ⟨h2,h1⟩
   have s1:=sx a b x1 x2
   have s2:=sy c d x3 x4
   generalize swP a b=p at *
   generalize swP c d=q at *
   have e1:bfP p.1 q.1=true:=by simp only [bfP,zha,decide_eq_true_eq]; left; omega
   have e2:bfP q.2 p.2=false:=zdp (by simp only [bfP,zha,decide_eq_true_eq]; left; omega)
   have e3:ptE q.1 p.2=false:=by simp only [ptE,Bool.and_eq_false_iff,beq_eq_false_iff_ne]; left; omega
   have e4:bfP q.1 p.2=false:=zdp (by simp only [bfP,zha,decide_eq_true_eq]; left; omega)
   simp only [e1,e2,e3,e4,cond_true,cond_false]
  rw [hsh]
  cases (cr a b a c != 0||(cr a b a d != 0||(cr c d c a != 0||cr c d c b != 0))) <;> rfl
end
end
section
theorem yx {α:Type} {f:α->Int}:∀ {l:List α} {x:α},(l.map f).Pairwise (·<·)->x∈l->l.find? (fun y=>f y==f x)=some x
 | y::l,x,h,hx=>by
  rw [zg3,zib] at h
  rw [List.find?_cons]
  rcases zgf.1 hx with rfl | hx
  ·simp
  ·have hlt:=h.1 (f x) (List.mem_map_of_mem hx)
   rw [show (f y==f x)=false by rw [beq_eq_false_iff_ne]; omega]
   exact yx h.2 hx
theorem Zv {α:Type} {f:α->Int} {l:List α} {x y:α} (h:(l.map f).Pairwise (·<·)) (hx:x∈l) (hy:y∈l) (he:f x=f y):x=y:=by
 have h1:=yx h hx
 have h2:=yx h hy
 rw [he,h2] at h1
 exact (zgy h1).symm
structure Nice (p:Pn):Prop where
 nid:(p.ns.l.map Nd.id).Pairwise (·<·)
 aid:(p.az.l.map Ac.id).Pairwise (·<·)
 npt:∀ x∈p.ns.l,nearP x.at'=true
 vpt:∀ a∈p.az.l,∀ q∈a.via.l,nearP q=true
 fr:∀ a∈p.az.l,(nodeF p a.fr).isSome=true
 too:∀ a∈p.az.l,(nodeF p a.to).isSome=true
theorem yf {p:Pn} {id:Int} (h:(nodeF p id).isSome=true):nodeD p id∈p.ns.l/\(nodeD p id).id=id:=by
 obtain ⟨x,hx⟩:=Option.isSome_iff_exists.1 h
 have:nodeD p id=x:=by unfold nodeD; rw [hx]; rfl
 rw [this]
 have h2:=List.find?_some hx
 exact ⟨List.mem_of_find?_eq_some hx,by simpa using h2⟩
theorem Nice.last {p:Pn} (h:Nice p) {x:Nd} (hx:x∈p.ns.l):lastP p.ns.l x.id=x.at':=by
 unfold lastP
 cases hf:p.ns.l.reverse.find? fun y=>x.id==y.id with
 | none =>
  have:=List.find?_eq_none.1 hf x (by simpa using hx)
  simp at this
 | some y =>
  have h1:y∈p.ns.l:=by simpa using List.mem_of_find?_eq_some hf
  have h2:=List.find?_some hf
  have:x=y:=Zv h.nid hx h1 (by simpa using h2)
  rw [this]
  rfl
theorem Nice.path {p:Pn} (h:Nice p) {a:Ac} (ha:a∈p.az.l):pathOk p a.id=true/\pathL p a.id=lineR p a:=by
 have h1:arcF p a.id=some a:=yx h.aid ha
 have h2:arcD p a.id=a:=by unfold arcD; rw [h1]; rfl
 constructor
 ·unfold pathOk
  rw [h2,h1,h.fr a ha,h.too a ha]
  rfl
 ·unfold pathL lineR
  rw [h2]
def spsN (p:Pn):List Sp:=p.az.l.flatMap fun a=>spsOf a (lineR p a)
theorem Yd {α β:Type} {f g:α->List β}:∀ {l:List α},(∀ x∈l,f x=g x)->l.flatMap f=l.flatMap g
 | [],_=>rfl
 | x::l,h=>by
  rw [zgj,zgj,h x (zgi ..),Yd fun y hy=>h y (zgn _ hy)]
theorem Nice.sps {p:Pn} (h:Nice p):spsL p=spsN p:=Yd fun a ha=>by rw [(h.path ha).2]
theorem rgs_sps (p:Pn):(rgsL p).map Rg.sp=spsN p:=by
 unfold rgsL spsN
 rw [List.map_flatMap]
 refine Yd fun a _=>?_
 unfold rgsOf spsOf
 rw [List.map_map]
 rfl
theorem ZY {p:Pn} (h:Nice p) {a:Ac} (ha:a∈p.az.l):∀ q∈lineR p a,nearP q=true:=fun q hq=>by
 unfold lineR at hq
 rcases zgf.1 hq with rfl | hq
 ·exact h.npt _ (yf (h.fr a ha)).1
 ·rcases zhf.1 hq with hq | hq
  ·exact h.vpt a ha q hq
  ·rw [zhe] at hq
   subst hq
   exact h.npt _ (yf (h.too a ha)).1
theorem zF {p:Pn} {a:Ac}:2<=(lineR p a).length:=by simp [lineR]
theorem y9 {p:Pn} {t:Sp} (ht:t∈spsN p):∃ a∈p.az.l,∃ k,k<(lineR p a).length - 1/\t=⟨a.id,a.fr,a.to,k,(lineR p a).length - 1,(lineR p a).getD k zPt,(lineR p a).getD (k+1) zPt⟩:=by
 obtain ⟨a,ha,h⟩:=zh1.1 ht
 obtain ⟨k,hk,rfl⟩:=zgx.1 h
 exact ⟨a,ha,k,zht.1 hk,rfl⟩
theorem Yk {p:Pn} {a:Ac} (ha:a∈p.az.l) {k:Nat} (hk:k<(lineR p a).length - 1):(⟨a.id,a.fr,a.to,k,(lineR p a).length - 1,(lineR p a).getD k zPt,(lineR p a).getD (k+1) zPt⟩:Sp)∈spsN p :=
 zh1.2 ⟨a,ha,zgx.2 ⟨k,zht.2 hk,rfl⟩⟩
theorem zB {l:List Pt} {k:Nat} (hk:k<l.length):l.getD k zPt∈l:=by
 rw [zf8,zf0 hk]
 exact zgt hk
structure GoodS (s:Sp):Prop where
 a:nearP s.A=true
 b:nearP s.B=true
 ne:ptE s.A s.B=false
noncomputable def pairS (ns:List Nd) (s u:Sp):Bool:=bif s.id==u.id then (bif decide (u.k<s.k) then apartB u s else apartB s u) else joinedB ns s u
def RelS (ns:List Nd) (s u:Sp):Prop:=GoodS s->GoodS u->(s.id=u.id->s.k≠u.k)->pairS ns s u=true
theorem zdq {s u:Sp} (h1:GoodS s) (h2:GoodS u):s.meetR u=u.meetR s:=meet_comm h1.a h1.b h2.a h2.b h1.ne h2.ne
theorem zbl {α:Type} {f g:α->Bool}:∀ {l:List α},(∀ x∈l,f x=g x)->l.any f=l.any g
 | [],_=>rfl
 | x::l,h=>by rw [List.any_cons,List.any_cons,h x (zgi ..),zbl fun y hy=>h y (zgn _ hy)]
theorem joined_comm {ns:List Nd} {s u:Sp} (h1:GoodS s) (h2:GoodS u):joinedB ns s u=joinedB ns u s:=by
 unfold joinedB
 rw [zdq h1 h2]
 have:ns.any (joinNd s u)=ns.any (joinNd u s):=zbl fun x _=>by
  unfold joinNd
  cases endS s x.id <;> cases endS u x.id <;> cases onR s.A s.B x.at' <;> cases onR u.A u.B x.at' <;> rfl
 rw [this]
theorem rel_symm {ns:List Nd} {s u:Sp} (h:RelS ns s u):RelS ns u s:=fun h1 h2 h3=>by
 have h4:=h h2 h1 fun he=>Ne.symm (h3 he.symm)
 unfold pairS at h4 ⊢
 cases hid:s.id==u.id
 ·rw [hid,cond_false] at h4
  rw [show (u.id==s.id)=false by rw [beq_eq_false_iff_ne] at hid ⊢; exact Ne.symm hid,cond_false,joined_comm h1 h2]
  exact h4
 ·rw [hid,cond_true] at h4
  have he:s.id=u.id:=by simpa using hid
  rw [show (u.id==s.id)=true by rw [he]; simp,cond_true]
  have hk:=h3 he.symm
  by_cases hlt:u.k<s.k
  ·rw [decide_eq_true hlt,cond_true] at h4
   rw [decide_eq_false (show ¬ s.k<u.k by omega),cond_false]
   exact h4
  ·rw [decide_eq_false hlt,cond_false] at h4
   rw [decide_eq_true (show s.k<u.k by omega),cond_true]
   exact h4
theorem zfl (s u:Sg) (c:Int):sameRes c s u=bif (u.k:Int)==((s.k+1:Nat):Int) then c==1 else bif (s.k:Int)==0&&((u.k:Int)==((u.sp.n - 1:Nat):Int)&&s.a.fr==s.a.to) then c==1 else c==0:=by
 unfold sameRes
 have e1:(((s.k+1:Nat):Int)==(u.k:Int))=((u.k:Int)==((s.k+1:Nat):Int)):=by
  rw [zhi]
  simp only [beq_iff_eq]
  exact eq_comm
 have e2:u.path.l.length - 2=u.sp.n - 1:=by show _=u.path.l.length - 1 - 1; omega
 rw [e1,e2]
 cases (u.k:Int)==((s.k+1:Nat):Int) <;> cases s.a.fr==s.a.to <;> cases (s.k:Int)==0 <;> cases (u.k:Int)==((u.sp.n - 1:Nat):Int) <;> rfl
theorem comp_pair {p:Pn} (hN:Nice p) {L:List (Int × Pt)} (hL:∀ id,lkP L id=lastP p.ns.l id) {s u:Sg} (h1:GoodS s.sp) (h2:GoodS u.sp) (hf:(nodeF p s.a.fr).isSome=true) (ht:(nodeF p s.a.to).isSome=true):compB L s u=pairS p.ns.l s.sp u.sp:=by
 have hm:s.meet u=s.sp.meetR u.sp:=meet_same h1.a h1.b h2.a h2.b h1.ne h2.ne
 unfold compB pairS
 rw [hm]
 show (bif s.a.id==u.a.id then _ else _)=bif s.a.id==u.a.id then _ else _
 cases hid:s.a.id==u.a.id
 ·rw [cond_false,cond_false]
  unfold joinedB
  cases h1c:s.sp.meetR u.sp==1
  ·rfl
  ·rw [cond_true,cond_true]
   have on1:∀ x∈p.ns.l,onI s.p0 s.p1 x.at'=onR s.sp.A s.sp.B x.at':=fun x hx=>on_same h1.a h1.b (hN.npt x hx)
   have on2:∀ x∈p.ns.l,onI u.p0 u.p1 x.at'=onR u.sp.A u.sp.B x.at':=fun x hx=>on_same h2.a h2.b (hN.npt x hx)
   have hat:∀ x∈p.ns.l,atNode L s u x.id=(endS u.sp x.id&&(onR s.sp.A s.sp.B x.at'&&onR u.sp.A u.sp.B x.at')):=fun x hx=>by
    unfold atNode endS
    rw [hL,hN.last hx,on1 x hx,on2 x hx]
    have e:∀ y:Int,(x.id==y)=(y==x.id):=fun y=>by
     rw [zhi]
     simp only [beq_iff_eq]
     exact eq_comm
    rw [e,e]
    rfl
   rw [zhi]
   constructor
   ·intro h
    rcases zha _ _ ▸ h with h | h
    ·obtain ⟨m1,m2⟩:=yf hf
     rw [← m2,hat _ m1] at h
     refine zh5.2 ⟨_,m1,?_⟩
     unfold joinNd
     rw [h,Bool.and_true]
     show (s.a.fr==_||_)=true
     rw [m2]
     simp
    ·obtain ⟨m1,m2⟩:=yf ht
     rw [← m2,hat _ m1] at h
     refine zh5.2 ⟨_,m1,?_⟩
     unfold joinNd
     rw [h,Bool.and_true]
     show (_||s.a.to==_)=true
     rw [m2]
     simp
   ·intro h
    obtain ⟨x,hx,h⟩:=zh5.1 h
    unfold joinNd at h
    rw [zf6] at h
    rw [← hat x hx] at h
    have he:(s.a.fr==x.id||s.a.to==x.id)=true:=h.1
    rw [zha,beq_iff_eq,beq_iff_eq] at he
    rw [zha]
    rcases he with he | he
    ·left
     rw [he]
     exact h.2
    ·right
     rw [he]
     exact h.2
 ·rw [cond_true,cond_true]
  show (bif decide (u.k<s.k) then _ else _)=bif decide (u.k<s.k) then _ else _
  cases decide (u.k<s.k)
  ·rw [cond_false,cond_false,zfl]
   rfl
  ·rw [cond_true,cond_true,zfl]
   unfold apartB
   rw [zdq h2 h1]
   rfl
end
section
theorem yr {α:Type} {R:α->α->Prop} {l:List α}:l.Pairwise R↔∀ (i j:Nat) (x y:α),i<j->l[i]?=some x->l[j]?=some y->R x y:=by
 rw [List.pairwise_iff_getElem]
 constructor
 ·intro h i j x y hij hx hy
  obtain ⟨h1,rfl⟩:=zfz.1 hx
  obtain ⟨h2,rfl⟩:=zfz.1 hy
  exact h i j h1 h2 hij
 ·intro h i j h1 h2 hij
  exact h i j _ _ hij (zf0 h1) (zf0 h2)
theorem ZZ {ns:List Nd} {l:List Rg}:planR ns l=true↔(∀ t∈l.map Rg.sp,aloneB ns t=true)/\(l.map Rg.sp).Pairwise fun s t=>pairR ns s t=true:=by
 unfold planR
 rw [zhs,zhv]
 constructor
 ·intro h
  have hz:∀ (i:Nat) (t:Rg),l[i]?=some t->aloneB ns t.sp=true/\∀ (k:Nat) (s:Rg),k<i->l[k]?=some s->pairR ns s.sp t.sp=true:=fun i t hi=>by
   have h1:=h (t,i) (List.mem_zipIdx_iff_getElem?.2 hi)
   simp only [zh8,zhz,Bool.not_eq_false'] at h1
   refine ⟨h1.1,fun k s hk hs=>?_⟩
   have h2:=zhv.1 h1.2 s (zgl (i:=k) (by rw [List.getElem?_take,if_pos hk]; exact hs))
   simpa using h2
  refine ⟨fun t ht=>?_,?_⟩
  ·obtain ⟨s,hs,rfl⟩:=zgx.1 ht
   obtain ⟨i,hi⟩:=zg7 hs
   exact (hz i s hi).1
  ·rw [zhk]
   exact yr.2 fun i j x y hij hx hy=>(hz j y hy).2 i x hij hx
 ·rintro ⟨h1,h2⟩ ⟨t,i⟩ hti
  have hi:l[i]?=some t:=List.mem_zipIdx_iff_getElem?.1 hti
  simp only [zh8,zhz,Bool.not_eq_false']
  refine ⟨h1 _ (List.mem_map_of_mem (zgl hi)),?_⟩
  rw [zhv]
  intro s hs
  obtain ⟨k,hk⟩:=zg7 hs
  rw [List.getElem?_take] at hk
  split at hk
  ·rw [zhk] at h2
   rw [yr.1 h2 k i s t ‹_› hk hi]
   simp
  ·cases hk
theorem zcj {p:Pn} (h:Nice p):(spsN p).Pairwise fun s t=>s.id=t.id->s.k<t.k:=by
 unfold spsN
 rw [List.pairwise_flatMap]
 constructor
 ·intro a _
  unfold spsOf
  rw [zhk]
  refine List.pairwise_lt_range.imp ?_
  intro x y hxy _
  exact hxy
 ·have h2:=h.aid
  rw [zhk] at h2
  refine h2.imp fun {a b} hab x hx y hy he=>?_
  obtain ⟨k,_,rfl⟩:=zgx.1 hx
  obtain ⟨k',_,rfl⟩:=zgx.1 hy
  dsimp only at he
  omega
theorem Ye {ns:List Nd} {s t:Sp} (h:s.id=t.id->s.k<t.k):pairR ns s t=pairS ns s t:=by
 unfold pairR pairS
 cases hid:s.id==t.id
 ·rfl
 ·have he:s.id=t.id:=by simpa using hid
  have:=h he
  rw [cond_true,cond_true,decide_eq_false (show ¬ t.k<s.k by omega),cond_false]
theorem good_all {p:Pn} (h:Nice p) (hb:p.az.l.any (badA p)=false) {t:Sp} (ht:t∈spsN p):GoodS t/\(t.fr != t.to||decide ((3:Int)<=(t.n:Int)))=true:=by
 obtain ⟨a,ha,k,hk,rfl⟩:=y9 ht
 have hba:badA p a=false:=by
  have:=zhv.1 hb a ha
  simpa using this
 unfold badA at hba
 rw [(h.path ha).1,(h.path ha).2] at hba
 simp only [zh2,zhm,zhz] at hba
 obtain ⟨hb1,hb2⟩:=hba
 have hn:=ZY h ha
 refine ⟨⟨hn _ (zB (by omega)),hn _ (zB (by omega)),?_⟩,?_⟩
 ·unfold anyEq at hb2
  have:=zhv.1 hb2 k (zht.2 hk)
  simpa using this
 ·cases hft:a.fr==a.to
  ·simp [bne,hft]
  ·rw [hft,zhj,decide_eq_false_iff_not] at hb1
   rw [zha,decide_eq_true_eq]
   right
   show (3:Int)<=(((lineR p a).length - 1:Nat):Int)
   omega
theorem bad_none {p:Pn} (h:Nice p) (hb:p.az.l.any (badA p)=true):∃ t∈spsN p,aloneB p.ns.l t=false:=by
 obtain ⟨a,ha,hba⟩:=zh5.1 hb
 unfold badA at hba
 rw [(h.path ha).1,(h.path ha).2] at hba
 simp only [zh2,zhm,zha] at hba
 rcases hba with hb1 | hb2
 ·rw [zf6,decide_eq_true_eq] at hb1
  have h2:=@zF p a
  refine ⟨_,Yk ha (k:=0) (by omega),?_⟩
  unfold aloneB
  have e1:(a.fr != a.to)=false:=by simp [bne,hb1.1]
  have e2:decide ((3:Int)<=(((lineR p a).length - 1:Nat):Int))=false:=by
   rw [decide_eq_false_iff_not]
   omega
  dsimp only
  rw [e1,e2,Bool.or_self,zh3,zh3]
 ·unfold anyEq at hb2
  obtain ⟨k,hk,he⟩:=zh5.1 hb2
  refine ⟨_,Yk ha (zht.1 hk),?_⟩
  unfold aloneB
  dsimp only
  rw [he,zh2,zgo,zh3]
theorem nd_same {p:Pn} (hN:Nice p) {t:Sp} (h:GoodS t) {x:Nd} (hx:x∈p.ns.l):ndBad t x=aloneNd t x:=by
 unfold ndBad aloneNd isEnd
 rw [on_same h.a h.b (hN.npt x hx),Bool.not_or,Bool.and_comm]
theorem alone_iff {p:Pn} (hN:Nice p) {t:Sp} (h:GoodS t) (h2:(t.fr != t.to||decide ((3:Int)<=(t.n:Int)))=true):aloneB p.ns.l t=true↔∀ x∈p.ns.l,ndBad t x=false:=by
 unfold aloneB
 rw [h.ne,h2,zh6,Bool.and_true,Bool.and_true,zhs,zhv]
 constructor
 ·intro h3 x hx
  rw [nd_same hN h hx]
  simpa using h3 x hx
 ·intro h3 x hx
  rw [← nd_same hN h hx,h3 x hx]
  decide
theorem apart_pair {p:Pn} (hN:Nice p) {s t:Sp} (hs:s∈spsN p) (ht:t∈spsN p) (g1:GoodS s) (g2:GoodS t) (h:mxI s.A.x s.B.x<mnI t.A.x t.B.x):pairS p.ns.l s t=true:=by
 have hm:s.meetR t=0:=meet_apart g1.a g1.b g2.a g2.b g1.ne g2.ne h
 have x1:s.A.x<=mxI s.A.x s.B.x:=le_mx.2 (.inl (Int.le_refl _))
 have x2:s.B.x<=mxI s.A.x s.B.x:=le_mx.2 (.inr (Int.le_refl _))
 have x3:mnI t.A.x t.B.x<=t.A.x:=mn_le.2 (.inl (Int.le_refl _))
 have x4:mnI t.A.x t.B.x<=t.B.x:=mn_le.2 (.inr (Int.le_refl _))
 unfold pairS
 cases hid:s.id==t.id
 ·rw [cond_false]
  unfold joinedB
  rw [hm]
  rfl
 ·rw [cond_true]
  have he:s.id=t.id:=by simpa using hid
  have link:∀ s t:Sp,s∈spsN p->t∈spsN p->s.id=t.id->(t.k=s.k+1->s.B=t.A)/\(s.k=0->t.k=t.n - 1->s.fr=s.to->t.B=s.A):=fun s t hs ht he=>by
   obtain ⟨a,ha,k,hk,rfl⟩:=y9 hs
   obtain ⟨b,hb,k',hk',rfl⟩:=y9 ht
   have hab:a=b:=Zv hN.aid ha hb he
   subst hab
   refine ⟨fun e=>?_,fun e1 e2 e3=>?_⟩
   ·dsimp only at e ⊢
    rw [e]
   ·dsimp only at e1 e2 e3 ⊢
    subst e1
    have hl:=@zF p a
    have e4:k'+1=(lineR p a).length - 1:=by omega
    rw [e4]
    unfold lineR
    rw [e3]
    simp [zf8]
  have hap:∀ s t:Sp,s∈spsN p->t∈spsN p->s.id=t.id->s.meetR t=0->(s.B=t.A->False)->(t.B=s.A->False)->apartB s t=true:=fun s t hs ht he hm n1 n2=>by
   obtain ⟨l1,l2⟩:=link s t hs ht he
   unfold apartB
   rw [hm]
   have e1:((t.k:Int)==((s.k+1:Nat):Int))=false:=by
    rw [beq_eq_false_iff_ne]
    exact fun h=>n1 (l1 (by omega))
   rw [e1,cond_false]
   cases hc:((s.k:Int)==0&&((t.k:Int)==((t.n - 1:Nat):Int)&&s.fr==s.to))
   ·rfl
   ·simp only [zf6,beq_iff_eq] at hc
    exact absurd (l2 (by omega) (by omega) hc.2.2) n2
  cases decide (t.k<s.k)
  ·rw [cond_false]
   exact hap s t hs ht he hm (fun h=>by have:=congrArg Pt.x h; omega) fun h=>by have:=congrArg Pt.x h; omega
  ·rw [cond_true]
   exact hap t s ht hs he.symm ((zdq g2 g1).trans hm) (fun h=>by have:=congrArg Pt.x h; omega) fun h=>by have:=congrArg Pt.x h; omega
theorem cmpI_neg {x y:Int}:cmpI x y<0↔x<y:=by
 unfold cmpI
 split
 ·simp [*]
 ·split <;> simp [*]
theorem planar_same {p:Pn} (hN:Nice p) {v:Bool} (hv:PlanarV p v):v=planR p.ns.l (rgsL p):=by
 have hQ:=rgs_sps p
 unfold PlanarV at hv
 cases hb:p.az.l.any (badA p)
 ·rw [hb,cond_false,hN.sps] at hv
  have hg:=fun {t:Sp} (ht:t∈spsN p)=>good_all hN hb ht
  rcases hv with ⟨h1,rfl⟩ | ⟨L,l,hL,hperm,hsrt,hres⟩
  ·symm
   rw [ZZ,hQ,h1]
   exact ⟨fun t ht=>by simp at ht,List.Pairwise.nil⟩
  ·have hmem:∀ {s:Sg},s∈l->s.sp∈spsN p:=fun hs=>hperm.mem_iff.1 (List.mem_map_of_mem hs)
   have hends:∀ {s:Sg},s∈l->(nodeF p s.a.fr).isSome=true/\(nodeF p s.a.to).isSome=true:=fun {s} hs=>by
    obtain ⟨a,ha,k,hk,he⟩:=y9 (hmem hs)
    have e1:s.a.fr=a.fr:=congrArg Sp.fr he
    have e2:s.a.to=a.to:=congrArg Sp.to he
    rw [e1,e2]
    exact ⟨hN.fr a ha,hN.too a ha⟩
   have hcp:∀ {s u:Sg},s∈l->u∈l->compB L s u=pairS p.ns.l s.sp u.sp:=fun hs hu=>comp_pair hN hL (hg (hmem hs)).1 (hg (hmem hu)).1 (hends hs).1 (hends hs).2
   have hord:=zcj hN
   have hdis:(l.map Sg.sp).Pairwise fun s t=>s.id=t.id->s.k≠t.k :=
    (hperm.pairwise_iff (R:=fun s t:Sp=>s.id=t.id->s.k≠t.k) (fun {x y} h he=>Ne.symm (h he.symm))).2 (hord.imp fun h he=>by have:=h he; omega)
   have hdis2:∀ (i j:Nat) (s u:Sg),i<j->l[i]?=some s->l[j]?=some u->(s.sp.id=u.sp.id->s.sp.k≠u.sp.k):=fun i j s u hij hs hu=>by
    rw [zhk] at hdis
    exact yr.1 hdis i j s u hij hs hu
   have hrel:(l.map Sg.sp).Pairwise (RelS p.ns.l)↔(spsN p).Pairwise (RelS p.ns.l):=hperm.pairwise_iff fun {x y} h=>rel_symm h
   have hRL:(spsN p).Pairwise (RelS p.ns.l)↔(spsN p).Pairwise fun s t=>pairR p.ns.l s t=true:=by
    constructor
    ·intro h
     refine yr.2 fun i j x y hij hx hy=>?_
     have ho:=yr.1 hord i j x y hij hx hy
     rw [Ye ho]
     exact yr.1 h i j x y hij hx hy (hg (zgl hx)).1 (hg (zgl hy)).1 fun he=>by have:=ho he; omega
    ·intro h
     refine yr.2 fun i j x y hij hx hy _ _ _=>?_
     have ho:=yr.1 hord i j x y hij hx hy
     rw [← Ye ho]
     exact yr.1 h i j x y hij hx hy
   have hal:(∀ t∈spsN p,aloneB p.ns.l t=true)↔∀ s∈l,∀ x∈p.ns.l,ndBad s.sp x=false:=by
    constructor
    ·intro h s hs
     have g:=hg (hmem hs)
     exact (alone_iff hN g.1 g.2).1 (h _ (hmem hs))
    ·intro h t ht
     have g:=hg ht
     obtain ⟨s,hs,rfl⟩:=zgx.1 (hperm.mem_iff.2 ht)
     exact (alone_iff hN g.1 g.2).2 (h s hs)
   cases hvv:v
   ·obtain ⟨i,s,hs,hbad⟩:=hres.2 hvv
    symm
    rw [← zh8]
    intro hp
    rw [ZZ,hQ] at hp
    rcases hbad with ⟨j,u,hij,hu,hc⟩ | ⟨x,hx,hxb⟩
    ·have h1:=hrel.2 (hRL.2 hp.2)
     rw [zhk] at h1
     have h2:=yr.1 h1 i j s u hij hs hu (hg (hmem (zgl hs))).1 (hg (hmem (zgl hu))).1 (hdis2 i j s u hij hs hu)
     rw [← hcp (zgl hs) (zgl hu),hc] at h2
     cases h2
    ·have:=hal.1 hp.1 s (zgl hs) x hx
     rw [hxb] at this
     cases this
   ·have hr:=hres.1 hvv
    symm
    rw [ZZ,hQ]
    refine ⟨hal.2 fun s hs=>?_,hRL.1 (hrel.1 ?_)⟩
    ·obtain ⟨i,hi⟩:=zg7 hs
     exact (hr i s hi).2
    ·rw [zhk]
     refine yr.2 fun i j s u hij hs hu g1 g2 _=>?_
     rcases (hr i s hs).1 j u hij hu with h1 | ⟨j',u',h2,h3,h4,h5⟩
     ·rw [← hcp (zgl hs) (zgl hu)]
      exact h1
     ·have hw:u'.w<=u.w:=by
       by_cases hjj:j'=j
       ·subst hjj
        rw [hu] at h4
        cases h4
        exact Int.le_refl _
       ·have:=hsrt j' j u' u (Nat.zero_le _) (by omega) (zfz.1 hu).1 h4 hu
        unfold up at this
        rw [cmpI_neg] at this
        omega
      exact apart_pair hN (hmem (zgl hs)) (hmem (zgl hu)) g1 g2 (by
       have:s.ea<u.w:=by omega
       exact this)
 ·rw [hb,cond_true] at hv
  rw [hv]
  symm
  rw [← zh8]
  intro hp
  rw [ZZ,hQ] at hp
  obtain ⟨t,ht,h2⟩:=bad_none hN hb
  rw [hp.1 t ht] at h2
  cases h2
theorem rng_same (p:Pn):rngR p=rngB p:=by
 unfold rngR rngB placedB idsL allPts
 simp only [cond_false,cond_true,List.any_append,List.any_map,List.any_flatMap]
 have e1:(p.ns.l.any fun n=>badPt n.at')=p.ns.l.any (badPt ∘ Nd.at'):=rfl
 rw [e1]
 cases p.ns.l.any (badId ∘ Nd.id) <;> cases p.az.l.any (badId ∘ Ac.id) <;> cases p.fs.l.any badId <;> cases p.ns.l.any (badPt ∘ Nd.at') <;> cases (p.az.l.any fun a=>a.via.l.any badPt) <;> rfl
theorem has_node (p:Pn) (z:Int):hasI (p.ns.l.map Nd.id) z=(nodeF p z).isSome:=by
 unfold hasI nodeF
 rw [List.any_map,zhi,List.find?_isSome,zh5]
 simp only [Function.comp,beq_iff_eq,exists_prop]
 constructor
 ·rintro ⟨x,h1,h2⟩
  exact ⟨x,h1,h2.symm⟩
 ·rintro ⟨x,h1,h2⟩
  exact ⟨x,h1,h2.symm⟩
theorem conn_same (p:Pn):connE p (p.ns.l.map Nd.id)=bif dupPt p.ns.l then 8 else bif p.az.l.any (fun a=>!lineOk p a) then 7 else bif p.az.l.any (fun a=>!faceOk p a.l||!faceOk p a.r) then 12 else 0:=by
 unfold connE
 have e1:p.az.l.any (loose (p.ns.l.map Nd.id))=p.az.l.any (fun a=>!lineOk p a):=zbl fun a _=>by
  unfold loose lineOk
  rw [has_node,has_node,Bool.not_and]
 have e2:∀ z,offSide p.fs.l z=!faceOk p z:=fun z=>by
  unfold offSide faceOk
  rw [Bool.not_or,Bool.and_comm]
  rfl
 have e3:p.az.l.any (fun a=>offSide p.fs.l a.l||offSide p.fs.l a.r)=p.az.l.any (fun a=>!faceOk p a.l||!faceOk p a.r):=zbl fun a _=>by rw [e2,e2]
 rw [e1,e3]
theorem Yf {q:Pt} (h:badPt q=false):nearP q=true:=by
 rw [ZX]
 simp only [badPt,zhz,decide_eq_false_iff_not,Int.not_lt] at h
 omega
theorem zfm {p:Pn} {v:Bool} (hv:limI p=false->limV p=false->PlanarV p v):planE p v=refE p:=by
 unfold planE refE ref2 ref3
 rw [rng_same,conn_same]
 cases h1:(limI p||limV p)
 ·rw [cond_false,cond_false]
  rw [zhz] at h1
  have hpv:=hv h1.1 h1.2
  cases h2:ordB p
  ·rfl
  ·rw [zh2,cond_false,cond_false]
   cases h3:rngB p
   ·rfl
   ·rw [zh2,cond_false,cond_false]
    cases h4:dupPt p.ns.l
    ·cases h5:p.az.l.any (fun a=>!lineOk p a)
     ·cases h6:p.az.l.any (fun a=>!faceOk p a.l||!faceOk p a.r)
      ·have hN:Nice p:=by
        unfold ordB at h2
        simp only [zf6] at h2
        unfold rngB placedB at h3
        simp only [zf6,zhs] at h3
        have hlo:∀ a∈p.az.l,(nodeF p a.fr).isSome=true/\(nodeF p a.to).isSome=true:=fun a ha=>by
         have:=zhv.1 h5 a ha
         simp only [zh8,Bool.not_eq_false',lineOk,zf6] at this
         exact this
        refine ⟨yF.1 h2.1,yF.1 h2.2.1,fun x hx=>Yf ?_,fun a ha q hq=>Yf ?_,fun a ha=>(hlo a ha).1,fun a ha=>(hlo a ha).2⟩
        ·have:=zhv.1 h3.2.2.2.1 x hx
         simpa using this
        ·have:=zhv.1 h3.2.2.2.2 a ha
         have h9:a.via.l.any badPt=false:=by simpa only [zh8] using this
         have:=zhv.1 h9 q hq
         simpa using this
       rw [planar_same hN hpv]
       rfl
      ·rfl
     ·rfl
    ·rfl
 ·rfl
end
section
theorem Y0 {a b c:Pt}:tw a b c=cr a b a c:=by unfold tw cr; grind
theorem cr_sub {a b c d:Pt}:cr a b c d=tw a b d - tw a b c:=by unfold tw cr; grind
theorem cr_u {a c d:Pt}:cr a c c d=tw c d a:=by unfold tw cr; grind
theorem cr_v {a b c:Pt}:cr a c a b=- tw a b c:=by unfold tw cr; grind
theorem tw_last {a b c d:Pt}:tw c d b=tw c d a - cr a b c d:=by unfold tw cr; grind
theorem zc3 {x y:Int} (h:x*y=0) (hx:x≠0):y=0:=by
 rcases Int.mul_eq_zero.1 h with h | h
 ·exact absurd h hx
 ·exact h
theorem col_back {a b c d:Pt} (hab:a≠b) (h1:tw a b c=0) (h2:tw a b d=0):tw c d a=0:=by
 have e1:(b.x - a.x)*tw c d a=(c.x - a.x)*tw a b d - (d.x - a.x)*tw a b c:=by unfold tw; grind
 have e2:(b.y - a.y)*tw c d a=(c.y - a.y)*tw a b d - (d.y - a.y)*tw a b c:=by unfold tw; grind
 rw [h1,h2,Int.mul_zero,Int.mul_zero,Int.sub_zero] at e1 e2
 by_cases hx:b.x - a.x=0
 ·by_cases hy:b.y - a.y=0
  ·exfalso
   apply hab
   cases a; cases b
   simp only [Pt.mk.injEq] at *
   omega
  ·exact zc3 e2 hy
 ·exact zc3 e1 hx
theorem inR_one {n s t:Int} (h1:0<=s) (h2:s<=n) (h3:0<=t) (h4:t<=n):inR n s t=1:=by
 unfold inR
 rw [decide_eq_true h1,decide_eq_true h2,decide_eq_true h3,decide_eq_true h4]
 rfl
theorem meet_eq {a b c d:Pt} (ha:nearP a=true) (hb:nearP b=true) (hc:nearP c=true) (hd:nearP d=true) (hab:a≠b):meetR a b c d=bif cr a b c d==0 then (bif (tw a b c != 0)||((tw a b d != 0)||((cr c d c a != 0)||(cr c d c b != 0))) then 0 else sharedI a b c d) else bif decide (cr a b c d<0) then inR (0 - cr a b c d) (0 - tw c d a) (tw a b c) else inR (cr a b c d) (tw c d a) (0 - tw a b c):=by
 have hall:[a,b,c,d].all nearP=true:=by simp [ha,hb,hc,hd]
 have hE:ptE a b=false:=Bool.eq_false_iff.2 fun h=>hab (ZG.1 h)
 unfold meetR meetQ
 rw [hall,hE,zgo,cond_true,cond_false]
 simp only [zx ha hb hc hd,zx ha hb ha hc,zx ha hb ha hd,zx hc hd hc ha,zx hc hd hc hb,zx ha hc hc hd,zx ha hc ha hb]
 have b1:=Yj ha hb hc hd
 have b2:=Yj ha hc hc hd
 have b3:=Yj ha hc ha hb
 rw [zA (x:=0 - cr a b c d) (by omega) (by omega),zA (x:=0 - cr a c c d) (by omega) (by omega),zA (x:=0 - cr a c a b) (by omega) (by omega),cr_v (a:=a) (b:=b) (c:=c),cr_u (a:=a) (c:=c) (d:=d),← Y0 (a:=a) (b:=b) (c:=c),← Y0 (a:=a) (b:=b) (c:=d),show 0 - -tw a b c=tw a b c by omega,show -tw a b c=0 - tw a b c by omega]
theorem zac {a b c d:Pt} (ha:nearP a=true) (hb:nearP b=true) (hc:nearP c=true) (hd:nearP d=true) (hab:a≠b) (h:touch a b c d):meetR a b c d≠0/\(tw a b c=0->tw a b d=0->meetR a b c d=sharedI a b c d):=by
 rw [meet_eq ha hb hc hd hab]
 have hD:=cr_sub (a:=a) (b:=b) (c:=c) (d:=d)
 have col:tw a b c=0->tw a b d=0->(bif cr a b c d==0 then (bif (tw a b c != 0)||((tw a b d != 0)||((cr c d c a != 0)||(cr c d c b != 0))) then 0 else sharedI a b c d) else bif decide (cr a b c d<0) then inR (0 - cr a b c d) (0 - tw c d a) (tw a b c) else inR (cr a b c d) (tw c d a) (0 - tw a b c))=sharedI a b c d:=fun h1 h2=>by
  have e1:=col_back hab h1 h2
  have e2:=tw_last (a:=a) (b:=b) (c:=c) (d:=d)
  rw [h1,h2] at hD
  have e3:tw c d b=0:=by omega
  rw [← Y0,← Y0,e1,e3,h1,h2,hD]
  rfl
 refine ⟨?_,col⟩
 rcases h with ⟨h1,h2,h3⟩ | ⟨h1,⟨h2,h3⟩,h4,h5⟩
 ·rw [col h1 h2]
  exact h3
 ·have e2:=tw_last (a:=a) (b:=b) (c:=c) (d:=d)
  by_cases h0:cr a b c d=0
  ·exfalso
   omega
  ·rw [show (cr a b c d==0)=false from beq_eq_false_iff_ne.2 h0,cond_false]
   by_cases hn:cr a b c d<0
   ·rw [decide_eq_true hn,cond_true,inR_one (by omega) (by omega) (by omega) (by omega)]
    decide
   ·rw [decide_eq_false hn,cond_false,inR_one (by omega) (by omega) (by omega) (by omega)]
    decide
end
section
structure Good0 (p:Pn):Prop where
 nice:Nice p
 pid:∀ a∈p.az.l,1<=a.id/\a.id<=1073741824
 pts:dupPt p.ns.l=false
 fac:∀ a∈p.az.l,faceOk p a.l=true/\faceOk p a.r=true
 alone:∀ t∈spsN p,aloneB p.ns.l t=true
 pair:(spsN p).Pairwise fun s t=>pairR p.ns.l s t=true
theorem good0 {p:Pn} (h:refE p=0):Good0 p:=by
 unfold refE at h
 cases h1:(limI p||limV p)
 rotate_left
 ·rw [h1] at h; simp at h
 rw [h1,cond_false] at h
 cases h2:ordB p
 ·rw [h2] at h; simp at h
 rw [h2,zh2,cond_false] at h
 unfold ref2 at h
 cases h3:rngR p
 ·rw [h3] at h; simp at h
 rw [h3,zh2,cond_false] at h
 cases h4:dupPt p.ns.l
 rotate_left
 ·rw [h4] at h; simp at h
 rw [h4,cond_false] at h
 unfold ref3 at h
 cases h5:p.az.l.any (fun a=>!lineOk p a)
 rotate_left
 ·rw [h5] at h; simp at h
 rw [h5,cond_false] at h
 cases h6:p.az.l.any (fun a=>!faceOk p a.l||!faceOk p a.r)
 rotate_left
 ·rw [h6] at h; simp at h
 rw [h6,cond_false] at h
 cases h7:planR p.ns.l (rgsL p)
 ·rw [h7] at h; simp at h
 rw [rng_same] at h3
 unfold ordB at h2
 simp only [zf6] at h2
 unfold rngB placedB at h3
 simp only [zf6,zhs] at h3
 have hlo:∀ a∈p.az.l,(nodeF p a.fr).isSome=true/\(nodeF p a.to).isSome=true:=fun a ha=>by
  have:=zhv.1 h5 a ha
  simp only [zh8,Bool.not_eq_false',lineOk,zf6] at this
  exact this
 rw [ZZ,rgs_sps] at h7
 refine ⟨⟨yF.1 h2.1,yF.1 h2.2.1,fun x hx=>Yf ?_,fun a ha q hq=>Yf ?_,fun a ha=>(hlo a ha).1,fun a ha=>(hlo a ha).2⟩,fun a ha=>?_,h4,fun a ha=>?_,h7.1,h7.2⟩
 ·have:=zhv.1 h3.2.2.2.1 x hx
  simpa using this
 ·have:=zhv.1 h3.2.2.2.2 a ha
  have h9:a.via.l.any badPt=false:=by simpa only [zh8] using this
  have:=zhv.1 h9 q hq
  simpa using this
 ·have:=zhv.1 h3.2.1 a.id (List.mem_map_of_mem ha)
  simp only [badId,zha,decide_eq_true_eq] at this
  omega
 ·have:=zhv.1 h6 a ha
  simp only [zha,zhs,not_or,Bool.not_eq_false] at this
  exact this
section
variable {p:Pn} (h:Good0 p)
include h
theorem Good0.good {t:Sp} (ht:t∈spsN p):GoodS t:=by
 obtain ⟨a,ha,k,hk,rfl⟩:=y9 ht
 have hal:=h.alone _ ht
 unfold aloneB at hal
 simp only [zf6,zhs] at hal
 exact ⟨ZY h.nice ha _ (zB (by omega)),ZY h.nice ha _ (zB (by omega)),hal.2.1⟩
theorem Good0.loop3 {t:Sp} (ht:t∈spsN p) (he:t.fr=t.to):3<=t.n:=by
 have hal:=h.alone _ ht
 unfold aloneB at hal
 simp only [zf6,zha,decide_eq_true_eq] at hal
 rcases hal.2.2 with h1 | h1
 ·rw [he] at h1; simp at h1
 ·omega
theorem Good0.isEnd {t:Sp} (ht:t∈spsN p) {x:Nd} (hx:x∈p.ns.l) (ho:onR t.A t.B x.at'=true):isEnd t x=true:=by
 have hal:=h.alone _ ht
 unfold aloneB at hal
 simp only [zf6,zhs] at hal
 have:=zhv.1 hal.1 x hx
 unfold aloneNd at this
 rw [ho,Bool.and_true] at this
 simpa using this
theorem Good0.rel {s t:Sp} (hs:s∈spsN p) (ht:t∈spsN p) (hne:s.id=t.id->s.k≠t.k):pairS p.ns.l s t=true:=by
 obtain ⟨i,hi⟩:=zg7 hs
 obtain ⟨j,hj⟩:=zg7 ht
 have hord:=yr.1 (zcj h.nice)
 have hp:=yr.1 h.pair
 rcases Nat.lt_trichotomy i j with hij | hij | hij
 ·have:=hp i j s t hij hi hj
  rwa [Ye (hord i j s t hij hi hj)] at this
 ·subst hij
  rw [hi] at hj
  cases hj
  exact absurd rfl (hne rfl)
 ·have h1:=hp j i t s hij hj hi
  rw [Ye (hord j i t s hij hj hi)] at h1
  exact rel_symm (s:=t) (u:=s) (fun _ _ _=>h1) (h.good hs) (h.good ht) hne
theorem Good0.endPt {t:Sp} (ht:t∈spsN p) {x:Nd} (hx:x∈p.ns.l) (he:Go.Proofs.YtdacpmgnhkmnkaaGreatDoor.isEnd t x=true):(t.k=0/\t.fr=x.id/\t.A=x.at')∨(t.k+1=t.n/\t.to=x.id/\t.B=x.at'):=by
 obtain ⟨a,ha,k,hk,rfl⟩:=y9 ht
 unfold Go.Proofs.YtdacpmgnhkmnkaaGreatDoor.isEnd at he
 simp only [zha,zf6,beq_iff_eq] at he
 have hnd:∀ id,(nodeF p id).isSome=true->id=x.id->nodeD p id=x:=fun id hi e=>by
  obtain ⟨m1,m2⟩:=yf hi
  exact Zv h.nice.nid m1 hx (by rw [m2,e])
 rcases he with ⟨h1,h2⟩ | ⟨h1,h2⟩
 ·left
  have hk0:k=0:=by omega
  subst hk0
  refine ⟨rfl,h2,?_⟩
  show (nodeD p a.fr).at'=x.at'
  rw [hnd _ (h.nice.fr a ha) h2]
 ·right
  have h2l:=zF (p:=p) (a:=a)
  have hkn:k+1=(lineR p a).length - 1:=by
   omega
  refine ⟨hkn,h2,?_⟩
  show (lineR p a).getD (k+1) zPt=x.at'
  rw [hkn]
  unfold lineR
  rw [zf8,zf3,zga,zf3,zgb,show a.via.l.length+(0+1)+1 - 1=a.via.l.length+1 by omega,zgc,zf4 (zf7 _),zit]
  show (nodeD p a.to).at'=x.at'
  rw [hnd _ (h.nice.too a ha) h2]
end
end
section
def kap0 (p:Pt):Int:=8388608*p.x+p.y
theorem kap_bf {p q:Pt} (hp:nearP p=true) (hq:nearP q=true):bfP p q=decide (kap0 p<kap0 q):=by
 rw [ZX] at hp hq
 unfold bfP kap0
 rw [zhi]
 simp only [zha,zf6,decide_eq_true_eq,beq_iff_eq]
 omega
theorem kap_pt {p q:Pt} (hp:nearP p=true) (hq:nearP q=true):ptE p q=decide (kap0 p=kap0 q):=by
 rw [ZX] at hp hq
 unfold ptE kap0
 rw [zhi]
 simp only [zf6,decide_eq_true_eq,beq_iff_eq]
 omega
theorem kap_eq {p q:Pt} (hp:nearP p=true) (hq:nearP q=true) (h:kap0 p=kap0 q):p=q:=by
 have:=kap_pt hp hq
 rw [decide_eq_true h] at this
 exact ZG.1 this
section
variable {a b c d:Pt} (ha:nearP a=true) (hb:nearP b=true) (hc:nearP c=true) (hd:nearP d=true)
include ha hb hc hd
theorem sh_key:sharedI a b c d=if max (min (kap0 a) (kap0 b)) (min (kap0 c) (kap0 d))=min (max (kap0 a) (kap0 b)) (max (kap0 c) (kap0 d)) then 1 else if max (min (kap0 a) (kap0 b)) (min (kap0 c) (kap0 d))<min (max (kap0 a) (kap0 b)) (max (kap0 c) (kap0 d)) then 2 else 0:=by
 have hn:∀ p,p∈[a,b,c,d]->nearP p=true:=fun p hp=>by
  simp only [zgf,zg1,or_false] at hp
  rcases hp with rfl | rfl | rfl | rfl
  ·exact ha
  ·exact hb
  ·exact hc
  ·exact hd
 exact zff (fun p q hp hq=>kap_bf (hn p hp) (hn q hq)) (fun p q hp hq=>kap_pt (hn p hp) (hn q hq))
theorem sh_ne {P:Pt} (h1:P=a∨P=b) (h2:P=c∨P=d):sharedI a b c d≠0:=by
 rw [sh_key ha hb hc hd]
 have hle:max (min (kap0 a) (kap0 b)) (min (kap0 c) (kap0 d))<=min (max (kap0 a) (kap0 b)) (max (kap0 c) (kap0 d)):=by
  rcases h1 with rfl | rfl <;> rcases h2 with rfl | rfl <;> omega
 split
 ·decide
 ·split
  ·decide
  ·omega
theorem sh_two (hab:a≠b) (h:(a=c/\b=d)∨(a=d/\b=c)):sharedI a b c d=2:=by
 rw [sh_key ha hb hc hd]
 have hne:kap0 a≠kap0 b:=fun e=>hab (kap_eq ha hb e)
 rcases h with ⟨rfl,rfl⟩ | ⟨rfl,rfl⟩
 ·rw [if_neg (by omega),if_pos (by omega)]
 ·rw [if_neg (by omega),if_pos (by omega)]
theorem end_touch {P:Pt} (h1:P=a∨P=b) (h2:P=c∨P=d):touch a b c d:=by
 by_cases hcol:tw a b c=0/\tw a b d=0
 ·exact .inl ⟨hcol.1,hcol.2,sh_ne ha hb hc hd h1 h2⟩
 ·refine .inr ⟨hcol,?_,?_⟩
  ·have:tw a b c=0∨tw a b d=0:=by
    have z1:tw a b a=0:=by unfold tw; grind
    have z2:tw a b b=0:=by unfold tw; grind
    rcases h1 with rfl | rfl <;> rcases h2 with rfl | rfl
    ·exact .inl z1
    ·exact .inr z1
    ·exact .inl z2
    ·exact .inr z2
   unfold opp
   omega
  ·have:tw c d a=0∨tw c d b=0:=by
    have z1:tw c d c=0:=by unfold tw; grind
    have z2:tw c d d=0:=by unfold tw; grind
    rcases h1 with rfl | rfl <;> rcases h2 with rfl | rfl
    ·exact .inl z1
    ·exact .inl z2
    ·exact .inr z1
    ·exact .inr z2
   unfold opp
   omega
theorem end_meet (hab:a≠b) {P:Pt} (h1:P=a∨P=b) (h2:P=c∨P=d):meetR a b c d≠0:=(zac ha hb hc hd hab (end_touch ha hb hc hd h1 h2)).1
theorem twin_meet (hab:a≠b) (h:(a=c/\b=d)∨(a=d/\b=c)):meetR a b c d=2:=by
 have ht:touch a b c d:=end_touch ha hb hc hd (P:=a) (.inl rfl) (by rcases h with ⟨h,_⟩ | ⟨h,_⟩; exact .inl h; exact .inr h)
 have z1:tw a b a=0:=by unfold tw; grind
 have z2:tw a b b=0:=by unfold tw; grind
 rw [(zac ha hb hc hd hab ht).2 (by rcases h with ⟨rfl,rfl⟩ | ⟨rfl,rfl⟩ <;> assumption) (by rcases h with ⟨rfl,rfl⟩ | ⟨rfl,rfl⟩ <;> assumption)]
 exact sh_two ha hb hc hd hab h
end
section
variable {p:Pn} (h:Good0 p)
include h
theorem Good0.meet {s t:Sp} (hs:s∈spsN p) (ht:t∈spsN p) (hne:s.id=t.id->s.k≠t.k) (hm:s.meetR t≠0):s.meetR t=1/\∃ P,(P=s.A∨P=s.B)/\(P=t.A∨P=t.B):=by
 have hr:=h.rel hs ht hne
 have gs:=h.good hs
 have gt:=h.good ht
 unfold pairS at hr
 have same:∀ {u v:Sp},u∈spsN p->v∈spsN p->u.id=v.id->u.meetR v≠0->apartB u v=true->u.meetR v=1/\∃ P,(P=u.A∨P=u.B)/\(P=v.A∨P=v.B):=fun {u v} hu hv hid hm hap=>by
  obtain ⟨a,ha,k,hk,rfl⟩:=y9 hu
  obtain ⟨b,hb,j,hj,rfl⟩:=y9 hv
  have hab:a=b:=Zv h.nice.aid ha hb hid
  subst hab
  unfold apartB at hap
  cases c1:((j:Int)==((k+1:Nat):Int))
  ·rw [c1,cond_false] at hap
   cases c2:((k:Int)==0&&((j:Int)==(((lineR p a).length - 1 - 1:Nat):Int)&&a.fr==a.to))
   ·rw [c2,cond_false] at hap
    exact absurd (eq_of_beq hap) hm
   ·rw [c2,cond_true] at hap
    simp only [zf6,beq_iff_eq] at c2
    obtain ⟨d1,d2,d3⟩:=c2
    refine ⟨eq_of_beq hap,(nodeD p a.fr).at',.inl ?_,.inr ?_⟩
    ·have:k=0:=by omega
     subst this
     rfl
    ·have h2l:=zF (p:=p) (a:=a)
     have hjn:j+1=(lineR p a).length - 1:=by omega
     show (nodeD p a.fr).at'=(lineR p a).getD (j+1) zPt
     rw [hjn]
     unfold lineR
     rw [zf8,zf3,zga,zf3,zgb,show a.via.l.length+(0+1)+1 - 1=a.via.l.length+1 by omega,zgc,zf4 (zf7 _),zit,d3]
     rfl
  ·rw [c1,cond_true] at hap
   have hj1:j=k+1:=by have:=eq_of_beq c1; omega
   subst hj1
   exact ⟨eq_of_beq hap,_,.inr rfl,.inl rfl⟩
 cases hid:s.id==t.id
 ·rw [hid,cond_false] at hr
  unfold joinedB at hr
  cases hm1:s.meetR t==1
  ·rw [hm1,cond_false] at hr
   exact absurd (eq_of_beq hr) hm
  ·rw [hm1,cond_true] at hr
   obtain ⟨x,hx,hj⟩:=zh5.1 hr
   unfold joinNd at hj
   simp only [zf6] at hj
   obtain ⟨_,_,o1,o2⟩:=hj
   refine ⟨eq_of_beq hm1,x.at',?_,?_⟩
   ·rcases h.endPt hs hx (h.isEnd hs hx o1) with ⟨_,_,e⟩ | ⟨_,_,e⟩
    ·exact .inl e.symm
    ·exact .inr e.symm
   ·rcases h.endPt ht hx (h.isEnd ht hx o2) with ⟨_,_,e⟩ | ⟨_,_,e⟩
    ·exact .inl e.symm
    ·exact .inr e.symm
 ·rw [hid,cond_true] at hr
  have he:=eq_of_beq hid
  cases hlt:decide (t.k<s.k)
  ·rw [hlt,cond_false] at hr
   exact same hs ht he hm hr
  ·rw [hlt,cond_true] at hr
   rw [zdq gs gt] at hm ⊢
   obtain ⟨h1,P,h2,h3⟩:=same ht hs he.symm hm hr
   exact ⟨h1,P,h3,h2⟩
end
end
section
theorem zbm {l:List Nd} (h:dupPt l=false) {a b:Nd} (ha:a∈l) (hb:b∈l) (hx:a.at'.x=b.at'.x) (hy:a.at'.y=b.at'.y):a.id=b.id:=by
 obtain ⟨i,hi,rfl⟩:=List.mem_iff_getElem.1 ha
 obtain ⟨j,hj,rfl⟩:=List.mem_iff_getElem.1 hb
 have key:∀ (i j:Nat) (hi:i<l.length) (hj:j<l.length),i<j->l[i].at'.x=l[j].at'.x->l[i].at'.y=l[j].at'.y->False:=fun i j hi hj hij hx hy=>by
  unfold dupPt at h
  have h1:=zhv.1 h (l[j],j) (by
   rw [List.mem_zipIdx_iff_getElem?]
   exact zf0 hj)
  simp only [zh5,not_exists,not_and] at h1
  refine h1 l[i] ?_ ?_
  ·rw [List.mem_iff_getElem]
   exact ⟨i,by rw [zhx]; omega,by rw [List.getElem_take]⟩
  ·simp [ptE,hx,hy]
 rcases Nat.lt_trichotomy i j with h1 | h1 | h1
 ·exact (key i j hi hj h1 hx hy).elim
 ·subst h1
  rfl
 ·exact (key j i hj hi h1 hx.symm hy.symm).elim
def segN (p:Pn) (a:Ac) (k:Nat):Sp:=⟨a.id,a.fr,a.to,k,(lineR p a).length - 1,(lineR p a).getD k zPt,(lineR p a).getD (k+1) zPt⟩
theorem zbn {s t:Sp} (hap:apartB s t=true) (hm:s.meetR t≠0):(t.k=s.k+1/\s.meetR t=1)∨(s.k=0/\t.k=t.n - 1/\s.fr=s.to/\s.meetR t=1):=by
 unfold apartB at hap
 cases c1:((t.k:Int)==((s.k+1:Nat):Int))
 ·rw [c1,cond_false] at hap
  cases c2:((s.k:Int)==0&&((t.k:Int)==((t.n - 1:Nat):Int)&&s.fr==s.to))
  ·rw [c2,cond_false] at hap
   exact absurd (eq_of_beq hap) hm
  ·rw [c2,cond_true] at hap
   simp only [zf6,beq_iff_eq] at c2
   obtain ⟨d1,d2,d3⟩:=c2
   exact .inr ⟨by omega,by omega,d3,eq_of_beq hap⟩
 ·rw [c1,cond_true] at hap
  exact .inl ⟨by have:=eq_of_beq c1; omega,eq_of_beq hap⟩
section
variable {p:Pn} (h:Good0 p)
include h
theorem Good0.apart {s t:Sp} (hs:s∈spsN p) (ht:t∈spsN p) (hid:s.id=t.id) (hk:s.k<t.k):apartB s t=true:=by
 have hr:=h.rel hs ht fun _=>by omega
 unfold pairS at hr
 rw [show (s.id==t.id)=true by rw [hid]; simp,cond_true,decide_eq_false (show ¬ t.k<s.k by omega),cond_false] at hr
 exact hr
theorem Good0.joint {s t:Sp} (hs:s∈spsN p) (ht:t∈spsN p) (hid:s.id≠t.id) (hm:s.meetR t≠0):∃ x∈p.ns.l,Go.Proofs.YtdacpmgnhkmnkaaGreatDoor.isEnd s x=true/\Go.Proofs.YtdacpmgnhkmnkaaGreatDoor.isEnd t x=true:=by
 have hr:=h.rel hs ht fun e=>absurd e hid
 unfold pairS at hr
 rw [beq_eq_false_iff_ne.2 hid,cond_false] at hr
 unfold joinedB at hr
 cases hm1:s.meetR t==1
 ·rw [hm1,cond_false] at hr
  exact absurd (eq_of_beq hr) hm
 ·rw [hm1,cond_true] at hr
  obtain ⟨x,hx,hj⟩:=zh5.1 hr
  unfold joinNd at hj
  simp only [zf6] at hj
  exact ⟨x,hx,h.isEnd hs hx hj.2.2.1,h.isEnd ht hx hj.2.2.2⟩
theorem Good0.touch {s t:Sp} (hs:s∈spsN p) (ht:t∈spsN p) {P:Pt} (h1:P=s.A∨P=s.B) (h2:P=t.A∨P=t.B):s.meetR t≠0:=by
 have gs:=h.good hs
 have gt:=h.good ht
 exact end_meet gs.a gs.b gt.a gt.b (fun e=>by have:=gs.ne; rw [e,ZG.2 rfl] at this; cases this) h1 h2
theorem Good0.twin {s t:Sp} (hs:s∈spsN p) (ht:t∈spsN p) (h1:s.A=t.B) (h2:s.B=t.A):s.meetR t=2:=by
 have gs:=h.good hs
 have gt:=h.good ht
 exact twin_meet gs.a gs.b gt.a gt.b (fun e=>by have:=gs.ne; rw [e,ZG.2 rfl] at this; cases this) (.inr ⟨h1,h2⟩)
theorem Good0.ne {s:Sp} (hs:s∈spsN p):s.A≠s.B:=fun e=>by
 have:=(h.good hs).ne
 rw [e,ZG.2 rfl] at this
 cases this
theorem Good0.via {a b:Ac} (ha:a∈p.az.l) (hb:b∈p.az.l) {k j:Nat} (hk0:0<k) (hk:k<(lineR p a).length - 1) (hj:j<=(lineR p b).length - 1) (he:(lineR p b).getD j zPt=(lineR p a).getD k zPt):b=a/\j=k:=by
 have hbl:=zF (p:=p) (a:=b)
 have m1:segN p a (k - 1)∈spsN p:=Yk ha (by omega)
 have m2:segN p a k∈spsN p:=Yk ha hk
 have e1:(segN p a (k - 1)).B=(lineR p a).getD k zPt:=by show (lineR p a).getD (k - 1+1) zPt=_; rw [Nat.sub_add_cancel hk0]
 have e2:(segN p a k).A=(lineR p a).getD k zPt:=rfl
 by_cases hid:b.id=a.id
 ·have hba:b=a:=Zv h.nice.aid hb ha hid
  subst hba
  refine ⟨rfl,?_⟩
  rcases Nat.lt_trichotomy j k with hjk | hjk | hjk
  ·exfalso
   have mu:segN p b j∈spsN p:=Yk hb (by omega)
   have eu:(segN p b j).A=(lineR p b).getD k zPt:=he
   by_cases hj1:j=k - 1
   ·subst hj1
    exact h.ne m1 (eu.trans e1.symm)
   ·have t2:=h.touch mu m2 (.inl eu.symm) (.inl e2.symm)
    have t1:=h.touch mu m1 (.inl eu.symm) (.inr e1.symm)
    rcases zbn (h.apart mu m2 rfl (show j<k by omega)) t2 with ⟨c1,_⟩ | ⟨c1,c2,_,_⟩
    ·have c1:k=j+1:=c1
     omega
    ·have c1:j=0:=c1
     have c2:k=(lineR p b).length - 1 - 1:=c2
     rcases zbn (h.apart mu m1 rfl (show j<k - 1 by omega)) t1 with ⟨d1,d2⟩ | ⟨_,d2,_,_⟩
     ·have d1:k - 1=j+1:=d1
      have:=h.twin mu m1 (eu.trans e1.symm) (by show (lineR p b).getD (j+1) zPt=(lineR p b).getD (k - 1) zPt; rw [d1])
      omega
     ·have d2:k - 1=(lineR p b).length - 1 - 1:=d2
      omega
  ·exact hjk
  ·exfalso
   have mu:segN p b (j - 1)∈spsN p:=Yk hb (by omega)
   have eu:(segN p b (j - 1)).B=(lineR p b).getD k zPt:=by show (lineR p b).getD (j - 1+1) zPt=_; rw [Nat.sub_add_cancel (by omega)]; exact he
   by_cases hj1:j - 1=k
   ·rw [hj1] at eu
    exact h.ne m2 (e2.trans eu.symm)
   ·have t1:=h.touch m1 mu (.inr e1.symm) (.inr eu.symm)
    have t2:=h.touch m2 mu (.inl e2.symm) (.inr eu.symm)
    rcases zbn (h.apart m1 mu rfl (show k - 1<j - 1 by omega)) t1 with ⟨c1,_⟩ | ⟨c1,c2,_,_⟩
    ·have c1:j - 1=k - 1+1:=c1
     omega
    ·have c1:k - 1=0:=c1
     have c2:j - 1=(lineR p b).length - 1 - 1:=c2
     rcases zbn (h.apart m2 mu rfl (show k<j - 1 by omega)) t2 with ⟨d1,d2⟩ | ⟨d1,_,_,_⟩
     ·have d1:j - 1=k+1:=d1
      have:=h.twin m2 mu (e2.trans eu.symm) (by show (lineR p b).getD (k+1) zPt=(lineR p b).getD (j - 1) zPt; rw [d1])
      omega
     ·have d1:k=0:=d1
      omega
 ·exfalso
  obtain ⟨t,mt,tid,tP⟩:∃ t∈spsN p,t.id=b.id/\((lineR p a).getD k zPt=t.A∨(lineR p a).getD k zPt=t.B):=by
   by_cases hjl:j<(lineR p b).length - 1
   ·exact ⟨segN p b j,Yk hb hjl,rfl,.inl he.symm⟩
   ·refine ⟨segN p b (j - 1),Yk hb (by omega),rfl,.inr ?_⟩
    show _=(lineR p b).getD (j - 1+1) zPt
    rw [Nat.sub_add_cancel (by omega)]
    exact he.symm
  have d1:(segN p a (k - 1)).id≠t.id:=fun e=>hid (tid.symm.trans e.symm)
  have d2:(segN p a k).id≠t.id:=fun e=>hid (tid.symm.trans e.symm)
  obtain ⟨x1,hx1,f1,g1⟩:=h.joint m1 mt d1 (h.touch m1 mt (.inr e1.symm) tP)
  obtain ⟨x2,hx2,f2,g2⟩:=h.joint m2 mt d2 (h.touch m2 mt (.inl e2.symm) tP)
  have n1:=h.ne m1
  have n2:=h.ne m2
  have nt:=h.ne mt
  rcases h.endPt m1 hx1 f1 with ⟨r1,r2,r3⟩ | ⟨r1,_,_⟩
  ·rcases h.endPt m2 hx2 f2 with ⟨q1,_,_⟩ | ⟨q1,q2,q3⟩
   ·have q1:k=0:=q1
    omega
   ·have r1:k - 1=0:=r1
    have q1:k+1=(lineR p a).length - 1:=q1
    have w1:x1.at'=t.A∨x1.at'=t.B:=by
     rcases h.endPt mt hx1 g1 with ⟨_,_,e⟩ | ⟨_,_,e⟩
     ·exact .inl e.symm
     ·exact .inr e.symm
    have w2:x2.at'=t.A∨x2.at'=t.B:=by
     rcases h.endPt mt hx2 g2 with ⟨_,_,e⟩ | ⟨_,_,e⟩
     ·exact .inl e.symm
     ·exact .inr e.symm
    have v1:x1.at'≠(lineR p a).getD k zPt:=fun e=>n1 (r3.trans (e.trans e1.symm))
    have v2:x2.at'≠(lineR p a).getD k zPt:=fun e=>n2 (e2.trans (e.symm.trans q3.symm))
    have hxx:x1.at'=x2.at':=by
     rcases tP with tP | tP <;> rw [tP] at v1 v2 <;> rcases w1 with w1 | w1 <;> rcases w2 with w2 | w2
     ·exact absurd w1 v1
     ·exact absurd w1 v1
     ·exact absurd w2 v2
     ·exact w1.trans w2.symm
     ·exact w1.trans w2.symm
     ·exact absurd w2 v2
     ·exact absurd w1 v1
     ·exact absurd w1 v1
    have hxid:x1.id=x2.id:=zbm h.pts hx1 hx2 (by rw [hxx]) (by rw [hxx])
    have hft:a.fr=a.to:=by
     have r2:a.fr=x1.id:=r2
     have q2:a.to=x2.id:=q2
     rw [r2,q2,hxid]
    have:=h.loop3 m2 hft
    have:3<=(lineR p a).length - 1:=this
    omega
  ·have r1:k - 1+1=(lineR p a).length - 1:=r1
   omega
end
noncomputable def Good0.net {p:Pn} (h:Good0 p):Net where
 E:=(spsN p).map fun s=>(s.id,s.k)
 len a:=(pathL p a).length - 1
 pt a k:=(pathL p a).getD k zPt
 nodup:=by
  rw [List.Nodup,zhk]
  exact (zcj h.nice).imp fun {s t} hst e=>by
   rw [zic] at e
   have:=hst e.1
   omega
 mem a k hm:=by
  obtain ⟨s,hs,e⟩:=zgx.1 hm
  obtain ⟨x,hx,j,hj,rfl⟩:=y9 hs
  cases e
  rw [(h.nice.path hx).2]
  have:=h.pid x hx
  exact ⟨show 0<x.id by omega,hj⟩
 whole a k j hm hj:=by
  obtain ⟨s,hs,e⟩:=zgx.1 hm
  obtain ⟨x,hx,i,hi,rfl⟩:=y9 hs
  cases e
  rw [(h.nice.path hx).2] at hj
  exact zgx.2 ⟨_,Yk hx hj,rfl⟩
 near a k j hm hj:=by
  obtain ⟨s,hs,e⟩:=zgx.1 hm
  obtain ⟨x,hx,i,hi,rfl⟩:=y9 hs
  cases e
  rw [(h.nice.path hx).2] at hj ⊢
  have:=zF (p:=p) (a:=x)
  exact Yb (ZY h.nice hx _ (zB (by omega)))
 ne a k hm:=by
  obtain ⟨s,hs,e⟩:=zgx.1 hm
  obtain ⟨x,hx,i,hi,rfl⟩:=y9 hs
  cases e
  rw [(h.nice.path hx).2]
  exact h.ne hs
 meet a k b j hm hm2 hne ht:=by
  obtain ⟨s,hs,e⟩:=zgx.1 hm
  obtain ⟨x,hx,i,hi,rfl⟩:=y9 hs
  cases e
  obtain ⟨t,hs2,e⟩:=zgx.1 hm2
  obtain ⟨y,hy,i2,hi2,rfl⟩:=y9 hs2
  cases e
  rw [(h.nice.path hx).2,(h.nice.path hy).2] at ht ⊢
  have gs:=h.good hs
  have gt:=h.good hs2
  have htm:=zac gs.a gs.b gt.a gt.b (h.ne hs) ht
  obtain ⟨h1,h2⟩:=h.meet hs hs2 (fun e1 e2=>hne (Prod.ext e1 e2)) htm.1
  exact ⟨h2,fun c1 c2=>(htm.2 c1 c2).symm.trans h1⟩
 via a k b j hm hm2 hk0 hk hj he:=by
  obtain ⟨s,hs,e⟩:=zgx.1 hm
  obtain ⟨x,hx,i,hi,rfl⟩:=y9 hs
  cases e
  obtain ⟨t,hs2,e⟩:=zgx.1 hm2
  obtain ⟨y,hy,i2,hi2,rfl⟩:=y9 hs2
  cases e
  rw [(h.nice.path hx).2] at hk he
  rw [(h.nice.path hy).2] at hj he
  obtain ⟨e1,e2⟩:=h.via hx hy hk0 hk hj he
  exact ⟨by rw [e1],e2⟩
end
section
theorem lss_irr {o p:Pt}:lss o p p=false:=by
 cases h:lss o p p
 ·rfl
 ·exact (Zg h h).elim
theorem Net.ring (N:Net) {o:Pt} (ho:o.near) (hv:¬ ∃ a k,(a,0)∈N.E/\0<k/\k<N.len a/\N.pt a k=o):∃ l:List Int,(∀ e,e∈l↔N.isDart e/\N.sp e=o)/\l.Pairwise (fun a b=>lss o (N.sc a) (N.sc b)=true):=by
 obtain ⟨PI,hPI,hd⟩:=YQ (fun i=>(N.drawn.B i).h - (N.drawn.A i).h) (fun i=>N.drawn.hne i)
 obtain ⟨R1,R2,hR,hless⟩:=N.drawn.ring_less hPI hd (o:=o) (m:=o.h) ho rfl
 have fro:∀ z,z∈(N.drawn.rowed hPI hd).strips.ring o.h->N.drawn.fro z=o:=fun z hz=>zbj (N.drawn.near_fro z).1 ho ((N.drawn.mem_ring hPI hd).1 hz)
 have hin:∀ z:Dt (Ix N.E.length),(N.E[z.s].1,0)∈N.E:=fun z=>N.first (N.get_mem z.s)
 have key:∀ z,z∈(N.drawn.rowed hPI hd).strips.ring o.h->N.isDart (N.dart z)/\N.sp (N.dart z)=o/\N.sc (N.dart z)=N.drawn.to z:=fun z hz=>by
  have e:=fro z hz
  have hm:=N.mem _ _ (N.get_mem z.s)
  unfold Net.isDart Net.sp Net.sc Net.dart
  cases hf:N.fwd z
  ·obtain ⟨e1,e2⟩:=N.fro_bwd hf
   rw [e1] at e
   have hk:N.E[z.s].2+1=N.len N.E[z.s].1:=by
    by_cases hk:N.E[z.s].2+1<N.len N.E[z.s].1
    ·exact absurd ⟨_,_,hin z,by omega,hk,e⟩ hv
    ·omega
   simp only [zgk,if_false,ziv]
   rw [if_neg (by omega),if_neg (by omega),← hk,e2]
   exact ⟨.inr (hin z),e,by simp⟩
  ·obtain ⟨e1,e2⟩:=N.fro_fwd hf
   rw [e1] at e
   have hk:N.E[z.s].2=0:=by
    by_cases hk:0<N.E[z.s].2
    ·exact absurd ⟨_,_,hin z,hk,hm.2,e⟩ hv
    ·omega
   simp only [if_true]
   rw [if_pos (by omega),if_pos (by omega),e2,hk]
   rw [hk] at e
   exact ⟨.inl (hin z),e,rfl⟩
 have hmem:∀ z,z∈R2++R1↔z∈(N.drawn.rowed hPI hd).strips.ring o.h:=fun z=>by
  rw [hR,zhf,zhf]
  exact Or.comm
 refine ⟨(R2++R1).map N.dart,fun e=>⟨fun he=>?_,fun ⟨hde,hsp⟩=>?_⟩,?_⟩
 ·obtain ⟨z,hz,rfl⟩:=zgx.1 he
  obtain ⟨k1,k2,_⟩:=key z ((hmem z).1 hz)
  exact ⟨k1,k2⟩
 ·rcases hde with hde | hde
  ·have hp:=(N.mem _ _ hde).1
   obtain ⟨z,z1,z2⟩:=N.ex hde true
   refine zgx.2 ⟨z,(hmem z).2 ((N.drawn.mem_ring hPI hd).2 ?_),?_⟩
   ·unfold Net.sp at hsp
    rw [if_pos hp] at hsp
    rw [(N.fro_fwd z2).1,z1,hsp]
   ·unfold Net.dart
    rw [z2,if_pos rfl,z1]
  ·have hp:=(N.mem _ _ hde).1
   have hl:=(N.mem _ _ hde).2
   obtain ⟨z,z1,z2⟩:=N.ex (N.whole _ _ (N.len (-e) - 1) hde (by omega)) false
   refine zgx.2 ⟨z,(hmem z).2 ((N.drawn.mem_ring hPI hd).2 ?_),?_⟩
   ·unfold Net.sp at hsp
    rw [if_neg (by omega)] at hsp
    rw [(N.fro_bwd z2).1,z1]
    simp only
    rw [show N.len (-e) - 1+1=N.len (-e) by omega,hsp]
   ·unfold Net.dart
    rw [z2,if_neg (by decide),z1]
    simp only [ziv]
 ·rw [zhk]
  refine hless.imp_of_mem fun {a b} ha hb hab=>?_
  rw [(key a ((hmem a).1 ha)).2.2,(key b ((hmem b).1 hb)).2.2]
  exact hab
end
end Go.Proofs.YtdacpmgnhkmnkaaGreatDoor
end
section
namespace Go.Proofs.YtdacpmgnhkmnkaaGreatDoor
section
section
variable {α:Type} {r:α->α->Int}
def Pre (r:α->α->Int) (xs:List α) (a c:Nat):Prop:=∀ k x y,0<a->a<=k->k<c->xs[a - 1]?=some x->xs[k]?=some y->¬ r y x<0
end
end
section
def insI (n:Int):List Int->List Int
 | []=>[n]
 | x::l=>if x<n then x::insI n l else if x=n then x::l else n::x::l
def nrm (l:List Int):List Int:=l.foldl (fun o n=>insI n o) []
theorem mem_ins {n y:Int}:∀ {l:List Int},y∈insI n l↔y=n∨y∈l
 | []=>by simp [insI]
 | x::l=>by
  unfold insI
  split
  ·rw [zgf,mem_ins,zgf]
   constructor
   ·rintro (h | h | h)
    ·exact .inr (.inl h)
    ·exact .inl h
    ·exact .inr (.inr h)
   ·rintro (h | h | h)
    ·exact .inr (.inl h)
    ·exact .inl h
    ·exact .inr (.inr h)
  ·split
   ·rename_i h
    subst h
    rw [zgf]
    constructor
    ·exact fun h=>.inr h
    ·rintro (h | h)
     ·exact .inl h
     ·exact h
   ·rw [zgf]
theorem asc_ins {n:Int}:∀ {l:List Int},l.Pairwise (·<·)->(insI n l).Pairwise (·<·)
 | [],_=>by simp [insI]
 | x::l,h=>by
  have h2:=zib.1 h
  unfold insI
  split
  ·rw [zib]
   refine ⟨fun y hy=>?_,asc_ins h2.2⟩
   rcases mem_ins.1 hy with rfl | hy
   ·assumption
   ·exact h2.1 y hy
  ·split
   ·exact h
   ·rw [zib]
    refine ⟨fun y hy=>?_,h⟩
    rcases zgf.1 hy with rfl | hy
    ·omega
    ·have:=h2.1 y hy
     omega
theorem nrm_fold {l:List Int}:∀ {o:List Int},o.Pairwise (·<·)->(l.foldl (fun o n=>insI n o) o).Pairwise (·<·)/\∀ y,y∈l.foldl (fun o n=>insI n o) o↔y∈o∨y∈l:=by
 induction l with
 | nil=>exact fun h=>⟨h,fun y=>by simp⟩
 | cons x l ih =>
  intro o h
  obtain ⟨h1,h2⟩:=ih (asc_ins (n:=x) h)
  refine ⟨h1,fun y=>?_⟩
  rw [List.foldl_cons,h2,mem_ins,zgf]
  constructor
  ·rintro ((h | h) | h)
   ·exact .inr (.inl h)
   ·exact .inl h
   ·exact .inr (.inr h)
  ·rintro (h | h | h)
   ·exact .inl (.inr h)
   ·exact .inl (.inl h)
   ·exact .inr h
theorem nrm_asc (l:List Int):(nrm l).Pairwise (·<·):=(nrm_fold .nil).1
theorem mem_nrm {l:List Int} {y:Int}:y∈nrm l↔y∈l:=by
 have:=(nrm_fold (l:=l) .nil).2 y
 simpa [nrm] using this
theorem asc_ext:∀ {l l':List Int},l.Pairwise (·<·)->l'.Pairwise (·<·)->(∀ y,y∈l↔y∈l')->l=l'
 | [],[],_,_,_=>rfl
 | [],y::l',_,_,h=>by have:=(h y).2 (zgi ..); simp at this
 | x::l,[],_,_,h=>by have:=(h x).1 (zgi ..); simp at this
 | x::l,y::l',h1,h2,h=>by
  have g1:=zib.1 h1
  have g2:=zib.1 h2
  have hxy:x=y:=by
   rcases zgf.1 ((h x).1 (zgi ..)) with e | e
   ·exact e
   ·rcases zgf.1 ((h y).2 (zgi ..)) with e2 | e2
    ·exact e2.symm
    ·have a1:=g1.1 y e2
     have a2:=g2.1 x e
     omega
  subst hxy
  congr 1
  refine asc_ext g1.2 g2.2 fun z=>?_
  constructor
  ·intro hz
   rcases zgf.1 ((h z).1 (zgn _ hz)) with rfl | e
   ·have:=g1.1 z hz
    omega
   ·exact e
  ·intro hz
   rcases zgf.1 ((h z).2 (zgn _ hz)) with rfl | e
   ·have:=g2.1 z hz
    omega
   ·exact e
end
end Go.Proofs.YtdacpmgnhkmnkaaGreatDoor
end
section
namespace Go.Proofs.YtdacpmgnhkmnkaaGreatDoor
open Go Go.RowKit
section
theorem w_mod (a:Int):wrapI .i64 a % 18446744073709551616=a % 18446744073709551616:=by
 rw [zC]
 show (if (true&&decide (a % 18446744073709551616≥9223372036854775808))=true then a % 18446744073709551616 - 18446744073709551616 else a % 18446744073709551616) % 18446744073709551616=_
 split <;> omega
theorem w_congr {a b:Int} (h:a % 18446744073709551616=b % 18446744073709551616):wrapI .i64 a=wrapI .i64 b:=by
 rw [zC,zC]
 show (if (true&&decide (a % 18446744073709551616≥9223372036854775808))=true then a % 18446744073709551616 - 18446744073709551616 else a % 18446744073709551616)=(if (true&&decide (b % 18446744073709551616≥9223372036854775808))=true then b % 18446744073709551616 - 18446744073709551616 else b % 18446744073709551616)
 rw [h]
theorem w_add (a b:Int):wrapI .i64 (wrapI .i64 a+b)=wrapI .i64 (a+b):=w_congr (by have:=w_mod a; omega)
theorem w_add2 (a b:Int):wrapI .i64 (wrapI .i64 a+wrapI .i64 b)=wrapI .i64 (a+b):=w_congr (by have:=w_mod a; have:=w_mod b; omega)
def pxA (l:List Pt) (k:Nat):Int:=((l[k]?).map Pt.x).getD 0
def pyA (l:List Pt) (k:Nat):Int:=((l[k]?).map Pt.y).getD 0
noncomputable def crossK (l:List Pt):Nat->Int
 | 0=>0
 | 1=>0
 | k+2=>wrapI .i64 (crossK l (k+1)+wrapI .i64 (wrapI .i64 (pxA l k*pyA l (k+1)) - wrapI .i64 (pxA l (k+1)*pyA l k)))
noncomputable def crossA (p:Pn) (a:Ac):Int:=crossK (pathL p a.id) (pathL p a.id).length
noncomputable def ctrA (p:Pn) (parts:List Int) (a:Ac):Int:=bif parts.contains a.l==parts.contains a.r then 0 else bif parts.contains a.r then 0 - crossA p a else crossA p a
noncomputable def areaS (p:Pn) (parts:List Int) (l:List Ac):Int:=(l.map (ctrA p parts)).sum
theorem area_next {p:Pn} {parts:List Int} {l:List Ac} {k:Nat} {a:Ac} (h:l[k]?=some a):areaS p parts (l.take (k+1))=areaS p parts (l.take k)+ctrA p parts a:=by
 unfold areaS
 rw [zhb,h,zhq,zir,List.sum_append]
 simp
end
section
section
variable {S:ySM}
theorem pxA_at {l:List Pt} {k:Nat} {x:Pt} (h:l[k]?=some x):pxA l k=x.x:=by simp [pxA,h]
theorem pyA_at {l:List Pt} {k:Nat} {x:Pt} (h:l[k]?=some x):pyA l k=x.y:=by simp [pyA,h]
theorem area_in (hS:NoS S) {m D:Nat} {out:yLM} {K:yKM} (q:SlOf 2 Pt.c) (hm:q.l.length+10<=m) (own:yLO) (i n:Nat) (tw:Int) (rt:Bool) (asv:IV) (t:List IV) (hq:2<=q.l.length)
  (hfr:Slots 105 t [(2,.ptrM D 0 0),(4,.int .i64 tw),(5,.ptrM D 2 0),(10,.bool rt),(11,.int .i64 0),(12,q.v),(14,.int .i64 1),(37,asv),(38,iv n),(39,iv i)])
  (hK:∀ t' own',(∃ R,own'=own++R)->Slots 105 t' [(2,.ptrM D 0 0),(4,.int .i64 tw),(5,.ptrM D 2 0),(10,.bool rt),(11,.int .i64 (crossK q.l q.l.length)),(37,asv),(38,iv n),(39,iv i)]->K .normal ⟨t',own'⟩) :
  Ex (callN Ftab S m) D out m (i10.body.sub [1,1,1,0,1,0,0,1,1,0,0,1,1,1,1,1,0,1]) K ⟨t,own⟩:=by
 simp only [V3] at hfr
 have hqf:=q.few
 simp only [i10,IC.sub,V0,Xa,Xb,Xc,Xd,Xe,reduceCtorEq]
 refine zd (fun jj st=>∃ (k:Nat),q.l.length - k<=jj/\1<=k/\k<=q.l.length/\(∃ R,st.own=own++R)/\Slots 105 st.t [(2,.ptrM D 0 0),(4,.int .i64 tw),(5,.ptrM D 2 0),(10,.bool rt),(11,.int .i64 (crossK q.l k)),(12,q.v),(14,iv k),(37,asv),(38,iv n),(39,iv i)]) q.l.length (by omega) ⟨1,by omega,by omega,by omega,⟨[],by simp⟩,by simp only [V0,Xa,Xb,Xc,Xd,Xe,reduceCtorEq,hfr,show crossK q.l 1=0 from rfl,Int.natCast_one]⟩ ?_
 clear hfr
 rintro jj ⟨t,own2⟩ KA ⟨k,hjj,hk1,hk,⟨R,ho⟩,hfr⟩ hnA heA hrA
 dsimp only at ho hfr
 subst ho
 simp only [V3] at hfr
 by_cases h:k<q.l.length
 ·obtain ⟨j,rfl⟩:∃ j,k=j+1:=⟨k - 1,by omega⟩
  have hj:j<q.l.length:=by omega
  obtain ⟨x,hx⟩:=gx (l:=q.l) (i:=j) hj
  obtain ⟨y,hy⟩:=gx (l:=q.l) (i:=j+1) h
  have rx1:rdN (q.l.flatMap Pt.c) (j*2) 1=some [.int .i64 x.x]:=(zb Pt.c_len 0 1 hx (by omega)).trans rfl
  have rx2:rdN (q.l.flatMap Pt.c) (j*2+1) 1=some [.int .i64 x.y]:=(zb Pt.c_len 1 1 hx (by omega)).trans rfl
  have ry1:rdN (q.l.flatMap Pt.c) ((j+1)*2) 1=some [.int .i64 y.x]:=(zb Pt.c_len 0 1 hy (by omega)).trans rfl
  have ry2:rdN (q.l.flatMap Pt.c) ((j+1)*2+1) 1=some [.int .i64 y.y]:=(zb Pt.c_len 1 1 hy (by omega)).trans rfl
  have hwm:wrapI .i64 (((j+1:Nat):Int) - 1)=((j:Nat):Int):=we
  have hw:wrapI .i64 (((j+1:Nat):Int)+1)=((j+1+1:Nat):Int):=we
  have hc:crossK q.l (j+1+1)=wrapI .i64 (crossK q.l (j+1)+wrapI .i64 (wrapI .i64 (x.x*y.y) - wrapI .i64 (y.x*x.y))):=by
   rw [crossK,pxA_at hx,pyA_at hy,pxA_at hy,pyA_at hx]
  simp only [V0,Xa,Xb,Xc,Xd,Xe,reduceCtorEq,hfr,h,za q h,za q hj,rx1,rx2,ry1,ry2,hwm]
  refine ⟨by simp [comm],?_⟩
  simp only [V0,Xa,Xb,Xc,Xd,Xe,reduceCtorEq,hfr,hw]
  exact hnA _ (q.l.length - (j+1+1)) (by omega) ⟨j+1+1,by omega,by omega,by omega,⟨_,rfl⟩,by simp only [V0,Xa,Xb,Xc,Xd,Xe,reduceCtorEq,hfr,hw,hc]⟩
 ·obtain rfl:k=q.l.length:=by omega
  simp only [V0,Xa,Xb,Xc,Xd,Xe,reduceCtorEq,hfr,h]
  refine heA _ _ ?_
  simp only [V0,Xa,Xb,Xc,Xd,Xe,reduceCtorEq]
  exact hK _ _ ⟨_,rfl⟩ (by simp only [V0,Xa,Xb,Xc,Xd,Xe,reduceCtorEq,hfr])
end
end
section
def ArcAt (S:ySM) (m:Nat) (p:Pn) (q:SlOf 1 intc) (a:Ac):Prop:=(∀ d out ownV own i,callN Ftab S m d out ownV own i 37 [q.v,.int .i64 a.l]=some (.r,.bool (q.l.contains a.l),own))/\(∀ d out ownV own i,callN Ftab S m d out ownV own i 37 [q.v,.int .i64 a.r]=some (.r,.bool (q.l.contains a.r),own))/\∃ k:SlOf 2 Pt.c,k.l=pathL p a.id/\∀ d out ownV own i,callN Ftab S m d out ownV own i 38 [.agg p.c,.int .i64 a.id]=some (.r,.tuple [k.v,.int .i64 0],own)
section
variable {S:ySM}
theorem at_areaP (hS:NoS S) (s:Sv) (id:Int) (f:Ft) (hfd:findD s id=f) (hok:findOk s id=true) (h3:shapeI f.kind=3) {Np:Nat} (hpc:GivesN S Np 36 [.agg s.pl.c] (.int .i64 0)) (hp:∀ a∈s.pl.az.l,pathOk s.pl a.id=true) (hfv:FewVia s.pl) (hpa:∀ g∈s.ft.l,g.parts.l.length<=1000):∃ N,GivesN S N 10 [.agg s.c,iv id] (.int .i64 (wrapI .i64 (areaS s.pl f.parts.l s.pl.az.l))):=by
 obtain ⟨q,hq,N1,hN1⟩:=zes hS s id (fun g hg=>by have:=hpa g hg; omega)
 have hq2:q.l=f.parts.l:=by rw [hq,← hfd]; rfl
 have e1:((s.ft.l.find? fun f=>f.id==id).getD zFt)=f:=hfd
 have e2:(s.ft.l.find? fun f=>f.id==id).isSome=true:=hok
 rw [e1,e2] at hN1
 have harc:∀ a∈s.pl.az.l,∃ N,∀ m,N<=m->ArcAt S m s.pl q a:=fun a ha=>by
  obtain ⟨M1,hM1⟩:=Zm hS q a.l
  obtain ⟨M2,hM2⟩:=Zm hS q a.r
  obtain ⟨k,hk,M3,hM3⟩:=Zo hS s.pl a.id hfv
  rw [hp a ha] at hM3
  exact ⟨M1+M2+M3,fun m hm=>⟨fun d out ownV own i=>hM1 m (by omega) d out ownV own i,fun d out ownV own i=>hM2 m (by omega) d out ownV own i,k,hk (hp a ha),fun d out ownV own i=>hM3 m (by omega) d out ownV own i⟩⟩
 obtain ⟨N2,hN2⟩:=Yv s.pl.az.l harc
 have hs3:((3:Int) != 3)=false:=by decide
 refine ⟨N1+N2+Np+s.pl.az.l.length+200100,zh (i:=i10) (ns hS (by rfl)) rfl rfl (lb rfl) (N1+N2+Np+s.pl.az.l.length+200099) (by omega) zo fun m hm d out t hfr=>?_⟩
 simp only [V2,Xb,i10,Sv.c,zf] at hfr
 have c1:=hN1 m (by omega)
 have c2:=Zu hS f.kind m (by omega)
 have c3:=hpc m (by omega)
 rw [h3] at c2
 simp only [Sv.c,Pn.c,Ft.c,zf] at c1 c2 c3
 have hIn:=fun K k hmq own i n tw rt asv t hq hfr hK=>@area_in S hS m d out K k hmq own i n tw rt asv t hq hfr hK
 rw [show i10.body=.seq (i10.body.sub [0]) (.seq (i10.body.sub [1,0]) (.seq (i10.body.sub [1,1,0]) (.seq (.seq (i10.body.sub [1,1,1,0,0]) (.block 0 (.loop (.seq (i10.body.sub [1,1,1,0,1,0,0,0]) (.seq (i10.body.sub [1,1,1,0,1,0,0,1,0]) (.seq (.block 1 (.seq (i10.body.sub [1,1,1,0,1,0,0,1,1,0,0,0]) (.seq (i10.body.sub [1,1,1,0,1,0,0,1,1,0,0,1,0]) (.seq (i10.body.sub [1,1,1,0,1,0,0,1,1,0,0,1,1,0]) (.seq (i10.body.sub [1,1,1,0,1,0,0,1,1,0,0,1,1,1,0]) (.seq (i10.body.sub [1,1,1,0,1,0,0,1,1,0,0,1,1,1,1,0]) (.seq (.seq (i10.body.sub [1,1,1,0,1,0,0,1,1,0,0,1,1,1,1,1,0,0]) (i10.body.sub [1,1,1,0,1,0,0,1,1,0,0,1,1,1,1,1,0,1])) (i10.body.sub [1,1,1,0,1,0,0,1,1,0,0,1,1,1,1,1,1])))))))) (i10.body.sub [1,1,1,0,1,0,0,1,1,1]))))))) (i10.body.sub [1,1,1,1])))) from rfl]
 generalize i10.body.sub [1,1,1,0,1,0,0,1,1,0,0,1,1,1,1,1,0,1]=T at hIn ⊢
 have hlf:=s.pl.az.few
 have h33:((3:Int) != 3)=false:=by decide
 have h00:((0:Int) != 0)=false:=by decide
 have hz0:wrapI .i64 (areaS s.pl f.parts.l (s.pl.az.l.take 0))=0:=by
  have:areaS s.pl f.parts.l (s.pl.az.l.take 0)=0:=rfl
  rw [this,zC]
  decide
 simp only [i10,IC.sub,V0,Xa,Xb,Xc,Xd,Xe,reduceCtorEq,hfr,c1,c2,c3,h33,h00]
 refine zd (fun jj st=>∃ (i:Nat) (x1:IObj) (R:yLO),s.pl.az.l.length - i<=jj/\i<=s.pl.az.l.length/\st.own=.cells s.c::x1::.cells [.int .i64 f.id,.int .i64 f.kind,.int .i64 f.cls,.str f.name.1,q.v]::R/\Slots 105 st.t [(2,.ptrM d 0 0),(4,.int .i64 (wrapI .i64 (areaS s.pl f.parts.l (s.pl.az.l.take i)))),(5,.ptrM d 2 0),(37,s.pl.az.v),(38,iv (s.pl.az.l.length:Nat)),(39,iv i)]) s.pl.az.l.length (by omega) ⟨0,_,_,by omega,by omega,rfl,by simp only [V0,Xa,Xb,Xc,Xd,Xe,reduceCtorEq,hfr,hz0,zg4]⟩ ?_
 clear hfr
 rintro jj ⟨t,own⟩ KA ⟨i,x1,R,hjj,hi,ho,hfr⟩ hnA heA hrA
 dsimp only at ho hfr
 subst ho
 simp only [V3] at hfr
 by_cases h:i<s.pl.az.l.length
 ·have hx:s.pl.az.l[i]?=some s.pl.az.l[i]:=zf0 h
  have hmem:s.pl.az.l[i]∈s.pl.az.l:=zgt h
  generalize s.pl.az.l[i]=a at hx hmem
  have hrd:rdN (s.pl.az.l.flatMap Ac.c) (i*6) 6=some [.int .i64 a.id,.int .i64 a.fr,.int .i64 a.to,a.via.v,.int .i64 a.l,.int .i64 a.r]:=(zb Ac.c_len 0 6 hx (by omega)).trans rfl
  have hw:wrapI .i64 ((i:Int)+1)=((i+1:Nat):Int):=we
  obtain ⟨cl,cr,k,hk,cp⟩:=hN2 a hmem m (by omega)
  simp only [Pn.c] at cp
  rw [hq2] at cl cr
  have hkl:2<=k.l.length/\k.l.length<=100002:=by
   rw [hk]
   unfold pathL
   have:=fewD hfv a.id
   simp only [zf3,zga,zgb]
   omega
  have han:=area_next (p:=s.pl) (parts:=f.parts.l) hx
  have gE:∀ (a b c x:IObj) (r:yLO),(a::b::c::(R++x::r))[R.length+1+1+1]?=some x:=fun a b c x r=>by
   simp only [zgc]
   rw [YI]
  have sE:∀ (a b c x v:IObj) (r:yLO),(a::b::c::(R++x::r)).set (R.length+1+1+1) v=a::b::c::(R++v::r):=fun a b c x v r=>by
   simp only [zim]
   rw [YJ]
  have hE:∀ (vis:List Nat) (a b c x:IObj) (r:yLO),(hide vis (R.length+1+1+1+1) (a::b::c::(R++x::r)))[R.length+1+1+1]?=some x:=fun vis a b c x r=>by
   rw [zw,gE,zf2,if_pos (by simp)]
  cases hlr:f.parts.l.contains a.l==f.parts.l.contains a.r
  ·have hI:=fun K own i n tw rt asv t hfr hK=>hIn K k (by omega) own i n tw rt asv t hkl.1 hfr hK
   simp only [V0,Xa,Xb,Xc,Xd,Xe,reduceCtorEq,hfr,h,za s.pl.az h,hrd,gE,sE,hE,cl,cr,Sv.c]
   refine ⟨by simp [comm],?_⟩
   simp only [V0,Xa,Xb,Xc,Xd,Xe,reduceCtorEq,hfr,gE,sE,hE,cl,cr,cp,eqbI,hlr,zep,Sv.c]
   refine hI _ _ i s.pl.az.l.length (wrapI .i64 (areaS s.pl f.parts.l (s.pl.az.l.take i))) (f.parts.l.contains a.r) s.pl.az.v _ (by simp only [V0,Xa,Xb,Xc,Xd,Xe,reduceCtorEq,hfr]) fun t' own' ⟨R2,ho2⟩ ht=>?_
   clear hfr
   simp only [V3] at ht
   subst ho2
   have hcr:crossK k.l k.l.length=crossA s.pl a:=by
    unfold crossA
    rw [hk]
   cases hr:f.parts.l.contains a.r
   ·have hct:ctrA s.pl f.parts.l a=crossA s.pl a:=by
     unfold ctrA
     rw [hlr,hr]
     rfl
    rw [hct] at han
    have hsum:wrapI .i64 (wrapI .i64 (areaS s.pl f.parts.l (s.pl.az.l.take i))+crossA s.pl a)=wrapI .i64 (areaS s.pl f.parts.l (s.pl.az.l.take (i+1))):=by rw [w_add,han]
    simp only [V0,Xa,Xb,Xc,Xd,Xe,reduceCtorEq,ht,hr,hcr,hsum,hw]
    exact hnA _ (s.pl.az.l.length - (i+1)) (by omega) ⟨i+1,x1,_,by omega,by omega,rfl,by simp only [V0,Xa,Xb,Xc,Xd,Xe,reduceCtorEq,ht,hr,hcr,hsum,hw]⟩
   ·have hct:ctrA s.pl f.parts.l a=0 - crossA s.pl a:=by
     unfold ctrA
     rw [hlr,hr]
     rfl
    rw [hct] at han
    have hsum:wrapI .i64 (wrapI .i64 (areaS s.pl f.parts.l (s.pl.az.l.take i))+wrapI .i64 (0 - crossA s.pl a))=wrapI .i64 (areaS s.pl f.parts.l (s.pl.az.l.take (i+1))):=by rw [w_add2,han]
    simp only [V0,Xa,Xb,Xc,Xd,Xe,reduceCtorEq,ht,hr,hcr,hsum,hw]
    exact hnA _ (s.pl.az.l.length - (i+1)) (by omega) ⟨i+1,x1,_,by omega,by omega,rfl,by simp only [V0,Xa,Xb,Xc,Xd,Xe,reduceCtorEq,ht,hr,hcr,hsum,hw]⟩
  ·have hct:ctrA s.pl f.parts.l a=0:=by
    unfold ctrA
    rw [hlr]
    rfl
   rw [hct,Int.add_zero] at han
   simp only [V0,Xa,Xb,Xc,Xd,Xe,reduceCtorEq,hfr,h,za s.pl.az h,hrd,gE,sE,hE,cl,cr,Sv.c]
   refine ⟨by simp [comm],?_⟩
   simp only [V0,Xa,Xb,Xc,Xd,Xe,reduceCtorEq,hfr,gE,sE,hE,cl,cr,eqbI,hlr,eqs_tt,hw,Sv.c]
   exact hnA _ (s.pl.az.l.length - (i+1)) (by omega) ⟨i+1,x1,_,by omega,by omega,rfl,by simp only [V0,Xa,Xb,Xc,Xd,Xe,reduceCtorEq,hfr,hw,han]⟩
 ·rw [zgg (by omega)] at hfr
  simp only [V0,Xa,Xb,Xc,Xd,Xe,reduceCtorEq,hfr,h]
  refine heA _ _ ?_
  simp only [V0,Xa,Xb,Xc,Xd,Xe,reduceCtorEq,hfr]
end
end
section
theorem flat_take {α:Type} {g:α->List IV} {sz:Nat} (hg:∀ a,(g a).length=sz) {l:List α} {i:Nat} (h:i<=l.length):(l.flatMap g).take (i*sz)=(l.take i).flatMap g:=by
 conv=>lhs; rw [← zih i l,List.flatMap_append]
 rw [List.take_left' (by rw [zq hg,zhx,Nat.min_eq_left h])]
theorem flat_drop {α:Type} {g:α->List IV} {sz:Nat} (hg:∀ a,(g a).length=sz) {l:List α} {i:Nat} (h:i<=l.length):(l.flatMap g).drop (i*sz)=(l.drop i).flatMap g:=by
 conv=>lhs; rw [← zih i l,List.flatMap_append]
 rw [List.drop_left' (by rw [zq hg,zhx,Nat.min_eq_left h])]
theorem slice_lo {sz:Nat} {α:Type} {g:α->List IV} (hg:∀ a,(g a).length=sz) (q:SlOf sz g) {i:Nat} (h:i<=q.l.length) (h0:q.l.length≠0):∃ q2:SlOf sz g,q2.l=q.l.drop i/\∀ (t:List IV) (x:Opd),ρ t x=.int .i64 (i:Int)->sliceI sz t q.v (some x) none none=some q2.v:=by
 have hh:∀ (cs:List IV) (n:Nat) (v:IV),Sl sz cs n v->n≠0->i<=n->∃ tight,∀ (t:List IV) (x:Opd),ρ t x=.int .i64 (i:Int)->sliceI sz t v (some x) none none=some (.slC ((cs.drop (i*sz)).take ((n - i)*sz)) (n - i) sz tight):=fun cs n v hs hn hi=>by
  cases hs with
  | nil=>exact absurd rfl hn
  | row cs n tight hl =>
   refine ⟨tight&&n==n,fun t x hx=>?_⟩
   simp only [sliceI,optI,hx,yb,zc,Option.isSome_none,zgk,if_false]
   rw [if_pos ⟨⟨zf7 _,zf7 _,hi⟩,trivial⟩]
 obtain ⟨tight,h1⟩:=hh _ _ _ q.ok h0 h
 have e:((q.l.flatMap g).drop (i*sz)).take ((q.l.length - i)*sz)=(q.l.drop i).flatMap g:=by
  rw [flat_drop hg h,zgg]
  rw [zq hg,zin]
  exact zf7 _
 refine ⟨mkRow hg (q.l.drop i) (q.l.length - i) tight (by rw [zin]) (by have:=q.few; omega),rfl,fun t x hx=>?_⟩
 rw [h1 t x hx,e]
 rfl
theorem slOf_cl {sz n:Nat} {α:Type} {g:α->List IV} (hg:∀ a,(g a).all (clF (n+1))=true) (q:SlOf sz g):clF (n+2) q.v=true:=by
 have hh:∀ (cs:List IV) (k:Nat) (v:IV),Sl sz cs k v->cs.all (clF (n+1))=true->clF (n+2) v=true:=fun cs k v hs hc=>by
  cases hs with
  | nil=>rfl
  | row cs k tight hl=>exact hc
 refine hh _ _ _ q.ok ?_
 rw [zhg]
 intro x hx
 obtain ⟨a,_,hxa⟩:=zh1.1 hx
 exact zhg.1 (hg a) x hxa
theorem ns_cl (q:SlOf 3 Nd.c) (n:Nat):clF (n+2) q.v=true:=slOf_cl (fun a=>by simp [Nd.c,zf,clF]) q
theorem as_cl (q:SlOf 6 Ac.c) (n:Nat):clF (n+3) q.v=true:=slOf_cl (n:=n+1) (fun a=>by
  rw [zhg]
  intro x hx
  simp only [Ac.c,zf,zgf,zg1,or_false] at hx
  rcases hx with rfl | rfl | rfl | rfl | rfl | rfl <;> first | rfl | exact pts_cl a.via n) q
theorem parts_cl (q:SlOf 1 intc) (n:Nat):clF (n+2) q.v=true:=slOf_cl (fun a=>by simp [intc,zf,clF]) q
theorem ft_fz (a:Ft):∀ x∈a.c,Fz 2 x:=fun x hx=>by
 refine zbi (n:=2) ?_
 simp only [Ft.c,zf,zgf,zg1,or_false] at hx
 rcases hx with rfl | rfl | rfl | rfl | rfl <;> first | rfl | exact parts_cl a.parts 0
theorem sv_fz {m d b n:Nat} {own:yLO} (p:Pn) (xs:List Ft) (hl:xs.length=n) (hm:6<=m) (hx:n<9223372036854775808) (h:own[b]?=some (.cells (xs.flatMap Ft.c))):freeze m d own (.agg [p.ns.v,p.az.v,p.fs.v,.slM d b 0 n n 5 false])=some (.agg [p.ns.v,p.az.v,p.fs.v,(mkRow Ft.c_len xs n false hl hx).v]):=by
 obtain ⟨m,rfl⟩:∃ q,m=q+1:=⟨m - 1,by omega⟩
 have f1:=zbi (ns_cl p.ns 0) m (by omega) d own
 have f2:=zbi (as_cl p.az 0) m (by omega) d own
 have f3:=zbi (parts_cl p.fs 0) m (by omega) d own
 have f4:freeze m d own (.slM d b 0 n n 5 false)=some (mkRow Ft.c_len xs n false hl hx).v:=yW (k:=2) ft_fz (by omega) hl Ft.c_len h
 exact freeze_agg (mapM_c f1 (mapM_c f2 (mapM_c f3 (mapM_c f4 mapM_n))))
end
section
structure DK where
 sz:Nat
 z:List IV
 idx:FuncId
 ids:FuncId
 eqn:FuncId
 dif:FuncId
end
section
section
variable {S:ySM}
theorem with_gives (hS:NoS S) (s:Sv) (i:Nat) (f:Ft) (hi:s.ft.l[i]?=some f) (q:SlOf 1 intc) (hl:s.ft.l.length<=1000):∃ w:SlOf 5 Ft.c,w.l=s.ft.l.set i { f with parts:=q }/\GivesN S 10 12 [.agg s.c,iv i,q.v] (.agg [s.pl.ns.v,s.pl.az.v,s.pl.fs.v,w.v]):=by
 have hlt:i<s.ft.l.length:=(zfz.1 hi).1
 have hlen:(s.ft.l.set i { f with parts:=q }).length=s.ft.l.length:=zid
 have hwr:wrN (s.ft.l.flatMap Ft.c) (i*5+4) [q.v]=(s.ft.l.set i { f with parts:=q }).flatMap Ft.c:=zbh Ft.c_len hi (by simp) rfl
 have hfit:i*5+4+1<=(s.ft.l.flatMap Ft.c).length:=by
  rw [zq Ft.c_len]
  omega
 refine ⟨mkRow Ft.c_len (s.ft.l.set i { f with parts:=q }) s.ft.l.length false hlen s.ft.few,rfl,yg (i:=i12) (ns hS (by rfl)) rfl rfl (lb rfl) 9 fun m hm d out t hfr=>?_⟩
 simp only [V2,Xb,i12,Sv.c,zf] at hfr
 have hap:∀ lk (a b:IObj),appendI d 2 lk [a,b,.free] 5 (.slC [] 0 5 true) (s.ft.l.flatMap Ft.c) s.ft.l.length 0=some (.a,.slM d 2 0 s.ft.l.length s.ft.l.length 5 false,[a,b,.cells (s.ft.l.flatMap Ft.c)]):=fun lk a b=>by
  rw [app_row (by omega) (by omega)]
  rfl
 have rep0:∀ l:List IV,rep l 0=[]:=fun l=>rfl
 simp only [i12,V0,sevalprocAttr,hfr,rep0,zt,zJ,zT,yV,hap,zK,hlt,hwr,hfit,yo]
 exact ⟨_,rfl,sv_fz s.pl _ hlen (by omega) s.ft.few rfl⟩
end
end
section
theorem slice_hi {sz:Nat} {α:Type} {g:α->List IV} (hg:∀ a,(g a).length=sz) (q:SlOf sz g) {i:Nat} (h:i<=q.l.length):∃ q2:SlOf sz g,q2.l=q.l.take i/\∀ (t:List IV) (x:Opd),ρ t x=.int .i64 (i:Int)->sliceI sz t q.v none (some x) none=some q2.v:=by
 have hh:∀ (cs:List IV) (n:Nat) (v:IV),Sl sz cs n v->i<=n->(v=.nilsl/\n=0)∨∃ tight,∀ (t:List IV) (x:Opd),ρ t x=.int .i64 (i:Int)->sliceI sz t v none (some x) none=some (.slC (cs.take (i*sz)) i sz tight):=fun cs n v hs hi=>by
  cases hs with
  | nil=>exact .inl ⟨rfl,rfl⟩
  | row cs n tight hl =>
   refine .inr ⟨tight&&i==n,fun t x hx=>?_⟩
   simp only [sliceI,optI,hx,yb,zc,Option.isSome_none,zgk,if_false]
   rw [if_pos ⟨⟨zf7 _,by omega,Nat.zero_le _⟩,trivial⟩]
   simp
 rcases hh _ _ _ q.ok h with ⟨h1,h2⟩ | ⟨tight,h1⟩
 ·refine ⟨q,by rw [zgg (by omega)],fun t x hx=>?_⟩
  rw [h1]
  obtain rfl:i=0:=by omega
  simp only [sliceI,optI,hx,yb]
  rfl
 have hli:(q.l.take i).length=i:=by rw [zhx,Nat.min_eq_left h]
 refine ⟨mkRow hg (q.l.take i) i tight hli (by have:=q.few; omega),rfl,fun t x hx=>?_⟩
 rw [h1 t x hx,flat_take hg h]
 rfl
end
section
noncomputable def aroundR (p:Pn) (node:Int):List Int:=match nodeF p node with
 | none=>[]
 | some nd=>selL (dartsAt p node) (rkL (lessR nd.at') ((dartsAt p node).map (secZ p)))
theorem zc4 (p:Pn) (node:Int):(dartsAt p node).length<=2*p.az.l.length:=by
 unfold dartsAt
 have:∀ l:List Ac,(l.flatMap (dartsA node)).length<=2*l.length:=fun l=>by
  induction l with
  | nil=>simp
  | cons a l ih =>
   rw [zgj,zga,zf3]
   have:(dartsA node a).length<=2:=by
    unfold dartsA
    split <;> split <;> simp
   omega
 exact this _
end
section
noncomputable def dartsR (p:Pn):List Int:=(p.az.l.reverse.map fun a=>ngI a.id)++p.az.l.map Ac.id
end
section
noncomputable def rotD (l:List Int):List Int:=(l.drop 1++l.take 1).map ngI
theorem rotD_len (l:List Int):(rotD l).length=l.length:=by
 unfold rotD
 rw [zgw,zga,zin,zhx]
 omega
theorem rotD_get {l:List Int} {k:Nat} (hk:k<l.length) {x:Int} (hx:l[(k+1) % l.length]?=some x):(rotD l)[k]?=some (ngI x):=by
 unfold rotD
 rw [zgd]
 by_cases h:k+1<l.length
 ·rw [Nat.mod_eq_of_lt h] at hx
  rw [zf1 (by rw [zin]; omega),List.getElem?_drop,Nat.add_comm,hx]
  rfl
 ·have e:k+1=l.length:=by omega
  rw [e,Nat.mod_self] at hx
  rw [zf4 (by rw [zin]; omega),zin,show k - (l.length - 1)=0 by omega]
  cases l with
  | nil=>simp at hk
  | cons y l=>simp only [List.take_succ_cons,zis,zg8] at hx ⊢; rw [hx]; rfl
noncomputable def folD (p:Pn):List Int:=p.ns.l.flatMap fun n=>rotD (aroundR p n.id)
noncomputable def folN (p:Pn):List Int:=p.ns.l.flatMap fun n=>aroundR p n.id
end
section
def nxTo (ds nx:List Int) (z:Int):Nat->Int
 | 0=>0
 | i+1=>match ds[i]?,nx[i]? with
  | some a,some b=>if (a==z)=true then b else nxTo ds nx z i
  | _,_=>nxTo ds nx z i
def nxR (ds nx:List Int) (z:Int):Int:=nxTo ds nx z ds.length
def lastI (l:List Int):Int:=(l[l.length - 1]?).getD 0
def cycGo (f:Int->Int) (dart:Int):Nat->List Int->List Int
 | 0,l=>l
 | k+1,l=>if (f (lastI l)==dart)=true then l else cycGo f dart k (l++[f (lastI l)])
def cycR (ds nx:List Int) (dart:Int):List Int:=cycGo (nxR ds nx) dart ds.length [dart]
theorem zck {f:Int->Int} {dart:Int}:∀ (k:Nat) (l:List Int),l.length<=(cycGo f dart k l).length/\(cycGo f dart k l).length<=l.length+k
 | 0,l=>⟨zf7 _,by simp [cycGo]⟩
 | k+1,l=>by
  unfold cycGo
  split
  ·omega
  ·have:=zck (f:=f) (dart:=dart) k (l++[f (lastI l)])
   rw [zga,zf3,zgb] at this
   omega
end
section
def cysGo {β:Type} (f:Int->β) (g:β->List Int):List Int->List Int->List β->List β
 | [],_,o=>o
 | z::ds,met,o=>if met.contains z=true then cysGo f g ds met o else cysGo f g ds (met++g (f z)) (o++[f z])
theorem cysGo_map {β:Type} (f:Int->β) (g:β->List Int):∀ (ds met:List Int) (o:List β),(cysGo f g ds met o).map g=cysGo (fun z=>g (f z)) id ds met (o.map g)
 | [],_,_=>rfl
 | z::ds,met,o=>by
  unfold cysGo
  split
  ·exact cysGo_map f g ds met o
  ·rw [cysGo_map f g ds _ _,zir]
   rfl
theorem YR {β:Type} (f:Int->β) (g:β->List Int):∀ (ds met:List Int) (o:List β),(cysGo f g ds met o).length<=o.length+ds.length
 | [],_,_=>by simp [cysGo]
 | z::ds,met,o=>by
  unfold cysGo
  split
  ·have:=YR f g ds met o
   rw [zf3]; omega
  ·have:=YR f g ds (met++g (f z)) (o++[f z])
   rw [zga,zf3,zgb] at this
   rw [zf3]; omega
noncomputable def cyclesR (p:Pn):List (List Int):=cysGo (cycR (folD p) (folN p)) id (dartsR p) [] []
end
section
noncomputable def okA (p:Pn) (z:Int):Bool:=p.az.l.any fun a=>a.id==z||a.id==ngI z
noncomputable def twStep (acc:Int) (a b:Pt):Int:=wrapI .i64 (wrapI .i64 (acc+wrapI .i64 (a.x*b.y)) - wrapI .i64 (b.x*a.y))
noncomputable def twTo (l:List Pt) (acc:Int):Nat->Int
 | 0=>acc
 | k+1=>match l[k]?,l[k+1]? with
  | some a,some b=>twStep (twTo l acc k) a b
  | _,_=>twTo l acc k
noncomputable def twP (l:List Pt) (acc:Int):Int:=twTo l acc (l.length - 1)
noncomputable def twR (p:Pn) (l:List Int):Int:=l.foldl (fun acc z=>twP (pathZ p z) acc) 0
end
section
def GD (p:Pn) (z:Int):Prop:=∃ a∈p.az.l,(1<=a.id/\a.id<=4611686018427387904)/\(z=a.id∨z=-a.id)/\pathOk p a.id=true
theorem ng_eq {z:Int} (h1:-4611686018427387904<=z) (h2:z<=4611686018427387904):ngI z=-z:=by
 unfold ngI
 rw [Int.zero_sub]
 exact zX rfl (by omega) (by omega)
theorem gd_abs {p:Pn} {z:Int} (h:GD p z):(absI z=z/\0<z∨absI z=ngI z/\¬ 0<z)/\pathOk p (absI z)=true/\pathZok p z/\okA p z=true/\z≠0/\-4611686018427387904<=z/\z<=4611686018427387904:=by
 obtain ⟨a,ha,⟨h1,h2⟩,hz,hok⟩:=h
 have hn:ngI z=-z:=ng_eq (by rcases hz with rfl | rfl <;> omega) (by rcases hz with rfl | rfl <;> omega)
 have hab:absI z=a.id:=abs_id h1 h2 (by
  rcases hz with h | h
  ·exact .inl h
  ·exact .inr (by rw [h,← ng_eq (z:=a.id) (by omega) h2]; rfl))
 have hA:okA p z=true:=by
  unfold okA
  rw [zh5]
  refine ⟨a,ha,?_⟩
  rw [zha,beq_iff_eq,beq_iff_eq,hn]
  omega
 refine ⟨?_,by rw [hab]; exact hok,?_,hA,by omega,by omega,by omega⟩
 ·rw [hab,hn]
  omega
 ·unfold pathZok
  rw [hn]
  rcases hz with rfl | rfl
  ·rw [if_pos (by omega)]; exact hok
  ·rw [if_neg (by omega),ziv]; exact hok
noncomputable def beforeI (a b:Int):Bool:=decide (absI a<absI b)||(absI a==absI b&&decide (b<a))
noncomputable def keyTo (l:List Int) (k:Int):Nat->Int
 | 0=>k
 | i+1=>match l[i]? with
  | some x=>if beforeI x (keyTo l k i)=true then x else keyTo l k i
  | none=>keyTo l k i
noncomputable def keyI (l:List Int):Int:=keyTo l ((l[0]?).getD 0) l.length
noncomputable def s10 (a b c:Pt):Int:=bif decide (0<twI a b c) then 1 else bif decide (twI a b c<0) then -1 else 0
noncomputable def on10 (a b p:Pt):Bool:=(s10 a b p==0)&&(decide (mnI a.x b.x<=p.x)&&(decide (p.x<=mxI a.x b.x)&&(decide (mnI a.y b.y<=p.y)&&decide (p.y<=mxI a.y b.y))))
end
section
section
variable {p:Pn} (h:Good0 p)
include h
theorem Good0.ng {a:Ac} (ha:a∈p.az.l):ngI a.id=-a.id:=by
 have:=h.pid a ha
 exact ng_eq (by omega) (by omega)
theorem Good0.ng2 {a:Ac} (ha:a∈p.az.l):ngI (-a.id)=a.id:=by
 have:=h.pid a ha
 rw [ng_eq (by omega) (by omega),ziv]
theorem Good0.inE {a:Ac} (ha:a∈p.az.l):(a.id,0)∈h.net.E:=by
 have:=zF (p:=p) (a:=a)
 exact zgx.2 ⟨_,Yk ha (show 0<(lineR p a).length - 1 by omega),rfl⟩
theorem Good0.ofE {z:Int} {k:Nat} (hz:(z,k)∈h.net.E):∃ a∈p.az.l,a.id=z/\k<(lineR p a).length - 1:=by
 obtain ⟨s,hs,e⟩:=zgx.1 hz
 obtain ⟨x,hx,i,hi,rfl⟩:=y9 hs
 cases e
 exact ⟨x,hx,rfl,hi⟩
theorem Good0.len {a:Ac} (ha:a∈p.az.l):h.net.len a.id=(lineR p a).length - 1:=by
 show (pathL p a.id).length - 1=_
 rw [(h.nice.path ha).2]
theorem Good0.pt {a:Ac} (ha:a∈p.az.l) (k:Nat):h.net.pt a.id k=(lineR p a).getD k zPt:=by
 show (pathL p a.id).getD k zPt=_
 rw [(h.nice.path ha).2]
theorem Good0.dart_iff {z:Int}:h.net.isDart z↔∃ a∈p.az.l,z=a.id∨z=-a.id:=by
 constructor
 ·rintro (hz | hz)
  ·obtain ⟨a,ha,e,_⟩:=h.ofE hz
   exact ⟨a,ha,.inl e.symm⟩
  ·obtain ⟨a,ha,e,_⟩:=h.ofE hz
   exact ⟨a,ha,.inr (by omega)⟩
 ·rintro ⟨a,ha,rfl | rfl⟩
  ·exact .inl (h.inE ha)
  ·exact .inr (by rw [ziv]; exact h.inE ha)
omit h in
theorem line_last {a:Ac}:(lineR p a).getD ((lineR p a).length - 1) zPt=(nodeD p a.to).at':=by
 unfold lineR
 rw [zf8,zf3,zga,zf3,zgb,show a.via.l.length+(0+1)+1 - 1=a.via.l.length+1 by omega,zgc,zf4 (zf7 _),zit]
 rfl
theorem Good0.sp_pos {a:Ac} (ha:a∈p.az.l):h.net.sp a.id=(nodeD p a.fr).at'/\h.net.sc a.id=secZ p a.id:=by
 have hid:=h.pid a ha
 have h2:=zF (p:=p) (a:=a)
 unfold Net.sp Net.sc
 rw [if_pos (by omega),if_pos (by omega),h.pt ha,h.pt ha]
 refine ⟨rfl,?_⟩
 unfold secZ pathZ
 rw [decide_eq_true (show 0<a.id by omega),cond_true,(h.nice.path ha).2,zf8]
 rfl
theorem Good0.sp_neg {a:Ac} (ha:a∈p.az.l):h.net.sp (-a.id)=(nodeD p a.to).at'/\h.net.sc (-a.id)=secZ p (-a.id):=by
 have hid:=h.pid a ha
 have h2:=zF (p:=p) (a:=a)
 unfold Net.sp Net.sc
 rw [if_neg (by omega),if_neg (by omega),ziv,h.len ha,h.pt ha,h.pt ha]
 refine ⟨line_last,?_⟩
 unfold secZ pathZ
 rw [decide_eq_false (show ¬ 0 < -a.id by omega),cond_false,h.ng2 ha,(h.nice.path ha).2,List.getElem?_reverse (by omega),zf8]
 rw [show (lineR p a).length - 1 - 1=(lineR p a).length - 1 - 1 from rfl]
 rfl
theorem Good0.node_eq {id:Int} (hi:(nodeF p id).isSome=true) {x:Nd} (hx:x∈p.ns.l):(nodeD p id).at'=x.at'↔id=x.id:=by
 obtain ⟨m1,m2⟩:=yf hi
 constructor
 ·intro e
  rw [← m2]
  exact zbm h.pts m1 hx (by rw [e]) (by rw [e])
 ·intro e
  have:nodeD p id=x:=Zv h.nice.nid m1 hx (by rw [m2,e])
  rw [this]
theorem Good0.at_iff {x:Nd} (hx:x∈p.ns.l) {z:Int}:(h.net.isDart z/\h.net.sp z=x.at')↔z∈dartsAt p x.id:=by
 unfold dartsAt
 rw [zh1]
 constructor
 ·rintro ⟨hd,hs⟩
  obtain ⟨a,ha,rfl | rfl⟩:=h.dart_iff.1 hd
  ·rw [(h.sp_pos ha).1] at hs
   refine ⟨a,ha,?_⟩
   have:=(h.node_eq (h.nice.fr a ha) hx).1 hs
   unfold dartsA
   rw [if_pos (by simp [this])]
   simp
  ·rw [(h.sp_neg ha).1] at hs
   refine ⟨a,ha,?_⟩
   have:=(h.node_eq (h.nice.too a ha) hx).1 hs
   unfold dartsA
   rw [zhf,if_pos (show (a.to==x.id)=true by simp [this]),h.ng ha]
   exact .inr (by simp)
 ·rintro ⟨a,ha,hz⟩
  unfold dartsA at hz
  rcases zhf.1 hz with hz | hz
  ·by_cases hf:(a.fr==x.id)=true
   ·rw [if_pos hf,zhe] at hz
    subst hz
    exact ⟨h.dart_iff.2 ⟨a,ha,.inl rfl⟩,by rw [(h.sp_pos ha).1]; exact (h.node_eq (h.nice.fr a ha) hx).2 (eq_of_beq hf)⟩
   ·rw [if_neg hf] at hz; simp at hz
  ·by_cases hf:(a.to==x.id)=true
   ·rw [if_pos hf,zhe,h.ng ha] at hz
    subst hz
    exact ⟨h.dart_iff.2 ⟨a,ha,.inr rfl⟩,by rw [(h.sp_neg ha).1]; exact (h.node_eq (h.nice.too a ha) hx).2 (eq_of_beq hf)⟩
   ·rw [if_neg hf] at hz; simp at hz
theorem Good0.at_nodup {x:Nd}:(dartsAt p x.id).Nodup:=by
 unfold dartsAt
 rw [List.Nodup,List.pairwise_flatMap]
 have hm:∀ a∈p.az.l,∀ z∈dartsA x.id a,z=a.id∨z=-a.id:=fun a ha z hz=>by
  unfold dartsA at hz
  rcases zhf.1 hz with hz | hz
  ·split at hz
   ·exact .inl (zhe.1 hz)
   ·simp at hz
  ·split at hz
   ·exact .inr (by rw [← h.ng ha]; exact zhe.1 hz)
   ·simp at hz
 refine ⟨fun a ha=>?_,?_⟩
 ·have hid:=h.pid a ha
  have hng:=h.ng ha
  unfold dartsA
  by_cases c1:(a.fr==x.id)=true <;> by_cases c2:(a.to==x.id)=true
  ·rw [if_pos c1,if_pos c2,hng]
   simp
   omega
  ·rw [if_pos c1,if_neg c2]; simp
  ·rw [if_neg c1,if_pos c2]; simp
  ·rw [if_neg c1,if_neg c2]; simp
 ·have hp:=h.nice.aid
  rw [zhk] at hp
  refine hp.imp_of_mem fun {a b} ha hb hab u hu v hv e=>?_
  have i1:=h.pid a ha
  have i2:=h.pid b hb
  rcases hm a ha u hu with rfl | rfl <;> rcases hm b hb v hv with e2 | e2 <;> omega
theorem Good0.no_mid {x:Nd} (hx:x∈p.ns.l):¬ ∃ a k,(a,0)∈h.net.E/\0<k/\k<h.net.len a/\h.net.pt a k=x.at':=by
 rintro ⟨z,k,h1,h2,h3,h4⟩
 obtain ⟨a,ha,rfl,_⟩:=h.ofE h1
 rw [h.len ha] at h3
 rw [h.pt ha] at h4
 have m:segN p a k∈spsN p:=Yk ha h3
 have g:=h.good m
 have ho:onR (segN p a k).A (segN p a k).B x.at'=true:=by
  have e:(segN p a k).A=x.at':=h4
  have hn:nearP x.at'=true:=h.nice.npt x hx
  rw [← e] at hn ⊢
  unfold onR
  have e1:cr (segN p a k).A (segN p a k).B (segN p a k).A (segN p a k).A=0:=by unfold cr; grind
  have e2:dot (segN p a k).A (segN p a k).A (segN p a k).B (segN p a k).A=0:=by unfold dot; grind
  rw [zx g.a g.b g.a g.a,dotR_eq g.a g.a g.b g.a,e1,e2]
  simp [g.a,g.b]
 rcases h.endPt m hx (h.isEnd m hx ho) with ⟨q,_,_⟩ | ⟨_,_,q⟩
 ·have q:k=0:=q
  omega
 ·exact h.ne m (show (segN p a k).A=(segN p a k).B from h4.trans q.symm)
theorem Good0.sc_ne {z:Int} (hz:h.net.isDart z):h.net.sc z≠h.net.sp z/\(h.net.sc z).near:=by
 obtain ⟨a,ha,rfl | rfl⟩:=h.dart_iff.1 hz
 ·have h2:=zF (p:=p) (a:=a)
  have hid:=h.pid a ha
  unfold Net.sp Net.sc
  rw [if_pos (by omega),if_pos (by omega)]
  exact ⟨fun e=>h.net.ne a.id 0 (h.inE ha) e.symm,h.net.near a.id 0 1 (h.inE ha) (by rw [h.len ha]; omega)⟩
 ·have h2:=zF (p:=p) (a:=a)
  have hid:=h.pid a ha
  unfold Net.sp Net.sc
  rw [if_neg (by omega),if_neg (by omega),ziv]
  have hw:=h.net.whole a.id 0 (h.net.len a.id - 1) (h.inE ha) (by rw [h.len ha]; omega)
  have hn:=h.net.ne _ _ hw
  rw [show h.net.len a.id - 1+1=h.net.len a.id by rw [h.len ha]; omega] at hn
  exact ⟨hn,h.net.near a.id 0 _ (h.inE ha) (by omega)⟩
theorem Good0.around {x:Nd} (hx:x∈p.ns.l):(aroundR p x.id).Perm (dartsAt p x.id)/\(aroundR p x.id).Pairwise (fun a b=>lss x.at' (h.net.sc a) (h.net.sc b)=true):=by
 obtain ⟨l,l1,l2⟩:=h.net.ring (Yb (h.nice.npt x hx)) (h.no_mid hx)
 have hnd:l.Nodup:=l2.imp fun {a b} hab e=>by
  subst e
  rw [lss_irr] at hab
  cases hab
 have hperm:l.Perm (dartsAt p x.id):=(List.perm_ext_iff_of_nodup hnd h.at_nodup).2 fun e=>(l1 e).trans (h.at_iff hx)
 have hnode:nodeF p x.id=some x:=yx h.nice.nid hx
 have hsc:∀ z∈dartsAt p x.id,secZ p z=h.net.sc z/\(secZ p z).near/\secZ p z≠x.at':=fun z hz=>by
  obtain ⟨d1,d2⟩:=(h.at_iff hx).2 hz
  have e:secZ p z=h.net.sc z:=by
   obtain ⟨a,ha,rfl | rfl⟩:=h.dart_iff.1 d1
   ·exact (h.sp_pos ha).2.symm
   ·exact (h.sp_neg ha).2.symm
  have hn:=h.sc_ne d1
  rw [d2] at hn
  exact ⟨e,by rw [e]; exact hn.2,by rw [e]; exact hn.1⟩
 have hnx:=Yb (h.nice.npt x hx)
 have hlt:∀ a∈dartsAt p x.id,∀ b∈dartsAt p x.id,lessR x.at' (secZ p a) (secZ p b)=lss x.at' (h.net.sc a) (h.net.sc b):=fun a ha b hb=>by
  obtain ⟨a1,a2,a3⟩:=hsc a ha
  obtain ⟨b1,b2,b3⟩:=hsc b hb
  rw [less_lss hnx a2 b2 a3 b3,a1,b1]
 have hsel:aroundR p x.id=l:=by
  unfold aroundR
  rw [hnode]
  show selL (dartsAt p x.id) (rkL (lessR x.at') ((dartsAt p x.id).map (secZ p)))=l
  refine sel_sorted hperm (l2.imp_of_mem fun {a b} ha hb hab=>?_) (fun a ha b hb hab=>?_) (fun a ha=>?_)
  ·rw [hlt a (hperm.mem_iff.1 ha) b (hperm.mem_iff.1 hb)]
   exact hab
  ·rw [hlt a ha b hb] at hab
   rw [hlt b hb a ha]
   cases hc:lss x.at' (h.net.sc b) (h.net.sc a)
   ·rfl
   ·exact (Zg hab hc).elim
  ·rw [hlt a ha a ha]
   exact lss_irr
 rw [hsel]
 exact ⟨hperm,l2⟩
end
end
section
noncomputable def crossI (a b q:Pt):Bool:=bif decide (b.y<a.y) then (decide (b.y<=q.y)&&decide (q.y<a.y))&&decide (0<s10 b a q) else (decide (a.y<=q.y)&&decide (q.y<b.y))&&decide (0<s10 a b q)
noncomputable def onTo (l:List Pt) (q:Pt):Nat->Bool
 | 0=>false
 | k+1=>onTo l q k||match l[k]?,l[k+1]? with
  | some a,some b=>on10 a b q
  | _,_=>false
noncomputable def oddTo (l:List Pt) (q:Pt) (o:Bool):Nat->Bool
 | 0=>o
 | k+1=>match l[k]?,l[k+1]? with
  | some a,some b=>xor (oddTo l q o k) (crossI a b q)
  | _,_=>oddTo l q o k
noncomputable def onP (l:List Pt) (q:Pt):Bool:=onTo l q (l.length - 1)
noncomputable def oddP (l:List Pt) (q:Pt) (o:Bool):Bool:=oddTo l q o (l.length - 1)
noncomputable def insideR (p:Pn) (c:List Int) (q:Pt):Bool:=!(c.any fun z=>onP (pathZ p z) q)&&c.foldl (fun o z=>oddP (pathZ p z) q o) false
end
section
def arTo (ins:Nat->Bool) (tw:Nat->Int):Nat->Int
 | 0=>-1
 | i+1=>if (ins i&&(decide (arTo ins tw i<0)||decide (tw i<tw (arTo ins tw i).toNat)))=true then (i:Int) else arTo ins tw i
theorem zbo {ins:Nat->Bool} {tw:Nat->Int}:∀ n,-1<=arTo ins tw n/\arTo ins tw n<n
 | 0=>by simp [arTo]
 | n+1=>by
  have:=zbo (ins:=ins) (tw:=tw) n
  unfold arTo
  split <;> omega
noncomputable def arX (p:Pn) (os:List (List Int)) (q:Pt):Int:=arTo (fun i=>insideR p ((os[i]?).getD []) q) (fun i=>twR p ((os[i]?).getD [])) os.length
section
variable {S:ySM}
noncomputable def sidesR (p:Pn) (c:List Int) (f:Int):Bool:=c.all fun z=>sideR p z==f
end
end
section
section
variable {β:Type} (kf tw:β->Int)
noncomputable def insPos (x:β) (l:List β):Nat->Nat
 | 0=>0
 | k+1=>match l[k]? with
  | some y=>if beforeI (kf x) (kf y)=true then insPos x l k else k+1
  | none=>k+1
noncomputable def insB (x:β) (l:List β):List β:=l.take (insPos kf x l l.length)++x::l.drop (insPos kf x l l.length)
noncomputable def outGo:List β->List β->List β
 | [],o=>o
 | c::cs,o=>if tw c<=0 then outGo cs o else outGo cs (insB kf c o)
variable {kf tw}
theorem insPos_le {x:β} {l:List β}:∀ k,insPos kf x l k<=k
 | 0=>zf7 _
 | k+1=>by
  have:=insPos_le (x:=x) (l:=l) k
  unfold insPos
  split
  ·split <;> omega
  ·omega
theorem insB_len {x:β} {l:List β}:(insB kf x l).length=l.length+1:=by
 have:=insPos_le (kf:=kf) (x:=x) (l:=l) l.length
 unfold insB
 rw [zga,zf3,zhx,zin]
 omega
theorem outGo_len:∀ (cs o:List β),(outGo kf tw cs o).length<=o.length+cs.length
 | [],o=>by simp [outGo]
 | c::cs,o=>by
  unfold outGo
  split
  ·have:=outGo_len cs o
   rw [zf3]; omega
  ·have:=outGo_len cs (insB kf c o)
   rw [insB_len] at this
   rw [zf3]; omega
theorem zad:∀ (cs o:List β),(outGo kf tw cs o).Perm (o++cs.filter fun c=>decide (0<tw c))
 | [],o=>by simp [outGo]
 | c::cs,o=>by
  unfold outGo
  split
  ·rename_i h
   have e:decide (0<tw c)=false:=decide_eq_false (by omega)
   rw [List.filter_cons,e,if_neg (by decide)]
   exact zad cs o
  ·rename_i h
   have e:decide (0<tw c)=true:=decide_eq_true (by omega)
   rw [List.filter_cons,e,if_pos rfl]
   refine (zad cs _).trans ?_
   unfold insB
   rw [zgu,zgq]
   have h1:(o.take (insPos kf c o o.length)++c::(o.drop (insPos kf c o o.length)++cs.filter fun c=>decide (0<tw c))).Perm (c::(o.take (insPos kf c o o.length)++(o.drop (insPos kf c o o.length)++cs.filter fun c=>decide (0<tw c)))):=List.perm_middle
   refine h1.trans ?_
   rw [← zgu,zih]
   exact List.perm_middle.symm
end
end
section
noncomputable def outersR (p:Pn):List (List Int):=outGo keyI (twR p) (cyclesR p) []
theorem Yg (p:Pn):(outersR p).Perm ((cyclesR p).filter fun c=>decide (0<twR p c)):=by
 have:=zad (kf:=keyI) (tw:=twR p) (cyclesR p) []
 rwa [zgz] at this
end
section
theorem nxTo_at {ds nx:List Int} (hn:ds.Nodup) {i:Nat} {z y:Int} (hz:ds[i]?=some z) (hy:nx[i]?=some y):∀ k,i<k->nxTo ds nx z k=y
 | 0,h=>by omega
 | k+1,h=>by
  unfold nxTo
  by_cases hk:k=i
  ·subst hk
   rw [hz,hy]
   simp
  ·have ih:=nxTo_at hn hz hy k (by omega)
   cases hd:ds[k]? with
   | none=>exact ih
   | some a =>
    cases hx:nx[k]? with
    | none=>exact ih
    | some b =>
     have hne:¬ (a==z)=true:=fun e=>by
      have e:=eq_of_beq e
      subst e
      have h1:=(zfz.1 hd)
      have h2:=(zfz.1 hz)
      obtain ⟨l1,e1⟩:=h1
      obtain ⟨l2,e2⟩:=h2
      exact hk ((List.getElem_inj hn).1 (e1.trans e2.symm))
     dsimp only
     rw [if_neg hne]
     exact ih
theorem nxR_at {ds nx:List Int} (hn:ds.Nodup) {z y:Int} (h:(z,y)∈ds.zip nx):nxR ds nx z=y:=by
 obtain ⟨i,hi⟩:=List.mem_iff_getElem?.1 h
 obtain ⟨h1,h2⟩:=List.getElem?_zip_eq_some.1 hi
 exact nxTo_at hn h1 h2 _ (zfz.1 h1).1
theorem zip_flat {α:Type} {f g:α->List Int}:∀ {l:List α},(∀ a∈l,(f a).length=(g a).length)->(l.flatMap f).zip (l.flatMap g)=l.flatMap fun a=>(f a).zip (g a)
 | [],_=>rfl
 | a::l,h=>by
  rw [zgj,zgj,zgj,List.zip_append (h a (zgi ..)),zip_flat fun b hb=>h b (zgn _ hb)]
theorem adj_rot {l:List Int} {u v:Int} (h:Adj l u v):(ngI v,u)∈(rotD l).zip l:=by
 rcases h with ⟨A,B,rfl⟩ | ⟨B,rfl,h⟩
 ·refine List.mem_iff_getElem?.2 ⟨A.length,List.getElem?_zip_eq_some.2 ⟨rotD_get (by simp) ?_,by simp⟩⟩
  rw [Nat.mod_eq_of_lt (by simp)]
  rw [zf4 (by omega),show A.length+1 - A.length=1 by omega]
  rfl
 ·rw [List.getLast?_eq_getElem?] at h
  refine List.mem_iff_getElem?.2 ⟨(v::B).length - 1,List.getElem?_zip_eq_some.2 ⟨rotD_get (by simp) ?_,h⟩⟩
  rw [show (v::B).length - 1+1=(v::B).length by simp,Nat.mod_self]
  rfl
theorem adj_of {α:Type} {l:List α} {v:α} (h:v∈l):∃ u,Adj l u v:=by
 obtain ⟨A,B,rfl⟩:=List.append_of_mem h
 rcases List.eq_nil_or_concat A with rfl | ⟨A',u,rfl⟩
 ·cases hB:(v::B).getLast? with
  | none=>simp at hB
  | some u=>exact ⟨u,.inr ⟨B,rfl,hB⟩⟩
 ·exact ⟨u,.inl ⟨A',B,by simp⟩⟩
theorem zfn {l:List Int} {z:Int} (h:z∈rotD l):∃ v∈l,z=ngI v:=by
 unfold rotD at h
 obtain ⟨v,hv,rfl⟩:=zgx.1 h
 refine ⟨v,?_,rfl⟩
 rcases zhf.1 hv with hv | hv
 ·exact List.mem_of_mem_drop hv
 ·exact List.mem_of_mem_take hv
theorem rot_perm (l:List Int):(rotD l).Perm (l.map ngI):=by
 unfold rotD
 refine List.Perm.map _ ?_
 have:=List.perm_append_comm (l₁:=l.drop 1) (l₂:=l.take 1)
 rwa [zih] at this
section
variable {p:Pn} (h:Good0 p)
include h
theorem Good0.ng_dart {z:Int} (hz:h.net.isDart z):ngI z=-z/\h.net.isDart (-z):=by
 obtain ⟨a,ha,rfl | rfl⟩:=h.dart_iff.1 hz
 ·exact ⟨h.ng ha,h.dart_iff.2 ⟨a,ha,.inr rfl⟩⟩
 ·exact ⟨by rw [h.ng2 ha,ziv],h.dart_iff.2 ⟨a,ha,.inl (ziv _)⟩⟩
theorem Good0.node {z:Int} (hz:h.net.isDart z):∃ x∈p.ns.l,h.net.sp z=x.at'/\z∈aroundR p x.id:=by
 have key:∃ x∈p.ns.l,h.net.sp z=x.at':=by
  obtain ⟨a,ha,rfl | rfl⟩:=h.dart_iff.1 hz
  ·exact ⟨_,(yf (h.nice.fr a ha)).1,(h.sp_pos ha).1⟩
  ·exact ⟨_,(yf (h.nice.too a ha)).1,(h.sp_neg ha).1⟩
 obtain ⟨x,hx,e⟩:=key
 exact ⟨x,hx,e,(h.around hx).1.mem_iff.2 ((h.at_iff hx).1 ⟨hz,e⟩)⟩
theorem Good0.of_around {x:Nd} (hx:x∈p.ns.l) {z:Int} (hz:z∈aroundR p x.id):h.net.isDart z/\h.net.sp z=x.at':=(h.at_iff hx).2 ((h.around hx).1.mem_iff.1 hz)
theorem Good0.folD_nodup:(folD p).Nodup:=by
 unfold folD
 rw [List.Nodup,List.pairwise_flatMap]
 constructor
 ·intro x hx
  have hn:(aroundR p x.id).Nodup:=(h.around hx).1.nodup_iff.2 h.at_nodup
  show (rotD (aroundR p x.id)).Nodup
  rw [(rot_perm _).nodup_iff,List.Nodup,zhk]
  refine hn.imp_of_mem fun {a b} ha hb hab e=>hab ?_
  rw [(h.ng_dart (h.of_around hx ha).1).1,(h.ng_dart (h.of_around hx hb).1).1] at e
  omega
 ·have hp:=h.nice.nid
  rw [zhk] at hp
  refine hp.imp_of_mem fun {x y} hx hy hxy u hu v hv e=>?_
  subst e
  obtain ⟨a,ha,e1⟩:=zfn hu
  obtain ⟨b,hb,e2⟩:=zfn hv
  obtain ⟨a1,a2⟩:=h.of_around hx ha
  obtain ⟨b1,b2⟩:=h.of_around hy hb
  rw [(h.ng_dart a1).1] at e1
  rw [(h.ng_dart b1).1] at e2
  have hab:a=b:=by omega
  subst hab
  have:=zbm h.pts hx hy (by rw [← a2,← b2]) (by rw [← a2,← b2])
  omega
noncomputable def nextR (p:Pn) (z:Int):Int:=nxR (folD p) (folN p) z
theorem Good0.next {x:Nd} (hx:x∈p.ns.l) {u v:Int} (ha:Adj (aroundR p x.id) u v):nextR p (-v)=u:=by
 have hv:=h.of_around hx ha.mem.2
 rw [← (h.ng_dart hv.1).1]
 refine nxR_at h.folD_nodup ?_
 unfold folD folN
 rw [zip_flat fun n _=>rotD_len _]
 exact zh1.2 ⟨x,hx,adj_rot ha⟩
theorem Good0.turns:h.net.Turns (nextR p):=⟨fun d hd=>by
 obtain ⟨x,hx,e,_⟩:=h.node hd
 refine ⟨aroundR p x.id,fun z=>?_,?_,fun u v ha=>h.next hx ha⟩
 ·rw [e]
  exact ((h.around hx).1.mem_iff).trans (h.at_iff hx).symm
 ·rw [e]
  exact (h.around hx).2⟩
theorem Good0.next_dart {z:Int} (hz:h.net.isDart z):h.net.isDart (nextR p z)/\h.net.sp (nextR p z)=h.net.sp (-z):=by
 obtain ⟨_,hn⟩:=h.ng_dart hz
 obtain ⟨x,hx,e,hm⟩:=h.node hn
 obtain ⟨u,hu⟩:=adj_of hm
 have:=h.next hx hu
 rw [ziv] at this
 rw [this,e]
 exact h.of_around hx hu.mem.1
theorem Good0.darts {z:Int}:z∈dartsR p↔h.net.isDart z:=by
 rw [h.dart_iff]
 unfold dartsR
 rw [zhf,zgx,zgx]
 constructor
 ·rintro (⟨a,ha,rfl⟩ | ⟨a,ha,rfl⟩)
  ·rw [List.mem_reverse] at ha
   exact ⟨a,ha,.inr (h.ng ha)⟩
  ·exact ⟨a,ha,.inl rfl⟩
 ·rintro ⟨a,ha,rfl | rfl⟩
  ·exact .inr ⟨a,ha,rfl⟩
  ·exact .inl ⟨a,List.mem_reverse.2 ha,h.ng ha⟩
theorem Good0.gd {z:Int} (hz:h.net.isDart z):GD p z:=by
 obtain ⟨a,ha,e⟩:=h.dart_iff.1 hz
 have:=h.pid a ha
 exact ⟨a,ha,⟨by omega,by omega⟩,e,(h.nice.path ha).1⟩
theorem Good0.folD_few:(folD p).length<=2*p.az.l.length:=by
 have h1:=h.folD_nodup.length_le_of_subset (l₂:=dartsR p) fun z hz=>by
  unfold folD at hz
  obtain ⟨x,hx,hz⟩:=zh1.1 hz
  obtain ⟨v,hv,rfl⟩:=zfn hz
  obtain ⟨e,hd⟩:=h.ng_dart (h.of_around hx hv).1
  rw [e]
  exact h.darts.2 hd
 have h2:(dartsR p).length=2*p.az.l.length:=by unfold dartsR; rw [zga,zgw,zgw,List.length_reverse]; omega
 omega
theorem Good0.cyc_darts {z:Int}:∀ (k:Nat) (l:List Int),l≠[]->(∀ x∈l,h.net.isDart x)->∀ x∈cycGo (nextR p) z k l,h.net.isDart x
 | 0,l,_,hl=>hl
 | k+1,l,hne,hl=>by
  unfold cycGo
  split
  ·exact hl
  ·refine Good0.cyc_darts k _ (by simp) fun x hx=>?_
   rcases zhf.1 hx with hx | hx
   ·exact hl x hx
   ·rw [zhe.1 hx]
    refine (h.next_dart (hl _ ?_)).1
    have hp:0<l.length:=List.length_pos_iff.2 hne
    unfold lastI
    rw [zf0 (by omega)]
    exact zgt _
end
theorem YS {β:Type} {f:Int->β} {g:β->List Int} {c:β}:∀ {ds met:List Int} {o:List β},c∈cysGo f g ds met o->c∈o∨∃ z∈ds,c=f z
 | [],_,_,h=>.inl h
 | z::ds,met,o,h=>by
  unfold cysGo at h
  split at h
  ·rcases YS h with h | ⟨y,hy,e⟩
   ·exact .inl h
   ·exact .inr ⟨y,zgn _ hy,e⟩
  ·rcases YS h with h | ⟨y,hy,e⟩
   ·rcases zhf.1 h with h | h
    ·exact .inl h
    ·exact .inr ⟨z,zgi ..,zhe.1 h⟩
   ·exact .inr ⟨y,zgn _ hy,e⟩
section
variable {p:Pn} (h:Good0 p)
include h
theorem Good0.cycles (ha:p.az.l.length<=200):∀ c∈cyclesR p,c.length<=512/\c≠[]/\∀ z∈c,GD p z:=fun c hc=>by
 unfold cyclesR at hc
 rcases YS hc with hc | ⟨z,hz,rfl⟩
 ·simp at hc
 have hd:=h.darts.1 hz
 have hl:=zck (f:=nextR p) (dart:=z) (folD p).length [z]
 have hf:=h.folD_few
 rw [zf3,zgb] at hl
 refine ⟨?_,fun e=>?_,fun x hx=>h.gd (Good0.cyc_darts h (folD p).length [z] (by simp) (fun x hx=>by rw [zhe.1 hx]; exact hd) x hx)⟩
 ·show (cycGo (nextR p) z (folD p).length [z]).length<=512
  omega
 ·have e:cycGo (nextR p) z (folD p).length [z]=[]:=e
  rw [e] at hl
  simp at hl
end
end
section
noncomputable def startP (p:Pn) (c:List Int):Pt:=((pathZ p ((c[0]?).getD 0))[0]?).getD ⟨0,0⟩
noncomputable def regR (p:Pn) (os:List (List Int)) (q:Pt):Nat:=(1+arX p os q).toNat
def ocR (os:List (List Int)):Nat->List Int
 | 0=>[]
 | i+1=>(os[i]?).getD []
theorem arX_le (p:Pn) (os:List (List Int)) (q:Pt):-1<=arX p os q/\arX p os q<os.length:=zbo _
end
section
noncomputable def facR (p:Pn) (i:Nat) (a:Ar):Int:=match i with
 | 0=>a.tw
 | _+1=>sideR p ((a.oc.l[0]?).getD 0)
noncomputable def facedGo (p:Pn):Nat->List Ar->List Int->Option (List Int)
 | _,[],fs=>some fs
 | i,a::l,fs=>if (decide (0<i)&&(facR p i a==0||fs.contains (facR p i a)))=true then none else if (sidesR p a.oc.l (facR p i a)&&a.ic.l.all fun c=>sidesR p c.l (facR p i a))=true then facedGo p (i+1) l (if 0<i then fs++[facR p i a] else fs) else none
end
section
noncomputable def okReg (p:Pn) (b:Ar):Bool:=sidesR p b.oc.l b.tw&&b.ic.l.all fun c=>sidesR p c.l b.tw
end
section
theorem Yh {p:Pn} {i:Nat} {a:Ar} {l:List Ar} {fs:List Int}:facedGo p i (a::l) fs=if (decide (0<i)&&(facR p i a==0||fs.contains (facR p i a)))=true then none else if okReg p { a with tw:=facR p i a }=true then facedGo p (i+1) l (if 0<i then fs++[facR p i a] else fs) else none:=by
 conv=>lhs; unfold facedGo
 rfl
end
section
noncomputable def facO (p:Pn) (a:Ar):Int:=sideR p ((a.oc.l[0]?).getD 0)
noncomputable def okO (p:Pn) (a:Ar):Bool:=okReg p { a with tw:=facO p a }
theorem YD {p:Pn}:∀ {l:List Ar} {i:Nat} {fs r:List Int},0<i->(facedGo p i l fs=some r↔r=fs++l.map (facO p)/\(∀ a∈l,facO p a≠0/\okO p a=true/\facO p a ∉ fs)/\(l.map (facO p)).Nodup)
 | [],i,fs,r,h=>by
  unfold facedGo
  simp only [zh9,zhc,zf5,zg1,false_implies,implies_true,List.nodup_nil,and_true]
  exact eq_comm
 | a::l,i,fs,r,h=>by
  obtain ⟨j,rfl⟩:∃ j,i=j+1:=⟨i - 1,by omega⟩
  have hf:facR p (j+1) a=facO p a:=rfl
  rw [Yh,hf,decide_eq_true h,zhj,if_pos h]
  have ih:=@YD p l (j+1+1) (fs++[facO p a]) r (by omega)
  show (if (facO p a==0||fs.contains (facO p a))=true then none else if okO p a=true then facedGo p (j+1+1) l (fs++[facO p a]) else none)=some r↔_
  rw [zg3,List.nodup_cons]
  by_cases c1:(facO p a==0||fs.contains (facO p a))=true
  ·rw [if_pos c1]
   constructor
   ·intro e; cases e
   ·rintro ⟨_,h2,_⟩
    obtain ⟨d1,_,d3⟩:=h2 a (zgi ..)
    rw [zha,beq_iff_eq,zgh] at c1
    rcases c1 with c1 | c1
    ·exact absurd c1 d1
    ·exact absurd c1 d3
  ·rw [if_neg c1]
   rw [zha,beq_iff_eq,zgh,not_or] at c1
   by_cases c2:okO p a=true
   ·rw [if_pos c2,ih]
    constructor
    ·rintro ⟨rfl,h2,h3⟩
     refine ⟨by simp,fun b hb=>?_,fun hm=>?_,h3⟩
     ·rcases zgf.1 hb with rfl | hb
      ·exact ⟨c1.1,c2,c1.2⟩
      ·obtain ⟨d1,d2,d3⟩:=h2 b hb
       exact ⟨d1,d2,fun hm=>d3 (zil _ hm)⟩
     ·obtain ⟨b,hb,e⟩:=zgx.1 hm
      exact (h2 b hb).2.2 (by rw [e]; simp)
    ·rintro ⟨rfl,h2,h3,h4⟩
     refine ⟨by simp,fun b hb=>?_,h4⟩
     obtain ⟨d1,d2,d3⟩:=h2 b (zgn _ hb)
     refine ⟨d1,d2,fun hm=>?_⟩
     rcases zhf.1 hm with hm | hm
     ·exact d3 hm
     ·exact h3 (zgx.2 ⟨b,hb,zhe.1 hm⟩)
   ·rw [if_neg c2]
    constructor
    ·intro e; cases e
    ·rintro ⟨_,h2,_⟩
     exact absurd (h2 a (zgi ..)).2.1 c2
end
section
noncomputable def fcC (p:Pn) (c:List Int):Int:=sideR p ((c[0]?).getD 0)
noncomputable def faceAt (p:Pn) (q:Pt):Int:=match regR p (outersR p) q with
 | 0=>0
 | k+1=>fcC p (((outersR p)[k]?).getD [])
structure Spec16 (p:Pn):Prop where
 outer:∀ c∈outersR p,fcC p c≠0/\sidesR p c (fcC p c)=true
 dist:((outersR p).map (fcC p)).Nodup
 faces:nrm ((outersR p).map (fcC p))=p.fs.l
 inner:∀ c∈cyclesR p,twR p c<=0->sidesR p c (faceAt p (startP p c))=true
theorem regR_le (p:Pn) (os:List (List Int)) (q:Pt):regR p os q<=os.length:=by
 have:=arX_le p os q
 unfold regR
 omega
end
section
structure Orb (f:Int->Int) (D:List Int) (z:Int) (l:List Int):Prop where
 nodup:l.Nodup
 sub:∀ x∈l,x∈D
 head:l[0]?=some z
 step:∀ i x,l[i]?=some x->i+1<l.length->l[i+1]?=some (f x)
theorem Orb.pos {f:Int->Int} {D:List Int} {z:Int} {l:List Int} (h:Orb f D z l):0<l.length:=(zfz.1 h.head).1
theorem Orb.last {f:Int->Int} {D:List Int} {z:Int} {l:List Int} (h:Orb f D z l):l[l.length - 1]?=some (lastI l):=by
 have:=h.pos
 unfold lastI
 rw [zf0 (by omega)]
 rfl
theorem orbit {f:Int->Int} {D:List Int} (hD:∀ x∈D,f x∈D) (inj:∀ x∈D,∀ y∈D,f x=f y->x=y) {z:Int}:∀ (k:Nat) (l:List Int),Orb f D z l->D.length<k+l.length->Orb f D z (cycGo f z k l)/\f (lastI (cycGo f z k l))=z
 | 0,l,h,hk=>by
  have:=h.nodup.length_le_of_subset fun x hx=>h.sub x hx
  omega
 | k+1,l,h,hk=>by
  unfold cycGo
  have hpos:=h.pos
  have hlast:=h.last
  by_cases hz:(f (lastI l)==z)=true
  ·rw [if_pos hz]
   exact ⟨h,eq_of_beq hz⟩
  ·rw [if_neg hz]
   have hz:f (lastI l)≠z:=fun e=>hz (by rw [e]; simp)
   have hmem:lastI l∈D:=h.sub _ (zgl hlast)
   have hnew:f (lastI l) ∉ l:=fun hm=>by
    obtain ⟨i,hi⟩:=zg7 hm
    rcases i with - | i
    ·rw [h.head] at hi
     exact hz (zgy hi).symm
    ·have hil:=(zfz.1 hi).1
     have hx:l[i]?=some l[i]:=zf0 (by omega)
     have h2:=h.step i _ hx hil
     rw [hi] at h2
     have e:=inj _ hmem _ (h.sub _ (zgt (by omega))) (zgy h2)
     have e2:l[l.length - 1]?=l[i]?:=by rw [hlast,hx,e]
     rw [zf0 (show l.length - 1<l.length by omega),hx,zf5] at e2
     have:=(List.getElem_inj h.nodup).1 e2
     omega
   refine orbit hD inj k _ ⟨?_,?_,?_,?_⟩ (by rw [zga,zf3,zgb]; omega)
   ·rw [List.nodup_append]
    refine ⟨h.nodup,by simp,fun a ha b hb e=>?_⟩
    rw [zhe] at hb
    subst hb
    rw [e] at ha
    exact hnew ha
   ·intro x hx
    rcases zhf.1 hx with hx | hx
    ·exact h.sub x hx
    ·rw [zhe.1 hx]
     exact hD _ hmem
   ·rw [zf1 hpos]
    exact h.head
   ·intro i x hx hi
    rw [zga,zf3,zgb] at hi
    by_cases hil:i+1<l.length
    ·rw [zf1 hil]
     rw [zf1 (by omega)] at hx
     exact h.step i x hx hil
    ·have e:i=l.length - 1:=by omega
     rw [zf1 (by omega),e,hlast] at hx
     cases hx
     rw [zf4 (by omega),show i+1 - l.length=0 by omega]
     rfl
theorem Orb.closed {f:Int->Int} {D:List Int} (inj:∀ x∈D,∀ y∈D,f x=f y->x=y) {z:Int} {c:List Int} (h:Orb f D z c) (hz:f (lastI c)=z) {d:Int} (hd:d∈D):f d∈c↔d∈c:=by
 have hpos:=h.pos
 have hlast:=h.last
 constructor
 ·intro hm
  obtain ⟨i,hi⟩:=zg7 hm
  rcases i with - | i
  ·rw [h.head] at hi
   have e:=inj _ hd _ (h.sub _ (zgl hlast)) ((zgy hi).symm.trans hz.symm)
   rw [e]
   exact zgl hlast
  ·have hil:=(zfz.1 hi).1
   have hx:c[i]?=some c[i]:=zf0 (by omega)
   have h2:=h.step i _ hx hil
   rw [hi] at h2
   have e:=inj _ hd _ (h.sub _ (zgt (by omega))) (zgy h2)
   rw [e]
   exact zgt _
 ·intro hm
  obtain ⟨i,hi⟩:=zg7 hm
  by_cases hl:i+1<c.length
  ·exact zgl (h.step i d hi hl)
  ·have hil:=(zfz.1 hi).1
   have e:i=c.length - 1:=by omega
   rw [e,hlast] at hi
   cases hi
   rw [hz]
   exact zgl h.head
theorem adj_inj {l:List Int} (hn:l.Nodup) {u v w:Int} (h1:Adj l u v) (h2:Adj l u w):v=w:=by
 rcases h1 with ⟨A,B,e⟩ | ⟨B,e,h1⟩ <;> rcases h2 with ⟨A',B',e'⟩ | ⟨B',e',h2⟩
 ·have i1:l[A.length]?=some u:=by rw [e]; simp
  have i2:l[A'.length]?=some u:=by rw [e']; simp
  have j1:l[A.length+1]?=some v:=by rw [e,zf4 (by omega),show A.length+1 - A.length=1 by omega]; rfl
  have j2:l[A'.length+1]?=some w:=by rw [e',zf4 (by omega),show A'.length+1 - A'.length=1 by omega]; rfl
  obtain ⟨b1,b2⟩:=zfz.1 i1
  obtain ⟨c1,c2⟩:=zfz.1 i2
  have:=(List.getElem_inj hn).1 (b2.trans c2.symm)
  rw [this,j2] at j1
  exact (zgy j1).symm
 ·exfalso
  have i1:l[A.length]?=some u:=by rw [e]; simp
  rw [List.getLast?_eq_getElem?] at h2
  obtain ⟨b1,b2⟩:=zfz.1 i1
  obtain ⟨c1,c2⟩:=zfz.1 h2
  have h3:=(List.getElem_inj hn).1 (b2.trans c2.symm)
  have:l.length=A.length+(B.length+1+1):=by rw [e]; simp
  omega
 ·exfalso
  have i1:l[A'.length]?=some u:=by rw [e']; simp
  rw [List.getLast?_eq_getElem?] at h1
  obtain ⟨b1,b2⟩:=zfz.1 i1
  obtain ⟨c1,c2⟩:=zfz.1 h1
  have h3:=(List.getElem_inj hn).1 (b2.trans c2.symm)
  have:l.length=A'.length+(B'.length+1+1):=by rw [e']; simp
  omega
 ·rw [e] at e'
  exact (List.cons.inj e').1
section
variable {p:Pn} (h:Good0 p)
include h
theorem Good0.next_inj:∀ x∈dartsR p,∀ y∈dartsR p,nextR p x=nextR p y->x=y:=fun x hx y hy e=>by
 obtain ⟨_,nx⟩:=h.ng_dart (h.darts.1 hx)
 obtain ⟨_,ny⟩:=h.ng_dart (h.darts.1 hy)
 obtain ⟨a,ha,ea,ma⟩:=h.node nx
 obtain ⟨b,hb,eb,mb⟩:=h.node ny
 obtain ⟨u,hu⟩:=adj_of ma
 obtain ⟨v,hv⟩:=adj_of mb
 have fu:=h.next ha hu
 have fv:=h.next hb hv
 rw [ziv] at fu fv
 have huv:u=v:=by rw [← fu,← fv,e]
 subst huv
 have su:=(h.of_around ha hu.mem.1).2
 have sv:=(h.of_around hb hv.mem.1).2
 have hab:a=b:=Zv h.nice.nid ha hb (zbm h.pts ha hb (by rw [← su,← sv]) (by rw [← su,← sv]))
 subst hab
 have:=adj_inj ((h.around ha).1.nodup_iff.2 h.at_nodup) hu hv
 omega
theorem Good0.cycle {z:Int} (hz:z∈dartsR p):Orb (nextR p) (dartsR p) z (cycR (folD p) (folN p) z)/\nextR p (lastI (cycR (folD p) (folN p) z))=z:=by
 have hsub:∀ d∈dartsR p,nextR p d∈dartsR p:=fun d hd=>h.darts.2 (h.next_dart (h.darts.1 hd)).1
 have hnd:(dartsR p).length<=(folD p).length:=by
  have hn:(dartsR p).Nodup:=by
   unfold dartsR
   have hp:=h.nice.aid
   rw [zhk] at hp
   rw [List.nodup_append]
   refine ⟨?_,?_,fun a ha b hb e=>?_⟩
   ·rw [List.Nodup,zhk,List.pairwise_reverse]
    refine hp.imp_of_mem fun {a b} ha hb hab e=>?_
    rw [h.ng ha,h.ng hb] at e
    omega
   ·rw [List.Nodup,zhk]
    exact hp.imp fun {a b} hab e=>by omega
   ·obtain ⟨x,hx,rfl⟩:=zgx.1 ha
    obtain ⟨y,hy,rfl⟩:=zgx.1 hb
    rw [List.mem_reverse] at hx
    rw [h.ng hx] at e
    have i1:=h.pid x hx
    have i2:=h.pid y hy
    omega
  refine hn.length_le_of_subset fun d hd=>?_
  obtain ⟨e,hd2⟩:=h.ng_dart (h.darts.1 hd)
  obtain ⟨e2,_⟩:=h.ng_dart hd2
  obtain ⟨x,hx,_,hm⟩:=h.node hd2
  unfold folD
  refine zh1.2 ⟨x,hx,(rot_perm _).mem_iff.2 (zgx.2 ⟨-d,hm,?_⟩)⟩
  rw [e2,ziv]
 refine orbit hsub h.next_inj (folD p).length [z] ⟨by simp,fun x hx=>by rw [zhe.1 hx]; exact hz,rfl,fun i x hx hi=>by simp at hi⟩ ?_
 rw [zf3,zgb]
 omega
theorem Good0.cycle_closed {z d:Int} (hz:z∈dartsR p) (hd:d∈dartsR p):nextR p d∈cycR (folD p) (folN p) z↔d∈cycR (folD p) (folN p) z:=by
 obtain ⟨h1,h2⟩:=h.cycle hz
 exact h1.closed h.next_inj h2 hd
end
end
section
theorem Good0.around_uniq {p:Pn} (h:Good0 p) {x:Nd} (hx:x∈p.ns.l) {l:List Int} (hp:l.Perm (dartsAt p x.id)) (hs:l.Pairwise fun a b=>lss x.at' (h.net.sc a) (h.net.sc b)=true):l=aroundR p x.id :=
 List.Perm.eq_of_pairwise (fun _ _ _ _ h1 h2=>(Zg h1 h2).elim) hs (h.around hx).2 (hp.trans (h.around hx).1.symm)
theorem zcl {f:Int->List Int} (hmem:∀ z,z∈f z):∀ (ds met:List Int) (o:List (List Int)),(∀ d∈met,∃ c∈o,d∈c)->(∀ c∈o,∀ d∈c,d∈met)->(∀ d,(d∈ds∨d∈met)->∃ c∈cysGo f id ds met o,d∈c)
 | [],met,o,h1,_,d,hd=>by
  rcases hd with hd | hd
  ·simp at hd
  ·exact h1 d hd
 | z::ds,met,o,h1,h2,d,hd=>by
  unfold cysGo
  split
  ·rename_i hc
   refine zcl hmem ds met o h1 h2 d ?_
   rcases hd with hd | hd
   ·rcases zgf.1 hd with rfl | hd
    ·exact .inr (zgh.1 hc)
    ·exact .inl hd
   ·exact .inr hd
  ·refine zcl hmem ds (met++f z) (o++[f z]) (fun e he=>?_) (fun c hc e he=>?_) d ?_
   ·rcases zhf.1 he with he | he
    ·obtain ⟨c,hc,hec⟩:=h1 e he
     exact ⟨c,zil _ hc,hec⟩
    ·exact ⟨f z,by simp,he⟩
   ·rcases zhf.1 hc with hc | hc
    ·exact zil _ (h2 c hc e he)
    ·rw [zhe.1 hc] at he
     exact List.mem_append_right _ he
   ·rcases hd with hd | hd
    ·rcases zgf.1 hd with rfl | hd
     ·exact .inr (List.mem_append_right _ (hmem _))
     ·exact .inl hd
    ·exact .inr (zil _ hd)
section
variable {p:Pn} (h:Good0 p)
include h
omit h in
theorem Good0.in_cycle {d:Int} (hd:d∈dartsR p):∃ c∈cyclesR p,d∈c:=by
 unfold cyclesR
 refine zcl (fun z=>?_) (dartsR p) [] [] (by simp) (by simp) d (.inl hd)
 have:=zck (f:=nxR (folD p) (folN p)) (dart:=z) (folD p).length [z]
 unfold cycR
 have key:∀ (k:Nat) (l:List Int),z∈l->z∈cycGo (nxR (folD p) (folN p)) z k l:=fun k=>by
  induction k with
  | zero=>intro l hl; exact hl
  | succ k ih =>
   intro l hl
   unfold cycGo
   split
   ·exact hl
   ·exact ih _ (zil _ hl)
 exact key _ _ (by simp)
omit h in
theorem Good0.of_cycle {c:List Int} (hc:c∈cyclesR p):∃ z∈dartsR p,c=cycR (folD p) (folN p) z:=by
 unfold cyclesR at hc
 rcases YS hc with hc | hc
 ·simp at hc
 ·exact hc
theorem Good0.cyc {c:List Int} (hc:c∈cyclesR p) {PI:Int} (hPI:0<PI) (hd:∀ i,((h.net.drawn.B i).h - (h.net.drawn.A i).h) ∣ PI):(h.net.drawn.rowed hPI hd).strips.Cyc fun x=>c.contains (h.net.dart x):=by
 obtain ⟨z,hz,rfl⟩:=Good0.of_cycle hc
 refine h.net.cyc hPI hd h.turns (c:=fun d=>(cycR (folD p) (folN p) z).contains d) fun d hdd=>?_
 rw [zhi,zgh,zgh]
 exact h.cycle_closed hz (h.darts.2 hdd)
end
end
end Go.Proofs.YtdacpmgnhkmnkaaGreatDoor
end
section
namespace Go.Proofs.YtdacpmgnhkmnkaaGreatDoor
section
section
variable {S:Type} {T:Strips S}
def Strips.part (T:Strips S) (s0:S) (s:S):Prop:=∀ F:S->Int,(∀ m s t,(s∈T.U m∨s∈T.D m)->(t∈T.U m∨t∈T.D m)->F s=F t)->F s=F s0
theorem part_joined (s0:S):T.Joined (T.part s0):=fun F hF s t hs ht=>(hs F hF).trans (ht F hF).symm
theorem yG (s0:S):T.part s0 s0:=fun _ _=>rfl
theorem part_row {s0:S} {m:Int} {s t:S} (hs:s∈T.U m∨s∈T.D m) (ht:t∈T.U m∨t∈T.D m) (h:T.part s0 s):T.part s0 t:=fun F hF=>(hF m t s ht hs).trans (h F hF)
theorem Z0 {s0 s:S} (h:T.part s0 s):T.part s s0:=fun F hF=>(h F hF).symm
theorem z8 {s0 s t:S} (h:T.part s0 s) (h2:T.part s t):T.part s0 t:=fun F hF=>(h2 F hF).trans (h F hF)
theorem zbp {m:Int} {x:Dt S} (h:x∈T.ring m):x.s∈T.U m∨x.s∈T.D m:=by
 unfold Strips.ring at h
 rcases zhf.1 h with h | h
 ·obtain ⟨s,hs,rfl⟩:=zgx.1 h
  exact .inl (List.mem_reverse.1 hs)
 ·obtain ⟨s,hs,rfl⟩:=zgx.1 h
  exact .inr hs
end
section
variable (N:Net) {PI:Int} (hPI:0<PI) (hd:∀ i,((N.drawn.B i).h - (N.drawn.A i).h) ∣ PI)
theorem Net.part_at {s0:Ix N.E.length} {x y:Dt (Ix N.E.length)} (e:N.drawn.fro x=N.drawn.fro y) (h:(N.drawn.rowed hPI hd).strips.part s0 x.s):(N.drawn.rowed hPI hd).strips.part s0 y.s :=
 part_row (zbp ((N.drawn.mem_ring hPI hd).2 rfl)) (zbp ((N.drawn.mem_ring hPI hd).2 (by rw [e]))) h
theorem Net.part_arc {s0:Ix N.E.length} {a:Int} {x:Dt (Ix N.E.length)} {k:Nat} (hx:N.E[x.s]=(a,k)) (h:(N.drawn.rowed hPI hd).strips.part s0 x.s) {y:Dt (Ix N.E.length)} (hy:N.E[y.s]=(a,k+1)):(N.drawn.rowed hPI hd).strips.part s0 y.s:=by
 have mx:(a,k)∈N.E:=by rw [← hx]; exact zgt _
 have my:(a,k+1)∈N.E:=by rw [← hy]; exact zgt _
 obtain ⟨u,u1,u2⟩:=N.ex mx false
 obtain ⟨v,v1,v2⟩:=N.ex my true
 have hux:u.s=x.s:=by
  have:N.E[u.s]=N.E[x.s]:=by rw [u1,hx]
  exact Fin.ext ((List.getElem_inj N.nodup).1 this)
 have hvy:v.s=y.s:=by
  have:N.E[v.s]=N.E[y.s]:=by rw [v1,hy]
  exact Fin.ext ((List.getElem_inj N.nodup).1 this)
 rw [← hvy]
 refine N.part_at hPI hd (x:=u) (y:=v) ?_ (by rw [hux]; exact h)
 rw [(N.fro_bwd u2).1,(N.fro_fwd v2).1,u1,v1]
end
end
end Go.Proofs.YtdacpmgnhkmnkaaGreatDoor
end
