/-
  A part of the proof: the small machine, its simulation and its walks.
-/
import Derived.Test.YtdacpmgnhkmnkaaGreatDoorPb
import Derived.Test.YtdacpmgnhkmnkaaGreatDoorPc
import Derived.Test.YtdacpmgnhkmnkaaGreatDoorPd
set_option linter.unusedVariables false
set_option linter.unusedSimpArgs false
set_option linter.unusedSectionVars false
set_option maxRecDepth 1000000
set_option maxHeartbeats 3200000
open Nat renaming reduceLT → Xa, reduceAdd → Xb, reduceMul → Xc, reduceLeDiff → Xd, reduceEqDiff → Xe
section
namespace Go.Proofs.YtdacpmgnhkmnkaaGreatDoor
section
theorem Net.dart_abs (N:Net) (x:Dt (Ix N.E.length)):N.E[x.s].1=N.dart x∨N.E[x.s].1=- N.dart x:=by
 unfold Net.dart
 cases N.fwd x
 ·right; simp
 ·left; rfl
section
variable (N:Net) {PI:Int} (hPI:0<PI) (hd:∀ i,((N.drawn.B i).h - (N.drawn.A i).h) ∣ PI)
theorem Net.first_seg {z:Int} (hz:N.isDart z):∃ x:Dt (Ix N.E.length),N.dart x=z/\N.drawn.fro x=N.sp z:=by
 rcases hz with hz | hz
 ·have hp:=(N.mem _ _ hz).1
  obtain ⟨x,x1,x2⟩:=N.ex hz true
  refine ⟨x,?_,?_⟩
  ·unfold Net.dart
   rw [x2,if_pos rfl,x1]
  ·unfold Net.sp
   rw [if_pos hp,(N.fro_fwd x2).1,x1]
 ·have hp:=(N.mem _ _ hz).1
  have hl:=(N.mem _ _ hz).2
  obtain ⟨x,x1,x2⟩:=N.ex (N.whole _ _ (N.len (-z) - 1) hz (by omega)) false
  refine ⟨x,?_,?_⟩
  ·unfold Net.dart
   rw [x2,if_neg (by decide),x1]
   simp only [ziv]
  ·unfold Net.sp
   rw [if_neg (by omega),(N.fro_bwd x2).1,x1]
   simp only
   rw [show N.len (-z) - 1+1=N.len (-z) by omega]
theorem Net.arc_from {a:Int} {x:Dt (Ix N.E.length)} (hx:N.E[x.s]=(a,0)):∀ (k:Nat) (y:Dt (Ix N.E.length)),N.E[y.s]=(a,k)->(N.drawn.rowed hPI hd).strips.part x.s y.s
 | 0,y,hy=>by
  have:x.s=y.s:=Fin.ext ((List.getElem_inj N.nodup).1 (hx.trans hy.symm))
  rw [this]
  exact yG _
 | k+1,y,hy=>by
  have my:(a,k+1)∈N.E:=by rw [← hy]; exact zgt _
  have mk:(a,k)∈N.E:=N.whole a (k+1) k my (by have:=(N.mem _ _ my).2; omega)
  obtain ⟨u,u1,_⟩:=N.ex mk true
  exact N.part_arc hPI hd u1 (Net.arc_from hx k u u1) hy
theorem Net.arc_part {s0:Ix N.E.length} {x y:Dt (Ix N.E.length)} (e:N.E[x.s].1=N.E[y.s].1) (h:(N.drawn.rowed hPI hd).strips.part s0 x.s):(N.drawn.rowed hPI hd).strips.part s0 y.s:=by
 obtain ⟨u,u1,_⟩:=N.ex (N.first (N.get_mem x.s)) true
 have p1:=N.arc_from hPI hd u1 N.E[x.s].2 x rfl
 have p2:=N.arc_from hPI hd u1 N.E[y.s].2 y (by rw [e])
 exact z8 h (z8 (Z0 p1) p2)
theorem Net.dart_part {s0:Ix N.E.length} {x y:Dt (Ix N.E.length)} (e:N.dart x=N.dart y∨N.dart x=- N.dart y) (h:(N.drawn.rowed hPI hd).strips.part s0 x.s):(N.drawn.rowed hPI hd).strips.part s0 y.s:=by
 refine N.arc_part hPI hd ?_ h
 have p1:=(N.mem _ _ (N.get_mem x.s)).1
 have p2:=(N.mem _ _ (N.get_mem y.s)).1
 rcases N.dart_abs x with a | a <;> rcases N.dart_abs y with b | b <;> rcases e with e | e <;> omega
end
section
variable {p:Pn} (h:Good0 p) {PI:Int} (hPI:0<PI) (hd:∀ i,((h.net.drawn.B i).h - (h.net.drawn.A i).h) ∣ PI)
theorem Good0.next_part {s0:Ix h.net.E.length} {z:Int} (hz:h.net.isDart z) {x y:Dt (Ix h.net.E.length)} (hx:h.net.dart x=z) (hy:h.net.dart y=nextR p z) (hp:(h.net.drawn.rowed hPI hd).strips.part s0 x.s):(h.net.drawn.rowed hPI hd).strips.part s0 y.s:=by
 obtain ⟨n1,n2⟩:=h.next_dart hz
 obtain ⟨u,u1,u2⟩:=h.net.first_seg (h.ng_dart hz).2
 obtain ⟨v,v1,v2⟩:=h.net.first_seg n1
 have pu:=h.net.dart_part hPI hd (x:=x) (y:=u) (.inr (by rw [hx,u1,ziv])) hp
 have pv:=h.net.part_at hPI hd (x:=u) (y:=v) (by rw [u2,v2,n2]) pu
 exact h.net.dart_part hPI hd (x:=v) (y:=y) (.inl (by rw [v1,hy])) pv
theorem Good0.cycle_part {z:Int} (hz:z∈dartsR p) {x0:Dt (Ix h.net.E.length)} (h0:h.net.dart x0=z):∀ x:Dt (Ix h.net.E.length),h.net.dart x∈cycR (folD p) (folN p) z->(h.net.drawn.rowed hPI hd).strips.part x0.s x.s:=fun x hx=>by
 obtain ⟨o,_⟩:=h.cycle hz
 have key:∀ (i:Nat) (d:Int),(cycR (folD p) (folN p) z)[i]?=some d->∀ y:Dt (Ix h.net.E.length),h.net.dart y=d->(h.net.drawn.rowed hPI hd).strips.part x0.s y.s:=fun i=>by
  induction i with
  | zero =>
   intro d hdd y hy
   rw [o.head] at hdd
   cases hdd
   exact h.net.dart_part hPI hd (x:=x0) (y:=y) (.inl (by rw [h0,hy])) (yG _)
  | succ i ih =>
   intro d hdd y hy
   have hl:=(zfz.1 hdd).1
   have hxi:(cycR (folD p) (folN p) z)[i]?=some (cycR (folD p) (folN p) z)[i]:=zf0 (by omega)
   have hst:=o.step i _ hxi hl
   rw [hdd] at hst
   have hdi:=h.darts.1 (o.sub _ (zgt (show i<(cycR (folD p) (folN p) z).length by omega)))
   obtain ⟨w,w1,_⟩:=h.net.first_seg hdi
   exact h.next_part hPI hd hdi w1 (by rw [hy]; exact zgy hst) (ih _ hxi w w1)
 obtain ⟨i,hi⟩:=zg7 hx
 exact key i _ hi x rfl
theorem Good0.of {z:Int} (hz:z∈dartsR p) (hc:cycR (folD p) (folN p) z∈cyclesR p) {x0:Dt (Ix h.net.E.length)} (h0:h.net.dart x0=z):(h.net.drawn.rowed hPI hd).strips.Of ((h.net.drawn.rowed hPI hd).strips.part x0.s) (fun x=>(cycR (folD p) (folN p) z).contains (h.net.dart x)) :=
 ⟨part_joined _,fun x hx=>h.cycle_part hPI hd hz h0 x (zgh.1 hx),h.cyc hc hPI hd⟩
end
end
section
section
variable {p:Pn} (h:Good0 p)
include h
theorem Good0.cycle_sub {z w d:Int} (hz:z∈dartsR p) (hw:w∈dartsR p) (h1:d∈cycR (folD p) (folN p) z) (h2:d∈cycR (folD p) (folN p) w):∀ x∈cycR (folD p) (folN p) w,x∈cycR (folD p) (folN p) z:=fun x hx=>by
 obtain ⟨o,_⟩:=h.cycle hw
 have key:∀ (i:Nat) (u v:Int),(cycR (folD p) (folN p) w)[0]?=some u->(cycR (folD p) (folN p) w)[i]?=some v->(u∈cycR (folD p) (folN p) z↔v∈cycR (folD p) (folN p) z):=fun i=>by
  induction i with
  | zero =>
   intro u v hu hv
   rw [hu] at hv
   cases hv
   exact Iff.rfl
  | succ i ih =>
   intro u v hu hv
   have hl:=(zfz.1 hv).1
   have hxi:(cycR (folD p) (folN p) w)[i]?=some (cycR (folD p) (folN p) w)[i]:=zf0 (by omega)
   have hst:=o.step i _ hxi hl
   rw [hv] at hst
   rw [zgy hst,h.cycle_closed hz (o.sub _ (zgl hxi))]
   exact ih u _ hu hxi
 obtain ⟨i,hi⟩:=zg7 h2
 obtain ⟨j,hj⟩:=zg7 hx
 exact (key j _ _ o.head hj).1 ((key i _ _ o.head hi).2 h1)
theorem Good0.cycle_same {z w d:Int} (hz:z∈dartsR p) (hw:w∈dartsR p) (h1:d∈cycR (folD p) (folN p) z) (h2:d∈cycR (folD p) (folN p) w) (x:Int):x∈cycR (folD p) (folN p) z↔x∈cycR (folD p) (folN p) w :=
 ⟨h.cycle_sub hw hz h2 h1 x,h.cycle_sub hz hw h1 h2 x⟩
end
end
end Go.Proofs.YtdacpmgnhkmnkaaGreatDoor
end
section
namespace Go.Proofs.YtdacpmgnhkmnkaaGreatDoor
open Go Go.RowKit
section
section
variable {α β:Type}
theorem zbq {f:α->Int} {l r:List α} (h:l.Perm r):sm f l=sm f r:=by
 induction h with
 | nil=>rfl
 | cons x _ ih=>simp only [sm,ih]
 | swap x y l=>simp only [sm]; omega
 | trans _ _ h1 h2=>exact h1.trans h2
theorem Z1 {f:α->Int} {q:α->Bool}:∀ {l:List α},sm f (l.filter q)=sm (fun x=>b2 (q x)*f x) l
 | []=>rfl
 | x::l=>by
  have ih:=Z1 (f:=f) (q:=q) (l:=l)
  rw [List.filter_cons]
  cases h:q x
  ·rw [if_neg (by decide)]
   simp only [sm,h,ih,show b2 false=0 from rfl,Int.zero_mul,Int.zero_add]
  ·rw [if_pos rfl]
   simp only [sm,h,ih,show b2 true=1 from rfl,Int.one_mul]
theorem YT {f:α->β->Int}:∀ {l:List α} {r:List β},sm (fun a=>sm (f a) r) l=sm (fun b=>sm (fun a=>f a b) l) r
 | [],r=>(zY fun _ _=>rfl).symm
 | x::l,r=>by
  have ih:=YT (f:=f) (l:=l) (r:=r)
  simp only [sm,ih]
  exact YB.symm
theorem zae {f:β->Int} {g:α->List β}:∀ {l:List α},sm f (l.flatMap g)=sm (fun a=>sm f (g a)) l
 | []=>rfl
 | x::l=>by
  rw [zgj,zu,zae (l:=l)]
  rfl
theorem yY {f:α->Int} {k:Int}:∀ {l:List α},sm (fun x=>k*f x) l=k*sm f l
 | []=>(Int.mul_zero k).symm
 | x::l=>by
  have ih:=yY (f:=f) (k:=k) (l:=l)
  simp only [sm,ih,Int.mul_add]
theorem sm_ix {g:α->Int} (l:List α):sm (fun i:Ix l.length=>g l[i]) (List.finRange l.length)=sm g l:=by
 have e:(List.finRange l.length).map (fun i=>l[i])=l:=List.ext_getElem (by simp) fun i h1 h2=>by simp
 conv=>rhs; rw [← e]
 rw [yv]
theorem zbr {f:α->Int} {B:Int}:∀ {l:List α},(∀ x∈l,-B<=f x/\f x<=B)->-(B*l.length)<=sm f l/\sm f l<=B*l.length
 | [],_=>by simp [sm]
 | x::l,h=>by
  have ih:=zbr (f:=f) (B:=B) (l:=l) fun y hy=>h y (zgn _ hy)
  have hx:=h x (zgi ..)
  simp only [sm,zf3,Int.natCast_add,Int.natCast_one,Int.mul_add,Int.mul_one]
  omega
end
section
variable {p:Pn} (h:Good0 p)
include h
theorem Good0.sum_seg (g:Int × Nat->Int):sm (fun i:Ix h.net.E.length=>g h.net.E[i]) (List.finRange h.net.E.length)=sm (fun a=>sm (fun k=>g (a.id,k)) (List.range ((lineR p a).length - 1))) p.az.l:=by
 rw [sm_ix (g:=g)]
 show sm g ((spsN p).map fun s=>(s.id,s.k))=_
 rw [yv]
 unfold spsN
 rw [zae]
 refine zp fun a _=>?_
 unfold spsOf
 rw [yv]
theorem Good0.darts_nodup:(dartsR p).Nodup:=by
 unfold dartsR
 have hp:=h.nice.aid
 rw [zhk] at hp
 rw [List.nodup_append]
 refine ⟨?_,?_,fun a ha b hb e=>?_⟩
 ·rw [List.Nodup,zhk,List.pairwise_reverse]
  refine hp.imp_of_mem fun {a b} ha hb hab e=>?_
  rw [h.ng ha,h.ng hb] at e
  omega
 ·rw [List.Nodup,zhk]
  exact hp.imp fun {a b} hab e=>by omega
 ·obtain ⟨x,hx,rfl⟩:=zgx.1 ha
  obtain ⟨y,hy,rfl⟩:=zgx.1 hb
  rw [List.mem_reverse] at hx
  rw [h.ng hx] at e
  have i1:=h.pid x hx
  have i2:=h.pid y hy
  omega
theorem Good0.sum_darts {c:List Int} (hn:c.Nodup) (hs:∀ d∈c,d∈dartsR p) (W:Int->Int):sm W c=sm (fun a=>b2 (c.contains a.id)*W a.id+b2 (c.contains (-a.id))*W (-a.id)) p.az.l:=by
 have hp:c.Perm ((dartsR p).filter fun d=>c.contains d):=(List.perm_ext_iff_of_nodup hn (h.darts_nodup.filter _)).2 fun d=>by
  rw [zif,zgh]
  exact ⟨fun hd=>⟨hs d hd,hd⟩,fun hd=>hd.2⟩
 rw [zbq hp,Z1]
 unfold dartsR
 rw [zu,yv,yv,zfa,← YB]
 refine zp fun a ha=>?_
 simp only [h.ng ha]
 exact Int.add_comm _ _
end
end
section
def rowsL (L0:Int) (w:Nat):List Int:=(List.range w).map fun k:Nat=>L0+(k:Int)
theorem rowsL_succ {L0:Int} {w:Nat}:rowsL L0 (w+1)=rowsL L0 w++[L0+(w:Int)]:=by
 unfold rowsL
 rw [List.range_succ,zir]
 rfl
theorem mem_rows {L0 m:Int} {w:Nat} (h1:L0<=m) (h2:m<L0+w):m∈rowsL L0 w :=
 zgx.2 ⟨(m - L0).toNat,zht.2 (by omega),by omega⟩
section
variable {n:Nat} (Dr:Drawn n) {PI:Int}
theorem Drawn.col_sum (i:Ix n) {L0:Int} (h0:L0<=Dr.lo i):∀ w:Nat,sm (fun m=>b2 (decide (Dr.lo i<=m)&&decide (m<Dr.hi i))*(Dr.rp PI m i+Dr.rp PI (m+1) i)) (rowsL L0 w)=(2*Dr.rp PI (Dr.lo i) i+Dr.be PI i*(max (Dr.lo i) (min (Dr.hi i) (L0+(w:Int))) - Dr.lo i))*(max (Dr.lo i) (min (Dr.hi i) (L0+(w:Int))) - Dr.lo i)
 | 0=>by
  have e:max (Dr.lo i) (min (Dr.hi i) (L0+((0:Nat):Int)))=Dr.lo i:=by omega
  rw [e,Int.sub_self,Int.mul_zero]
  rfl
 | w+1=>by
  rw [rowsL_succ,zu,Drawn.col_sum i h0 w]
  simp only [sm]
  by_cases c:Dr.lo i<=L0+(w:Int)/\L0+(w:Int)<Dr.hi i
  ·have e1:max (Dr.lo i) (min (Dr.hi i) (L0+(w:Int)))=L0+(w:Int):=by omega
   have e2:max (Dr.lo i) (min (Dr.hi i) (L0+((w+1:Nat):Int)))=L0+(w:Int)+1:=by omega
   have a1:=Dr.aff (PI:=PI) (i:=i) (h:=Dr.lo i) (L0+(w:Int) - Dr.lo i)
   have a2:=Dr.aff (PI:=PI) (i:=i) (h:=Dr.lo i) (L0+(w:Int)+1 - Dr.lo i)
   rw [show Dr.lo i+(L0+(w:Int) - Dr.lo i)=L0+(w:Int) by omega] at a1
   rw [show Dr.lo i+(L0+(w:Int)+1 - Dr.lo i)=L0+(w:Int)+1 by omega] at a2
   rw [e1,e2,a1,a2,decide_eq_true c.1,decide_eq_true c.2]
   simp only [Bool.and_self,show b2 true=1 from rfl]
   generalize Dr.rp PI (Dr.lo i) i=r
   generalize Dr.be PI i=b
   rw [show L0+(w:Int)+1 - Dr.lo i=(L0+(w:Int) - Dr.lo i)+1 by omega]
   generalize L0+(w:Int) - Dr.lo i=u
   grind
  ·have e2:max (Dr.lo i) (min (Dr.hi i) (L0+((w+1:Nat):Int)))=max (Dr.lo i) (min (Dr.hi i) (L0+(w:Int))):=by
    have:=Dr.hne i
    have:Dr.lo i<Dr.hi i:=by unfold Drawn.lo Drawn.hi; omega
    omega
   have e3:(decide (Dr.lo i<=L0+(w:Int))&&decide (L0+(w:Int)<Dr.hi i))=false:=by
    rw [Bool.and_eq_false_iff,decide_eq_false_iff_not,decide_eq_false_iff_not]
    omega
   rw [e2,e3]
   simp only [show b2 false=0 from rfl,Int.zero_mul,Int.add_zero]
variable (hPI:0<PI) (hd:∀ i,((Dr.B i).h - (Dr.A i).h) ∣ PI)
theorem Drawn.row_total {f:Dt (Ix n)->Bool} {L0:Int} {w:Nat} (h0:∀ i,L0<=Dr.lo i) (h1:∀ i,Dr.hi i<=L0+(w:Int)):area (Dr.rowed hPI hd).strips (Dr.rowed hPI hd).key (rowsL L0 w) f=sm (fun i=>sg f i*((Dr.rp PI (Dr.lo i) i+Dr.rp PI (Dr.hi i) i)*(Dr.hi i - Dr.lo i))) (List.finRange n):=by
 have row:∀ m,rowA ((Dr.rowed hPI hd).key m) (sg f) ((Dr.rowed hPI hd).strips.L m)=sm (fun i=>sg f i*(b2 (decide (Dr.lo i<=m)&&decide (m<Dr.hi i))*(Dr.rp PI m i+Dr.rp PI (m+1) i))) (List.finRange n):=fun m=>by
  unfold rowA
  show sm _ ((Dr.rowed hPI hd).L m)=_
  unfold Rowed.L
  rw [zbq (List.mergeSort_perm _ _),Z1]
  exact zp fun i _=>Int.mul_left_comm _ _ _
 unfold area
 rw [zp fun m _=>row m,YT]
 refine zp fun i _=>?_
 rw [yY,Dr.col_sum i (h0 i) w]
 have e:max (Dr.lo i) (min (Dr.hi i) (L0+(w:Int)))=Dr.hi i:=by
  have:=h1 i
  have:=(Dr.rowed hPI hd).lt i
  have:Dr.lo i<Dr.hi i:=this
  omega
 have a1:=Dr.aff (PI:=PI) (i:=i) (h:=Dr.lo i) (Dr.hi i - Dr.lo i)
 rw [show Dr.lo i+(Dr.hi i - Dr.lo i)=Dr.hi i by omega] at a1
 rw [e,a1]
 congr 2
 omega
end
def crs (a b:Pt):Int:=a.x*b.y - b.x*a.y
def gg (q:Pt):Int:=8388608*(q.x*q.y) - q.x*q.x
theorem seg_split (a b:Pt):(a.x+b.x)*(b.h - a.h)=8388608*crs a b+(gg b - gg a):=by
 unfold crs gg Pt.h
 grind
theorem sm_tel {g:Nat->Int}:∀ n:Nat,sm (fun k=>g (k+1) - g k) (List.range n)=g n - g 0
 | 0=>(Int.sub_self _).symm
 | n+1=>by
  rw [List.range_succ,zu,sm_tel n]
  simp only [sm]
  omega
section
variable (N:Net) {PI:Int} (hPI:0<PI) (hd:∀ i,((N.drawn.B i).h - (N.drawn.A i).h) ∣ PI)
def Net.tau (a:Int):Int:=sm (fun k=>crs (N.pt a k) (N.pt a (k+1))) (List.range (N.len a))
def Net.tauD (d:Int):Int:=if 0<d then N.tau d else - N.tau (-d)
def Net.twX (c:List Int):Int:=sm N.tauD c
include hPI hd
theorem Net.sg_weight (c:Int->Bool) (s:Ix N.E.length):sg (fun x=>c (N.dart x)) s*((N.drawn.rp PI (N.drawn.lo s) s+N.drawn.rp PI (N.drawn.hi s) s)*(N.drawn.hi s - N.drawn.lo s))=(b2 (c N.E[s].1) - b2 (c (-N.E[s].1)))*(PI*(((N.drawn.A s).x+(N.drawn.B s).x)*((N.drawn.B s).h - (N.drawn.A s).h))):=by
 have eA:=N.drawn.end_at hPI hd (i:=s) (P:=N.drawn.A s) (.inl rfl)
 have eB:=N.drawn.end_at hPI hd (i:=s) (P:=N.drawn.B s) (.inr rfl)
 have hne:=N.drawn.hne s
 by_cases hlt:(N.drawn.A s).h<(N.drawn.B s).h
 ·have e1:N.drawn.lo s=(N.drawn.A s).h:=by unfold Drawn.lo; omega
  have e2:N.drawn.hi s=(N.drawn.B s).h:=by unfold Drawn.hi; omega
  have f1:N.fwd ⟨s,true⟩=true:=by unfold Net.fwd; simp [hlt]
  have f2:N.fwd ⟨s,false⟩=false:=by unfold Net.fwd; simp [hlt]
  have d1:N.dart ⟨s,true⟩=N.E[s].1:=by unfold Net.dart; rw [f1,if_pos rfl]
  have d2:N.dart ⟨s,false⟩=-N.E[s].1:=by unfold Net.dart; rw [f2,if_neg (by decide)]
  show (b2 (c (N.dart ⟨s,true⟩)) - b2 (c (N.dart ⟨s,false⟩)))*_=_
  rw [d1,d2,e1,e2,eA,eB]
  generalize b2 (c N.E[s].1) - b2 (c (-N.E[s].1))=u
  congr 1
  grind
 ·have e1:N.drawn.lo s=(N.drawn.B s).h:=by unfold Drawn.lo; omega
  have e2:N.drawn.hi s=(N.drawn.A s).h:=by unfold Drawn.hi; omega
  have f1:N.fwd ⟨s,true⟩=false:=by unfold Net.fwd; simp [hlt]
  have f2:N.fwd ⟨s,false⟩=true:=by unfold Net.fwd; simp [hlt]
  have d1:N.dart ⟨s,true⟩=-N.E[s].1:=by unfold Net.dart; rw [f1,if_neg (by decide)]
  have d2:N.dart ⟨s,false⟩=N.E[s].1:=by unfold Net.dart; rw [f2,if_pos rfl]
  show (b2 (c (N.dart ⟨s,true⟩)) - b2 (c (N.dart ⟨s,false⟩)))*_=_
  rw [d1,d2,e1,e2,eA,eB]
  generalize b2 (c N.E[s].1)=u
  generalize b2 (c (-N.E[s].1))=v
  grind
end
section
variable {p:Pn} (h:Good0 p) {PI:Int} (hPI:0<PI) (hd:∀ i,((h.net.drawn.B i).h - (h.net.drawn.A i).h) ∣ PI)
theorem Good0.tau_neg {a:Ac} (ha:a∈p.az.l):h.net.tauD (-a.id)=- h.net.tauD a.id:=by
 have:=h.pid a ha
 unfold Net.tauD
 rw [if_neg (by omega),if_pos (by omega),ziv]
theorem Good0.area_eq {c:List Int} (hn:c.Nodup) (hs:∀ d∈c,d∈dartsR p) (hcl:sm (fun d=>gg (h.net.sp (-d)) - gg (h.net.sp d)) c=0) {L0:Int} {w:Nat} (h0:∀ i,L0<=h.net.drawn.lo i) (h1:∀ i,h.net.drawn.hi i<=L0+(w:Int)):area (h.net.drawn.rowed hPI hd).strips (h.net.drawn.rowed hPI hd).key (rowsL L0 w) (fun x=>c.contains (h.net.dart x))=PI*(8388608*h.net.twX c):=by
 rw [h.net.drawn.row_total hPI hd h0 h1,zp fun i _=>h.net.sg_weight hPI hd (fun d=>c.contains d) i]
 have e1:=h.sum_seg fun e=>(b2 (c.contains e.1) - b2 (c.contains (-e.1)))*(PI*(((h.net.pt e.1 e.2).x+(h.net.pt e.1 (e.2+1)).x)*((h.net.pt e.1 (e.2+1)).h - (h.net.pt e.1 e.2).h)))
 refine e1.trans ?_
 have hW:=h.sum_darts hn hs fun d=>PI*(8388608*h.net.tauD d+(gg (h.net.sp (-d)) - gg (h.net.sp d)))
 have e2:sm (fun d=>PI*(8388608*h.net.tauD d+(gg (h.net.sp (-d)) - gg (h.net.sp d)))) c=PI*(8388608*h.net.twX c):=by
  rw [yY,YB,hcl,yY,Int.add_zero]
  rfl
 rw [← e2,hW]
 refine zp fun a ha=>?_
 have hid:=h.pid a ha
 have e3:sm (fun k=>(b2 (c.contains a.id) - b2 (c.contains (-a.id)))*(PI*(((h.net.pt a.id k).x+(h.net.pt a.id (k+1)).x)*((h.net.pt a.id (k+1)).h - (h.net.pt a.id k).h)))) (List.range ((lineR p a).length - 1))=(b2 (c.contains a.id) - b2 (c.contains (-a.id)))*(PI*(8388608*h.net.tau a.id+(gg (h.net.sp (-a.id)) - gg (h.net.sp a.id)))):=by
  rw [yY,yY,zp fun k _=>seg_split (h.net.pt a.id k) (h.net.pt a.id (k+1)),YB,yY,sm_tel (g:=fun k=>gg (h.net.pt a.id k))]
  have s1:h.net.sp a.id=h.net.pt a.id 0:=by unfold Net.sp; rw [if_pos (by omega)]
  have s2:h.net.sp (-a.id)=h.net.pt a.id ((lineR p a).length - 1):=by
   unfold Net.sp
   rw [if_neg (by omega),ziv,h.len ha]
  rw [s1,s2]
  unfold Net.tau
  rw [h.len ha]
 refine e3.trans ?_
 rw [h.tau_neg ha,ziv,show h.net.tauD a.id=h.net.tau a.id by unfold Net.tauD; rw [if_pos (by omega)]]
 grind
end
end
section
theorem Orb.image {f:Int->Int} {D:List Int} {z:Int} {c:List Int} (h:Orb f D z c) (inj:∀ x∈D,∀ y∈D,f x=f y->x=y) (hz:f (lastI c)=z):(c.map f).Perm c:=by
 refine (List.perm_ext_iff_of_nodup ?_ h.nodup).2 fun x=>?_
 ·rw [List.Nodup,zhk]
  exact h.nodup.imp_of_mem fun {a b} ha hb hab e=>hab (inj a (h.sub a ha) b (h.sub b hb) e)
 ·rw [zgx]
  constructor
  ·rintro ⟨y,hy,rfl⟩
   exact (h.closed inj hz (h.sub y hy)).2 hy
  ·intro hx
   obtain ⟨i,hi⟩:=zg7 hx
   rcases i with - | i
   ·rw [h.head] at hi
    exact ⟨lastI c,zgl h.last,by rw [hz]; exact zgy hi⟩
   ·have hl:=(zfz.1 hi).1
    have hxi:c[i]?=some c[i]:=zf0 (by omega)
    have:=h.step i _ hxi hl
    rw [hi] at this
    exact ⟨c[i],zgt _,(zgy this).symm⟩
theorem zfo {f:Int->List Int} {D:List Int} (hsame:∀ z∈D,∀ w∈D,∀ d,d∈f z->d∈f w->∀ x,x∈f z->x∈f w) (hmem:∀ z,z∈f z):∀ (ds met:List Int) (o:List (List Int)),(∀ z∈ds,z∈D)->(∀ c∈o,(∃ z∈D,c=f z)/\∀ d∈c,d∈met)->o.Pairwise (fun a b=>∀ d,d∈a->d∈b->False)->(cysGo f id ds met o).Pairwise (fun a b=>∀ d,d∈a->d∈b->False)
 | [],met,o,_,_,h=>h
 | z::ds,met,o,hD,ho,h=>by
  unfold cysGo
  split
  ·exact zfo hsame hmem ds met o (fun x hx=>hD x (zgn _ hx)) ho h
  ·rename_i hc
   have hz:=hD z (zgi ..)
   refine zfo hsame hmem ds (met++f z) (o++[f z]) (fun x hx=>hD x (zgn _ hx)) (fun c hc2=>?_) ?_
   ·rcases zhf.1 hc2 with hc2 | hc2
    ·obtain ⟨h1,h2⟩:=ho c hc2
     exact ⟨h1,fun d hd=>zil _ (h2 d hd)⟩
    ·rw [zhe] at hc2
     subst hc2
     exact ⟨⟨z,hz,rfl⟩,fun d hd=>List.mem_append_right _ hd⟩
   ·rw [List.pairwise_append]
    refine ⟨h,List.pairwise_singleton ..,fun a ha b hb d h1 h2=>hc ?_⟩
    rw [zhe] at hb
    subst hb
    obtain ⟨⟨y,hy,rfl⟩,h3⟩:=ho a ha
    exact zgh.2 (h3 z (hsame z hz y hy d h2 h1 z (hmem z)))
theorem near_h {q:Pt} (h:q.near):-20000000000000<=q.h/\q.h<20000000000000:=by
 unfold Pt.near at h
 unfold Pt.h
 omega
theorem Drawn.cover {n:Nat} (Dr:Drawn n):∃ (L0:Int) (w:Nat),∀ i,L0<=Dr.lo i/\Dr.hi i<=L0+(w:Int):=by
 refine ⟨-20000000000000,(40000000000000:Int).toNat,fun i=>?_⟩
 have h1:=near_h (Dr.nearA i)
 have h2:=near_h (Dr.nearB i)
 unfold Drawn.lo Drawn.hi
 rw [show (((40000000000000:Int).toNat:Nat):Int)=40000000000000 from Int.toNat_of_nonneg (by decide)]
 omega
section
variable {n:Nat} (Dr:Drawn n) {PI:Int} (hPI:0<PI) (hd:∀ i,((Dr.B i).h - (Dr.A i).h) ∣ PI)
theorem Drawn.mem_strip {m:Int} {i:Ix n}:i∈(Dr.rowed hPI hd).strips.L m↔Dr.lo i<=m/\m<Dr.hi i:=(Dr.rowed hPI hd).strips.mem m i
theorem Drawn.empty {L0:Int} (h0:∀ i,L0<=Dr.lo i):(Dr.rowed hPI hd).strips.L (L0 - 1)=[]:=List.eq_nil_iff_forall_not_mem.2 fun i hi=>by
 have:=(Dr.mem_strip hPI hd).1 hi
 have:=h0 i
 omega
theorem Drawn.rows {L0:Int} {w:Nat} (h0:∀ i,L0<=Dr.lo i) (h1:∀ i,Dr.hi i<=L0+(w:Int)) {m:Int} (hm:(Dr.rowed hPI hd).strips.L m≠[]):m∈rowsL L0 w:=by
 obtain ⟨i,hi⟩:=List.exists_mem_of_ne_nil _ hm
 have:=(Dr.mem_strip hPI hd).1 hi
 have:=h0 i
 have:=h1 i
 exact mem_rows (by omega) (by omega)
end
section
variable {p:Pn} (h:Good0 p)
include h
theorem Good0.self_mem {z:Int} (hz:z∈dartsR p):z∈cycR (folD p) (folN p) z:=zgl (h.cycle hz).1.head
theorem Good0.closed_sum {z:Int} (hz:z∈dartsR p) (G:Pt->Int):sm (fun d=>G (h.net.sp (-d)) - G (h.net.sp d)) (cycR (folD p) (folN p) z)=0:=by
 obtain ⟨o,e⟩:=h.cycle hz
 have h1:sm (fun d=>G (h.net.sp (-d))) (cycR (folD p) (folN p) z)=sm (fun d=>G (h.net.sp (nextR p d))) (cycR (folD p) (folN p) z):=zp fun d hd=>by rw [(h.next_dart (h.darts.1 (o.sub d hd))).2]
 have h2:=yv (f:=fun d=>G (h.net.sp d)) (h:=nextR p) (l:=cycR (folD p) (folN p) z)
 rw [zbq (o.image h.next_inj e)] at h2
 rw [yN,h1,← h2]
 omega
theorem Good0.cycles_apart:(cyclesR p).Pairwise fun a b=>∀ d,d∈a->d∈b->False:=by
 unfold cyclesR
 refine zfo (D:=dartsR p) (fun z hz w hw d h1 h2 x hx=>(h.cycle_same hz hw h1 h2 x).1 hx) (fun z=>?_) _ _ _ (fun _ hz=>hz) (fun _ hc=>absurd hc zg1) List.Pairwise.nil
 have key:∀ (k:Nat) (l:List Int),z∈l->z∈cycGo (nxR (folD p) (folN p)) z k l:=fun k=>by
  induction k with
  | zero=>intro l hl; exact hl
  | succ k ih =>
   intro l hl
   unfold cycGo
   split
   ·exact hl
   ·exact ih _ (zil _ hl)
 exact key _ _ (by simp)
variable {PI:Int} (hPI:0<PI) (hd:∀ i,((h.net.drawn.B i).h - (h.net.drawn.A i).h) ∣ PI)
theorem Good0.area_cyc {z:Int} (hz:z∈dartsR p) {L0:Int} {w:Nat} (h0:∀ i,L0<=h.net.drawn.lo i) (h1:∀ i,h.net.drawn.hi i<=L0+(w:Int)):area (h.net.drawn.rowed hPI hd).strips (h.net.drawn.rowed hPI hd).key (rowsL L0 w) (fun x=>(cycR (folD p) (folN p) z).contains (h.net.dart x))=PI*(8388608*h.net.twX (cycR (folD p) (folN p) z)) :=
 h.area_eq hPI hd (h.cycle hz).1.nodup (h.cycle hz).1.sub (h.closed_sum hz gg) h0 h1
theorem Good0.outer_iff {z:Int} (hz:z∈dartsR p) (hc:cycR (folD p) (folN p) z∈cyclesR p) {x0:Dt (Ix h.net.E.length)} (hx:h.net.dart x0=z):0<h.net.twX (cycR (folD p) (folN p) z)↔¬ (h.net.drawn.rowed hPI hd).strips.Outer ((h.net.drawn.rowed hPI hd).strips.part x0.s) (fun x=>(cycR (folD p) (folN p) z).contains (h.net.dart x)):=by
 obtain ⟨L0,w,hLw⟩:=h.net.drawn.cover
 have hA:=h.area_cyc hPI hd hz (fun i=>(hLw i).1) (fun i=>(hLw i).2)
 have hof:=h.of hPI hd hz hc hx
 have hemp:=h.net.drawn.empty hPI hd (fun i=>(hLw i).1)
 have hf0:(cycR (folD p) (folN p) z).contains (h.net.dart x0)=true:=zgh.2 (by rw [hx]; exact h.self_mem hz)
 generalize hf:(fun x=>(cycR (folD p) (folN p) z).contains (h.net.dart x))=f at hA hof ⊢
 have hfx:f x0=true:=by rw [← hf]; exact hf0
 constructor
 ·intro hp ho
  have h2:=area_out (pos:=(h.net.drawn.rowed hPI hd).key) (ms:=rowsL L0 w) hemp (fun m=>(h.net.drawn.rowed hPI hd).sorted_L) hof ho
  rw [hA] at h2
  have:=Int.mul_pos hPI (show 0<8388608*h.net.twX (cycR (folD p) (folN p) z) by omega)
  omega
 ·intro ho
  have hk:=YC hof ho (yG x0.s)
  obtain ⟨A,B,hAB⟩:=Z9 (T:=(h.net.drawn.rowed hPI hd).strips) x0.s
  have hE:=yC hof.cyc hAB
  have hst:∃ A B,(h.net.drawn.rowed hPI hd).strips.L ((h.net.drawn.rowed hPI hd).strips.lo x0.s)=A++B/\0<sm (sg f) B:=by
   unfold Strips.kap at hk
   rw [hE] at hk
   cases hdn:f ⟨x0.s,false⟩
   ·rw [hdn] at hk
    have hup:f ⟨x0.s,true⟩=true:=by
     obtain ⟨s,u⟩:=x0
     cases u
     ·rw [hdn] at hfx; cases hfx
     ·exact hfx
    refine ⟨A,x0.s::B,hAB,?_⟩
    show 0<sg f x0.s+sm (sg f) B
    unfold sg wnd at *
    rw [hup,hdn]
    simp only [b2,zgk,if_false,if_true] at hk ⊢
    unfold sg at hk
    simp only [b2] at hk
    omega
   ·rw [hdn] at hk
    refine ⟨A++[x0.s],B,by rw [hAB]; simp,?_⟩
    unfold wnd at hk
    simp only [b2,if_true] at hk
    omega
  have h2:=(ZF (T:=(h.net.drawn.rowed hPI hd).strips) (pos:=(h.net.drawn.rowed hPI hd).key) (ms:=rowsL L0 w) (fun m _=>(h.net.drawn.rowed hPI hd).sorted_L) (τ:=sg f) (fun m A B e=>by
   have hw:=Y9 hof ho e
   unfold wnd at hw
   omega) (fun m=>total hof.cyc.flow hemp m)).2 ⟨_,h.net.drawn.rows hPI hd (fun i=>(hLw i).1) (fun i=>(hLw i).2) (by rw [hAB]; simp),hst⟩
  have h2:0<area (h.net.drawn.rowed hPI hd).strips (h.net.drawn.rowed hPI hd).key (rowsL L0 w) f:=h2
  rw [hA] at h2
  by_cases hp:0<h.net.twX (cycR (folD p) (folN p) z)
  ·exact hp
  ·have:=zho (Int.le_of_lt hPI) (show 8388608*h.net.twX (cycR (folD p) (folN p) z)<=0 by omega)
   omega
end
end
end Go.Proofs.YtdacpmgnhkmnkaaGreatDoor
end
section
namespace Go.Proofs.YtdacpmgnhkmnkaaGreatDoor
section
section
variable {α:Type}
theorem sm_low {f:α->Int}:∀ {l:List α},(∀ x∈l,f x<=0)->sm f l<=0
 | [],_=>Int.le_refl _
 | x::l,h=>by
  have:=sm_low (f:=f) (l:=l) fun y hy=>h y (zgn _ hy)
  have:=h x (zgi ..)
  simp only [sm]
  omega
theorem sm_low1 {f:α->Int}:∀ {l:List α},(∀ x∈l,f x<=0)->∀ x∈l,f x<=-1->sm f l<=-1
 | y::l,h,x,hx,h1=>by
  have h2:=sm_low (f:=f) (l:=l) fun z hz=>h z (zgn _ hz)
  have h3:=h y (zgi ..)
  simp only [sm]
  rcases zgf.1 hx with rfl | hx
  ·omega
  ·have:=sm_low1 (f:=f) (l:=l) (fun z hz=>h z (zgn _ hz)) x hx h1
   omega
theorem sm_neg {f:α->Int}:∀ {l:List α},(∀ x∈l,f x=0∨f x=-1)->l.Pairwise (fun x y=>f x=-1->f y=-1->False)->sm f l=0∨(sm f l=-1/\∃ x∈l,f x=-1)
 | [],_,_=>.inl rfl
 | x::l,h,hp=>by
  rw [zib] at hp
  simp only [sm]
  rcases h x (zgi ..) with hx | hx
  ·rcases sm_neg (fun y hy=>h y (zgn _ hy)) hp.2 with h2 | ⟨h2,y,hy,h3⟩
   ·left; omega
   ·exact .inr ⟨by omega,y,zgn _ hy,h3⟩
  ·have hz:sm f l=0:=zY fun y hy=>by
    rcases h y (zgn _ hy) with h2 | h2
    ·exact h2
    ·exact (hp.1 y hy hx h2).elim
   exact .inr ⟨by omega,x,zgi ..,hx⟩
end
section
variable {S:Type} [DecidableEq S] {T:Strips S} {m:Int} {f g:Dt S->Bool} {K K':S->Prop}
theorem zfp (hf:T.Of K f) (hg:T.Of K' g) (go:¬ T.Outer K' g) {a:S} (ha:K a) (h1:T.kap g a=1):∀ s,K s->¬ K' s:=fun s hs hs'=>by
 have:=z7 hf.joined hg.cyc hs ha
 have:=YC hg go hs'
 omega
theorem zbs (hf:T.Of K f) {s:S} (h:¬ K s) (b:Bool):f ⟨s,b⟩=false:=by
 cases hx:f ⟨s,b⟩
 ·rfl
 ·exact absurd (hf.part _ hx) h
theorem free_in (hf:T.Of K f) (hg:T.Of K' g) (hKK:∀ s,K s->¬ K' s) {a:S} (ha:K a) (h1:T.kap g a=1):∀ b,K' b->T.kap f b=0:=fun b hb=>by
 have hk:∀ s,K s->T.kap g s=1:=fun s hs=>by rw [z7 hf.joined hg.cyc hs ha,h1]
 have hfU:∀ x,f x=true->(fun s=>K s∨K' s) x.s:=fun x hx=>.inl (hf.part x hx)
 have hgU:∀ x,g x=true->(fun s=>K s∨K' s) x.s:=fun x hx=>.inr (hg.part x hx)
 obtain ⟨m,A,t,B,h0,ht,h2⟩:=zdl (T:=T) (K:=fun s=>K s∨K' s) (s:=b) (.inr hb)
 have e1:=y8 hgU hg.cyc h0 h2
 have e2:=y8 hfU hf.cyc h0 h2
 rcases ht with ht | ht
 ·rw [hk t ht] at e1
  rcases zfd (g ⟨t,false⟩) with h | h <;> omega
 ·rw [z7 hg.joined hf.cyc hb ht,e2,zbs hf (fun h=>hKK t h ht)]
  rfl
theorem hull (hf:T.Of K f) (hg:T.Of K' g) (go:¬ T.Outer K' g) {a:S} (ha:K a) (h1:T.kap g a=1) {A B:List S} (e:T.L m=A++B) (hw:wnd f B=-1):wnd g B=1:=by
 have hKK:=zfp hf hg go ha h1
 have hfU:∀ x,f x=true->(fun s=>K s∨K' s) x.s:=fun x hx=>.inl (hf.part x hx)
 have hgU:∀ x,g x=true->(fun s=>K s∨K' s) x.s:=fun x hx=>.inr (hg.part x hx)
 rcases yP (fun s=>K s∨K' s) B with hB | ⟨B1,s,B2,rfl,h3,h4⟩
 ·rw [yO hfU hB] at hw
  omega
 ·have w1:=yh hfU hf.cyc e h4
  have w2:=yh hgU hg.cyc e h4
  rcases h3 with h3 | h3
  ·rw [z7 hf.joined hg.cyc h3 ha,h1] at w2
   rcases Y9 hg go e with h | h
   ·rcases zfd (g ⟨s,true⟩) with h' | h' <;> omega
   ·exact h
  ·rw [free_in hf hg hKK ha h1 s h3,zbs hf (fun h=>hKK s h h3),show b2 false=0 from rfl] at w1
   omega
theorem hull_two (hf:T.Of K f) (hg:T.Of K' g) (hKK:∀ s,K s->¬ K' s) {A B:List S} (e:T.L m=A++B) (h1:wnd f B=-1) (h2:wnd g B=-1):(∃ a,K a/\T.kap g a=-1)∨∃ b,K' b/\T.kap f b=-1:=by
 have hfU:∀ x,f x=true->(fun s=>K s∨K' s) x.s:=fun x hx=>.inl (hf.part x hx)
 have hgU:∀ x,g x=true->(fun s=>K s∨K' s) x.s:=fun x hx=>.inr (hg.part x hx)
 rcases yP (fun s=>K s∨K' s) B with hB | ⟨B1,s,B2,rfl,h3,h4⟩
 ·rw [yO hfU hB] at h1
  omega
 ·have w1:=yh hfU hf.cyc e h4
  have w2:=yh hgU hg.cyc e h4
  rcases h3 with h3 | h3
  ·rw [zbs hg (hKK s h3),show b2 false=0 from rfl] at w2
   exact .inl ⟨s,h3,by omega⟩
  ·rw [zbs hf (fun h=>hKK s h h3),show b2 false=0 from rfl] at w1
   exact .inr ⟨s,h3,by omega⟩
theorem outer_uniq (hf:T.Of K f) (hg:T.Of K g) (fo:T.Outer K f) (go:T.Outer K g) {s:S} (hs:K s) (hd:∀ x,f x=true->g x=true->False):False:=by
 obtain ⟨m,A,t,B,h0,ht,h2⟩:=zdl (T:=T) (K:=K) (s:=s) hs
 have e1:=y8 hf.part hf.cyc h0 h2
 have e2:=y8 hg.part hg.cyc h0 h2
 rw [kap_out hf fo ht] at e1
 rw [kap_out hg go ht] at e2
 refine hd ⟨t,false⟩ ?_ ?_
 ·cases h:f ⟨t,false⟩
  ·rw [h,show b2 false=0 from rfl] at e1; omega
  ·rfl
 ·cases h:g ⟨t,false⟩
  ·rw [h,show b2 false=0 from rfl] at e2; omega
  ·rfl
theorem kap_wnd (hf:T.Of K f) {u:S} (hu:¬ K u) {A B:List S} (e:T.L m=A++u::B):T.kap f u=wnd f B:=by
 unfold Strips.kap
 rw [yC hf.cyc e,zbs hf hu,show b2 false=0 from rfl,Int.sub_zero]
theorem hole {Cs:List (Dt S->Bool)} (hC:∀ h∈Cs,T.Of K h) (one:∀ x:Dt S,K x.s->sm (fun h=>b2 (h x)) Cs=1) {u:S} (hu:¬ K u) (hf:f∈Cs) (hk:T.kap f u=-1):∃ h∈Cs,¬ T.Outer K h/\T.kap h u=1/\∃ m A B,T.L m=A++B/\wnd h B=1:=by
 obtain ⟨A,B,e⟩:=Z9 (T:=T) u
 have hsum:sm (fun h=>wnd h B) Cs=0:=by
  show sm (fun h=>sm (sg h) B) Cs=0
  rw [YT]
  refine zY fun t _=>?_
  by_cases ht:K t
  ·show sm (fun h=>b2 (h ⟨t,true⟩) - b2 (h ⟨t,false⟩)) Cs=0
   rw [yN,one ⟨t,true⟩ ht,one ⟨t,false⟩ ht]
   rfl
  ·exact zY fun h hh=>zfc (hC h hh).part ht
 have hneg:wnd f B=-1:=by rw [← kap_wnd (hC f hf) hu e]; exact hk
 have hx:∃ h∈Cs,0<wnd h B:=by
  refine Classical.byContradiction fun hno=>?_
  have:=sm_low1 (f:=fun h=>wnd h B) (l:=Cs) (fun h hh=>by
   by_cases hp:0<wnd h B
   ·exact absurd ⟨h,hh,hp⟩ hno
   ·omega) f hf (by omega)
  omega
 obtain ⟨h,hh,hp⟩:=hx
 have hL:T.L (T.lo u)=(A++[u])++B:=by rw [e]; simp
 have ho:¬ T.Outer K h:=fun ho=>by
  rcases wnd_out (hC h hh) ho hL with h' | h' <;> omega
 have h1:wnd h B=1:=by
  rcases Y9 (hC h hh) ho hL with h' | h' <;> omega
 exact ⟨h,hh,ho,by rw [kap_wnd (hC h hh) hu e,h1],_,_,_,hL,h1⟩
theorem rowA_add {pos:S->Int} {a b:S->Int} {l:List S}:rowA pos (fun s=>a s+b s) l=rowA pos a l+rowA pos b l:=by
 unfold rowA
 rw [← YB]
 exact zp fun s _=>Int.add_mul ..
theorem rowA_sum {β:Type} {pos:S->Int} {F:β->S->Int} {l:List S}:∀ {I:List β},rowA pos (fun s=>sm (fun f=>F f s) I) l=sm (fun f=>rowA pos (F f) l) I
 | []=>zY fun s _=>by simp [sm]
 | f::I=>by
  have ih:=rowA_sum (pos:=pos) (F:=F) (l:=l) (I:=I)
  simp only [sm]
  rw [rowA_add,ih]
theorem face_pos {pos:Int->S->Int} {ms:List Int} {m0:Int} (h0:T.L m0=[]) (hms:∀ m,T.L m≠[]->m∈ms) (hp:∀ m,(T.L m).Pairwise (fun a b=>pos m a<pos m b)) (hg:T.Of K g) (go:¬ T.Outer K g) {x0:Dt S} (hx0:g x0=true) {I:List (Dt S->Bool)}
  (hI:∀ f∈I,∃ Kf,T.Of Kf f/\T.Outer Kf f/\∃ a,Kf a/\T.kap g a=1) (hpair:I.Pairwise fun f f'=>∀ m A B,T.L m=A++B->wnd f B=-1->wnd f' B=-1->False):0<area T pos ms g+sm (fun f=>area T pos ms f) I:=by
 have hsuf:∀ B,sm (fun s=>sg g s+sm (fun f=>sg f s) I) B=wnd g B+sm (fun f=>wnd f B) I:=fun B=>by
  rw [YB,YT]
  rfl
 have hge:∀ m A B,T.L m=A++B->0<=sm (fun s=>sg g s+sm (fun f=>sg f s) I) B:=fun m A B e=>by
  rw [hsuf]
  have hv:∀ f∈I,wnd f B=0∨wnd f B=-1:=fun f hf=>by
   obtain ⟨Kf,q1,q2,_⟩:=hI f hf
   exact wnd_out q1 q2 e
  rcases sm_neg hv (hpair.imp fun {f f'} h=>h m A B e) with h | ⟨h,f,hf,h2⟩
  ·rcases Y9 hg go e with h' | h' <;> omega
  ·obtain ⟨Kf,q1,q2,a,q3,q4⟩:=hI f hf
   have:=hull q1 hg go q3 q4 e h2
   omega
 have htot:∀ m,sm (fun s=>sg g s+sm (fun f=>sg f s) I) (T.L m)=0:=fun m=>by
  rw [hsuf]
  have t1:wnd g (T.L m)=0:=total hg.cyc.flow h0 m
  have t2:sm (fun f=>wnd f (T.L m)) I=0:=zY fun f hf=>by
   obtain ⟨Kf,q1,_⟩:=hI f hf
   exact total q1.cyc.flow h0 m
  omega
 obtain ⟨A,B,e⟩:=Z9 (T:=T) x0.s
 have hk:=YC hg go (hg.part _ hx0)
 have hK:T.kap g x0.s=wnd g B - b2 (g ⟨x0.s,false⟩):=by
  unfold Strips.kap
  rw [yC hg.cyc e]
 have hfree:∀ f∈I,wnd f B=0/\sg f x0.s=0:=fun f hf=>by
  obtain ⟨Kf,q1,q2,a,q3,q4⟩:=hI f hf
  have hap:=zfp q1 hg go q3 q4
  have hn:¬ Kf x0.s:=fun h=>hap _ h (hg.part _ hx0)
  refine ⟨?_,zfc q1.part hn⟩
  rw [← kap_wnd q1 hn e]
  exact free_in q1 hg hap q3 q4 _ (hg.part _ hx0)
 have hstrict:∃ A B,T.L (T.lo x0.s)=A++B/\0<sm (fun s=>sg g s+sm (fun f=>sg f s) I) B:=by
  have z1:sm (fun f=>wnd f B) I=0:=zY fun f hf=>(hfree f hf).1
  have z2:sm (fun f=>sg f x0.s) I=0:=zY fun f hf=>(hfree f hf).2
  cases hdn:g ⟨x0.s,false⟩
  ·rw [hdn,show b2 false=0 from rfl] at hK
   have hup:g ⟨x0.s,true⟩=true:=by
    obtain ⟨s,u⟩:=x0
    cases u
    ·rw [hdn] at hx0; cases hx0
    ·exact hx0
   refine ⟨A,x0.s::B,e,?_⟩
   have e2:sm (fun s=>sg g s+sm (fun f=>sg f s) I) (x0.s::B)=(sg g x0.s+sm (fun f=>sg f x0.s) I)+sm (fun s=>sg g s+sm (fun f=>sg f s) I) B:=rfl
   rw [e2,hsuf,z1,z2]
   unfold sg
   rw [hup,hdn]
   simp only [b2,zgk,if_false,if_true]
   omega
  ·rw [hdn,show b2 true=1 from rfl] at hK
   refine ⟨A++[x0.s],B,by rw [e]; simp,?_⟩
   rw [hsuf,z1]
   omega
 have key:=(ZF (pos:=pos) (ms:=ms) (fun m _=>hp m) hge htot).2 ⟨_,hms _ (by rw [e]; simp),hstrict⟩
 have hsplit:sm (fun m=>rowA (pos m) (fun s=>sg g s+sm (fun f=>sg f s) I) (T.L m)) ms=area T pos ms g+sm (fun f=>area T pos ms f) I:=by
  have e1:sm (fun m=>rowA (pos m) (fun s=>sg g s+sm (fun f=>sg f s) I) (T.L m)) ms=sm (fun m=>rowA (pos m) (sg g) (T.L m)+sm (fun f=>rowA (pos m) (sg f) (T.L m)) I) ms:=zp fun m _=>by rw [rowA_add,rowA_sum]
  rw [e1,YB,YT]
  rfl
 omega
end
end
end Go.Proofs.YtdacpmgnhkmnkaaGreatDoor
end
section
namespace Go.Proofs.YtdacpmgnhkmnkaaGreatDoor
open Go Go.RowKit
section
theorem zbt {a b q:Pt}:tw b a q=- tw a b q:=by unfold tw; grind
theorem s10_pos {a b q:Pt} (ha:a.near) (hb:b.near) (hq:q.near):decide (0<s10 a b q)=decide (0<tw a b q):=by
 unfold s10
 rw [zab (zG ha) (zG hb) (zG hq),← Y0]
 by_cases h1:0<tw a b q
 ·simp [h1]
 ·by_cases h2:tw a b q<0 <;> simp [h1,h2]
theorem s10_zero {a b q:Pt} (ha:a.near) (hb:b.near) (hq:q.near):(s10 a b q==0)=decide (tw a b q=0):=by
 unfold s10
 rw [zab (zG ha) (zG hb) (zG hq),← Y0]
 by_cases h1:0<tw a b q
 ·have:¬ tw a b q=0:=by omega
  simp [h1,this]
 ·by_cases h2:tw a b q<0
  ·have:¬ tw a b q=0:=by omega
   simp [h1,h2,this]
  ·have:tw a b q=0:=by omega
   simp [this]
theorem YU {a b q:Pt} (ha:a.near) (hb:b.near) (hq:q.near):crossI a b q=true↔(b.y<=q.y/\q.y<a.y/\tw a b q<0)∨(a.y<=q.y/\q.y<b.y/\0<tw a b q):=by
 unfold crossI
 rw [s10_pos hb ha hq,s10_pos ha hb hq,zbt]
 by_cases h1:b.y<a.y
 ·rw [decide_eq_true h1,cond_true]
  simp only [zf6,decide_eq_true_eq]
  omega
 ·rw [decide_eq_false h1,cond_false]
  simp only [zf6,decide_eq_true_eq]
  omega
theorem cross_symm {a b q:Pt} (ha:a.near) (hb:b.near) (hq:q.near):crossI a b q=crossI b a q:=by
 rw [zhi,YU ha hb hq,YU hb ha hq,zbt (a:=a) (b:=b)]
 omega
theorem ray {a b q:Pt} (ha:a.near) (hb:b.near) (hq:q.near) (hab:a.h<b.h):(a.h<q.h/\q.h<b.h/\0<tw a b q)↔(a.y<=q.y/\q.y<b.y/\0<tw a b q):=by
 unfold Pt.near at ha hb hq
 unfold Pt.h at *
 constructor
 ·rintro ⟨h1,h2,h3⟩
  refine ⟨by omega,?_,h3⟩
  by_cases hy:q.y<b.y
  ·exact hy
  ·exfalso
   have e:q.y=b.y:=by omega
   have hx:b.x<q.x:=by omega
   have e2:tw a b q=(b.y - a.y)*(b.x - q.x):=by unfold tw; rw [e]; grind
   have:=zho (show 0<=b.y - a.y by omega) (show b.x - q.x<=0 by omega)
   omega
 ·rintro ⟨h1,h2,h3⟩
  refine ⟨?_,by omega,h3⟩
  by_cases hy:a.y<q.y
  ·omega
  ·have e:q.y=a.y:=by omega
   have e2:tw a b q=(b.y - a.y)*(a.x - q.x):=by unfold tw; rw [e]; grind
   have hx:q.x<a.x:=by
    by_cases hx:q.x<a.x
    ·exact hx
    ·have:=zho (show 0<=b.y - a.y by omega) (show a.x - q.x<=0 by omega)
     omega
   omega
theorem pos_mul {c t:Int} (hc:0<c):0<c*(8388608*t)↔0<t:=by
 constructor
 ·intro h
  by_cases ht:0<t
  ·exact ht
  ·have:=zho (Int.le_of_lt hc) (show 8388608*t<=0 by omega)
   omega
 ·intro ht
  exact Int.mul_pos hc (by omega)
section
variable {n:Nat} (Dr:Drawn n) {PI:Int} (hPI:0<PI) (hd:∀ i,((Dr.B i).h - (Dr.A i).h) ∣ PI)
theorem Drawn.mem_Q {y:Dt (Ix n)} {q:Pt} (hy:Dr.fro y=q) {s:Ix n}:s∈(Dr.rowed hPI hd).strips.Q q.h↔Dr.lo s<q.h/\q.h<Dr.hi s/\q.x*PI<Dr.rp PI q.h s:=by
 have hend:Dr.lo y.s=q.h∨Dr.hi y.s=q.h:=by
  have hu:=Dr.up_lt y
  rw [hy] at hu
  cases e:y.up
  ·exact .inr (hu.2 e).1.symm
  ·exact .inl (hu.1 e).1.symm
 have hrp:Dr.rp PI q.h y.s=q.x*PI:=Dr.end_at hPI hd (i:=y.s) (P:=q) (by rw [← hy]; exact (Dr.ends_fro y).imp (fun h=>h.1) (fun h=>h.1))
 have hat:(Dr.rowed hPI hd).at' q.h=q.x*PI:=((Dr.rowed hPI hd).at_end (i:=y.s) hend).symm.trans hrp
 have hlh:Dr.lo y.s<=q.h/\q.h<=Dr.hi y.s:=by
  have:=(Dr.rowed hPI hd).lt y.s
  have:Dr.lo y.s<Dr.hi y.s:=this
  omega
 show s∈((Dr.rowed hPI hd).L q.h).filter (fun a=>decide ((Dr.rowed hPI hd).up q.h a=2))↔_
 rw [zif,(Dr.rowed hPI hd).mem_L,decide_eq_true_eq]
 unfold Rowed.up
 rw [hat]
 show (Dr.lo s<=q.h/\q.h<Dr.hi s)/\(if Dr.lo s=q.h then 1 else if Dr.rp PI q.h s<q.x*PI then 0 else 2)=2↔_
 by_cases c1:Dr.lo s=q.h
 ·rw [if_pos c1]
  omega
 ·rw [if_neg c1]
  by_cases c2:Dr.rp PI q.h s<q.x*PI
  ·rw [if_pos c2]
   omega
  ·rw [if_neg c2]
   constructor
   ·rintro ⟨⟨a,b⟩,_⟩
    refine ⟨by omega,b,?_⟩
    by_cases c3:Dr.rp PI q.h s=q.x*PI
    ·exfalso
     by_cases hs:s=y.s
     ·subst hs
      omega
     ·have z:=(Dr.rowed hPI hd).Z s y.s q.h hs a (Int.le_of_lt b) hlh.1 hlh.2 (c3.trans hrp.symm)
      have z:Dr.lo s=q.h∨Dr.hi s=q.h:=z.1
      omega
    ·omega
   ·rintro ⟨a,b,c⟩
    exact ⟨⟨by omega,b⟩,rfl⟩
theorem Drawn.cross_Q {y:Dt (Ix n)} {q:Pt} (hq:q.near) (hy:Dr.fro y=q) {s:Ix n}:s∈(Dr.rowed hPI hd).strips.Q q.h↔crossI (Dr.A s) (Dr.B s) q=true:=by
 rw [Dr.mem_Q hPI hd hy,YU (Dr.nearA s) (Dr.nearB s) hq]
 have e1:=Dr.at_pt (hd s) q
 have e2:=Dr.c_eq (hd s)
 have hne:=Dr.hne s
 have nA:=Dr.nearA s
 have nB:=Dr.nearB s
 by_cases hlt:(Dr.A s).h<(Dr.B s).h
 ·have hl:Dr.lo s=(Dr.A s).h:=by unfold Drawn.lo; omega
  have hh:Dr.hi s=(Dr.B s).h:=by unfold Drawn.hi; omega
  have hc:0<Dr.c PI s:=by
   by_cases hc:0<Dr.c PI s
   ·exact hc
   ·have:=zii (show Dr.c PI s<=0 by omega) (show 0<=(Dr.B s).h - (Dr.A s).h by omega)
    omega
  have hr:=ray nA nB hq hlt
  have hp:=pos_mul (t:=tw (Dr.A s) (Dr.B s) q) hc
  rw [hl,hh]
  have hy2:(Dr.A s).y<=(Dr.B s).y:=by
   unfold Pt.near at nA nB
   unfold Pt.h at hlt
   omega
  constructor
  ·rintro ⟨a,b,c⟩
   exact .inr (hr.1 ⟨a,b,hp.1 (by omega)⟩)
  ·rintro (⟨a,b,c⟩ | hx)
   ·omega
   ·obtain ⟨a,b,c⟩:=hr.2 hx
    have:=hp.2 c
    exact ⟨a,b,by omega⟩
 ·have hlt2:(Dr.B s).h<(Dr.A s).h:=by omega
  have hl:Dr.lo s=(Dr.B s).h:=by unfold Drawn.lo; omega
  have hh:Dr.hi s=(Dr.A s).h:=by unfold Drawn.hi; omega
  have hc:0 < - Dr.c PI s:=by
   by_cases hc:0 < - Dr.c PI s
   ·exact hc
   ·have:=zho (show 0<=Dr.c PI s by omega) (show (Dr.B s).h - (Dr.A s).h<=0 by omega)
    omega
  have hr:=ray nB nA hq hlt2
  have hp:=pos_mul (t:=tw (Dr.B s) (Dr.A s) q) hc
  have e3:- Dr.c PI s*(8388608*tw (Dr.B s) (Dr.A s) q)=Dr.c PI s*(8388608*tw (Dr.A s) (Dr.B s) q):=by rw [zbt]; grind
  rw [e3] at hp
  have e4:tw (Dr.B s) (Dr.A s) q=- tw (Dr.A s) (Dr.B s) q:=zbt
  rw [hl,hh]
  have hy2:(Dr.B s).y<=(Dr.A s).y:=by
   unfold Pt.near at nA nB
   unfold Pt.h at hlt2
   omega
  constructor
  ·rintro ⟨a,b,c⟩
   obtain ⟨u,v,w⟩:=hr.1 ⟨a,b,hp.1 (by omega)⟩
   exact .inl ⟨u,v,by omega⟩
  ·rintro (⟨u,v,w⟩ | ⟨a,b,c⟩)
   ·obtain ⟨a,b,c⟩:=hr.2 ⟨u,v,by omega⟩
    have:=hp.2 c
    exact ⟨a,b,by omega⟩
   ·omega
end
theorem b2_xor (a b:Bool):b2 (xor a b) % 2=(b2 a+b2 b) % 2:=by cases a <;> cases b <;> rfl
noncomputable def cntP (l:List Pt) (q:Pt):Int:=sm (fun k=>b2 (crossI (l.getD k zPt) (l.getD (k+1) zPt) q)) (List.range (l.length - 1))
theorem odd_sum {l:List Pt} {q:Pt} {o:Bool}:∀ k,k+1<=l.length->b2 (oddTo l q o k) % 2=(b2 o+sm (fun j=>b2 (crossI (l.getD j zPt) (l.getD (j+1) zPt) q)) (List.range k)) % 2
 | 0,_=>by simp [oddTo,sm]
 | k+1,hk=>by
  have ih:=odd_sum (l:=l) (q:=q) (o:=o) k (by omega)
  have h1:l[k]?=some (l.getD k zPt):=by rw [zf8,zf0 (by omega)]; rfl
  have h2:l[k+1]?=some (l.getD (k+1) zPt):=by rw [zf8,zf0 (by omega)]; rfl
  have e:oddTo l q o (k+1)=xor (oddTo l q o k) (crossI (l.getD k zPt) (l.getD (k+1) zPt) q):=by
   show (match l[k]?,l[k+1]? with | some a,some b=>xor (oddTo l q o k) (crossI a b q) | _,_=>oddTo l q o k)=_
   rw [h1,h2]
  rw [e,b2_xor,List.range_succ,zu]
  simp only [sm]
  omega
theorem zfq {l:List Pt} {q:Pt} {o:Bool} (hl:1<=l.length):b2 (oddP l q o) % 2=(b2 o+cntP l q) % 2:=odd_sum _ (by omega)
theorem fold_sum {p:Pn} {q:Pt}:∀ (c:List Int) (o:Bool),(∀ d∈c,1<=(pathZ p d).length)->b2 (c.foldl (fun o z=>oddP (pathZ p z) q o) o) % 2=(b2 o+sm (fun d=>cntP (pathZ p d) q) c) % 2
 | [],o,_=>by simp [sm]
 | d::c,o,h=>by
  have ih:=fold_sum (q:=q) c (oddP (pathZ p d) q o) fun x hx=>h x (zgn _ hx)
  have h1:=zfq (l:=pathZ p d) (q:=q) (o:=o) (h d (zgi ..))
  rw [List.foldl_cons,ih]
  simp only [sm]
  omega
theorem zcm:∀ (n:Nat) (g:Nat->Int),sm g (List.range n)=sm (fun k=>g (n - 1 - k)) (List.range n)
 | 0,_=>rfl
 | n+1,g=>by
  have e1:sm g (List.range (n+1))=sm g (List.range n)+g n:=by
   rw [List.range_succ,zu]
   simp only [sm]
   omega
  have e2:sm (fun k=>g (n+1 - 1 - k)) (List.range (n+1))=g n+sm (fun k=>g (n - 1 - k)) (List.range n):=by
   rw [List.range_succ_eq_map]
   simp only [sm]
   rw [yv]
   congr 1
   exact zp fun k _=>by
    show g (n+1 - 1 - (k+1))=g (n - 1 - k)
    congr 1
    omega
  rw [e1,e2,zcm n g]
  omega
theorem Z2 {l:List Pt} {k:Nat} (hk:k<l.length):l.reverse.getD k zPt=l.getD (l.length - 1 - k) zPt:=by
 rw [zf8,zf8,List.getElem?_reverse hk]
theorem cnt_rev {l:List Pt} {q:Pt} (hl:∀ x∈l,x.near) (hq:q.near):cntP l.reverse q=cntP l q:=by
 unfold cntP
 rw [List.length_reverse,zcm (l.length - 1)]
 refine zp fun k hk=>?_
 have hk:=zht.1 hk
 rw [Z2 (by omega),Z2 (by omega),show l.length - 1 - (l.length - 1 - 1 - k)=k+1 by omega,show l.length - 1 - (l.length - 1 - 1 - k+1)=k by omega]
 rw [cross_symm (hl _ (zB (by omega))) (hl _ (zB (by omega))) hq]
theorem zdr {l:List Pt} {q:Pt}:onP l q=true↔∃ k,k<l.length - 1/\on10 (l.getD k zPt) (l.getD (k+1) zPt) q=true:=by
 have key:∀ n,n<=l.length - 1->(onTo l q n=true↔∃ k,k<n/\on10 (l.getD k zPt) (l.getD (k+1) zPt) q=true):=fun n=>by
  induction n with
  | zero =>
   intro _
   constructor
   ·intro h; cases h
   ·rintro ⟨k,h,_⟩; omega
  | succ n ih =>
   intro hn
   have h1:l[n]?=some (l.getD n zPt):=by rw [zf8,zf0 (by omega)]; rfl
   have h2:l[n+1]?=some (l.getD (n+1) zPt):=by rw [zf8,zf0 (by omega)]; rfl
   have e:onTo l q (n+1)=(onTo l q n||on10 (l.getD n zPt) (l.getD (n+1) zPt) q):=by
    show (onTo l q n||match l[n]?,l[n+1]? with | some a,some b=>on10 a b q | _,_=>false)=_
    rw [h1,h2]
   rw [e,zha,ih (by omega)]
   constructor
   ·rintro (⟨k,hk,ho⟩ | ho)
    ·exact ⟨k,by omega,ho⟩
    ·exact ⟨n,by omega,ho⟩
   ·rintro ⟨k,hk,ho⟩
    by_cases hkn:k<n
    ·exact .inl ⟨k,hkn,ho⟩
    ·have:k=n:=by omega
     subst this
     exact .inr ho
 exact key _ (zf7 _)
theorem YE {a b q:Pt} (ha:a.near) (hb:b.near) (hq:q.near):on10 a b q=true↔tw a b q=0/\min a.x b.x<=q.x/\q.x<=max a.x b.x/\min a.y b.y<=q.y/\q.y<=max a.y b.y:=by
 unfold on10
 rw [s10_zero ha hb hq]
 have m1:∀ u v:Int,mnI u v=min u v:=fun u v=>by unfold mnI; split <;> omega
 have m2:∀ u v:Int,mxI u v=max u v:=fun u v=>by unfold mxI; split <;> omega
 simp only [zf6,decide_eq_true_eq,m1,m2]
theorem on10_symm {a b q:Pt} (ha:a.near) (hb:b.near) (hq:q.near):on10 a b q=on10 b a q:=by
 rw [zhi,YE ha hb hq,YE hb ha hq,zbt (a:=a) (b:=b)]
 omega
theorem on10_onR {a b q:Pt} (ha:a.near) (hb:b.near) (hq:q.near) (h:on10 a b q=true):onR a b q=true:=by
 obtain ⟨h0,h1,h2,h3,h4⟩:=(YE ha hb hq).1 h
 have pa:=zG ha
 have pb:=zG hb
 have pq:=zG hq
 unfold onR
 rw [zx pa pb pa pq,dotR_eq pa pq pb pq,← Y0,h0]
 have e:dot a q b q<=0:=by
  unfold dot
  have x1:(q.x - a.x)*(q.x - b.x)<=0:=by
   by_cases c:a.x<=b.x
   ·exact zho (by omega) (by omega)
   ·exact zii (by omega) (by omega)
  have x2:(q.y - a.y)*(q.y - b.y)<=0:=by
   by_cases c:a.y<=b.y
   ·exact zho (by omega) (by omega)
   ·exact zii (by omega) (by omega)
  omega
 simp [pa,pb,pq,e]
theorem on10_end {a b q:Pt} (ha:a.near) (hb:b.near) (h:q=a∨q=b):on10 a b q=true:=by
 rcases h with rfl | rfl
 ·refine (YE ha hb ha).2 ⟨by unfold tw; grind,by omega,by omega,by omega,by omega⟩
 ·refine (YE ha hb hb).2 ⟨by unfold tw; grind,by omega,by omega,by omega,by omega⟩
end
section
theorem on_rev1 {l:List Pt} {q:Pt} (hl:∀ x∈l,x.near) (hq:q.near) (h:onP l.reverse q=true):onP l q=true:=by
 obtain ⟨k,hk,h2⟩:=zdr.1 h
 rw [List.length_reverse] at hk
 rw [Z2 (by omega),Z2 (by omega)] at h2
 refine zdr.2 ⟨l.length - 1 - 1 - k,by omega,?_⟩
 rw [show l.length - 1 - (k+1)=l.length - 1 - 1 - k by omega,show l.length - 1 - k=l.length - 1 - 1 - k+1 by omega] at h2
 rw [on10_symm (hl _ (zB (by omega))) (hl _ (zB (by omega))) hq]
 exact h2
theorem on_rev {l:List Pt} {q:Pt} (hl:∀ x∈l,x.near) (hq:q.near):onP l.reverse q=onP l q:=by
 rw [zhi]
 refine ⟨on_rev1 hl hq,fun h=>on_rev1 (l:=l.reverse) (fun x hx=>hl x (List.mem_reverse.1 hx)) hq ?_⟩
 rw [List.reverse_reverse]
 exact h
theorem sm_mod2 {α:Type} {f g:α->Int}:∀ {l:List α},(∀ x∈l,f x % 2=g x % 2)->sm f l % 2=sm g l % 2
 | [],_=>rfl
 | x::l,h=>by
  have ih:=sm_mod2 (f:=f) (g:=g) (l:=l) fun y hy=>h y (zgn _ hy)
  have hx:=h x (zgi ..)
  simp only [sm]
  omega
theorem b2_mod {a b:Bool}:(b2 a+b2 b) % 2=(b2 a - b2 b) % 2/\(b2 a+b2 b) % 2=(b2 b - b2 a) % 2:=by cases a <;> cases b <;> exact ⟨rfl,rfl⟩
section
variable {p:Pn} (h:Good0 p)
include h
theorem Good0.path_pos {a:Ac} (ha:a∈p.az.l):pathZ p a.id=lineR p a:=by
 have:=h.pid a ha
 unfold pathZ
 rw [decide_eq_true (show 0<a.id by omega),cond_true,(h.nice.path ha).2]
theorem Good0.path_neg {a:Ac} (ha:a∈p.az.l):pathZ p (-a.id)=(lineR p a).reverse:=by
 have:=h.pid a ha
 unfold pathZ
 rw [decide_eq_false (show ¬ 0 < -a.id by omega),cond_false,h.ng2 ha,(h.nice.path ha).2]
theorem Good0.line_pt {a:Ac} (ha:a∈p.az.l):∀ x∈lineR p a,x.near:=fun x hx=>Yb (ZY h.nice ha x hx)
theorem Good0.on_dart {a:Ac} (ha:a∈p.az.l) {d:Int} (hd:d=a.id∨d=-a.id) {q:Pt} (hq:q.near):onP (pathZ p d) q=onP (lineR p a) q:=by
 rcases hd with rfl | rfl
 ·rw [h.path_pos ha]
 ·rw [h.path_neg ha,on_rev (h.line_pt ha) hq]
theorem Good0.cnt_dart {a:Ac} (ha:a∈p.az.l) {d:Int} (hd:d=a.id∨d=-a.id) {q:Pt} (hq:q.near):cntP (pathZ p d) q=cntP (lineR p a) q:=by
 rcases hd with rfl | rfl
 ·rw [h.path_pos ha]
 ·rw [h.path_neg ha,cnt_rev (h.line_pt ha) hq]
theorem Good0.path_len {d:Int} (hd:d∈dartsR p):2<=(pathZ p d).length:=by
 obtain ⟨a,ha,rfl | rfl⟩:=h.dart_iff.1 (h.darts.1 hd)
 ·rw [h.path_pos ha]
  exact zF
 ·rw [h.path_neg ha,List.length_reverse]
  exact zF
theorem Good0.on_iff {c:List Int} (hs:∀ d∈c,d∈dartsR p) {nd:Nd} (hn:nd∈p.ns.l):(c.any fun z=>onP (pathZ p z) nd.at')=true↔∃ x:Dt (Ix h.net.E.length),h.net.drawn.fro x=nd.at'/\(c.contains (h.net.dart x)=true∨c.contains (h.net.dart x.rev)=true):=by
 have hq:=Yb (h.nice.npt nd hn)
 rw [zh5]
 constructor
 ·rintro ⟨d,hdc,ho⟩
  obtain ⟨a,ha,hda⟩:=h.dart_iff.1 (h.darts.1 (hs d hdc))
  rw [h.on_dart ha hda hq] at ho
  obtain ⟨k,hk,ho⟩:=zdr.1 ho
  have ht:segN p a k∈spsN p:=Yk ha hk
  have hE:(a.id,k)∈h.net.E:=zgx.2 ⟨_,ht,rfl⟩
  have hR:=on10_onR (h.line_pt ha _ (zB (by omega))) (h.line_pt ha _ (zB (by omega))) hq ho
  have hends:(lineR p a).getD k zPt=nd.at'∨(lineR p a).getD (k+1) zPt=nd.at':=by
   rcases h.endPt ht hn (h.isEnd ht hn hR) with ⟨_,_,e⟩ | ⟨_,_,e⟩
   ·exact .inl e
   ·exact .inr e
  rcases hends with e | e
  ·obtain ⟨x,x1,x2⟩:=h.net.ex hE true
   refine ⟨x,?_,?_⟩
   ·rw [(h.net.fro_fwd x2).1,x1,h.pt ha]
    exact e
   ·have e3:h.net.dart x=a.id:=by unfold Net.dart; rw [x2,if_pos rfl,x1]
    rw [h.net.dart_rev,e3,zgh,zgh]
    rcases hda with rfl | rfl
    ·exact .inl hdc
    ·exact .inr hdc
  ·obtain ⟨x,x1,x2⟩:=h.net.ex hE false
   refine ⟨x,?_,?_⟩
   ·rw [(h.net.fro_bwd x2).1,x1,h.pt ha]
    exact e
   ·have e3:h.net.dart x=-a.id:=by unfold Net.dart; rw [x2,if_neg (by decide),x1]
    rw [h.net.dart_rev,e3,ziv,zgh,zgh]
    rcases hda with rfl | rfl
    ·exact .inr hdc
    ·exact .inl hdc
 ·rintro ⟨x,hx,hc⟩
  obtain ⟨a,ha,ea,hk⟩:=h.ofE (h.net.get_mem x.s)
  have hdx:h.net.dart x=a.id∨h.net.dart x=-a.id:=by
   rcases h.net.dart_abs x with e | e
   ·left; rw [← e]; exact ea.symm
   ·right; omega
  have hd:∃ d∈c,d=a.id∨d=-a.id:=by
   rw [h.net.dart_rev,zgh,zgh] at hc
   rcases hc with hc | hc
   ·exact ⟨_,hc,hdx⟩
   ·exact ⟨_,hc,by omega⟩
  obtain ⟨d,hdc,hda⟩:=hd
  refine ⟨d,hdc,?_⟩
  rw [h.on_dart ha hda hq]
  refine zdr.2 ⟨_,hk,on10_end (h.line_pt ha _ (zB (by omega))) (h.line_pt ha _ (zB (by omega))) ?_⟩
  rw [← h.pt ha,← h.pt ha,ea]
  cases hf:h.net.fwd x
  ·exact .inr (hx.symm.trans (h.net.fro_bwd hf).1)
  ·exact .inl (hx.symm.trans (h.net.fro_fwd hf).1)
variable {PI:Int} (hPI:0<PI) (hd:∀ i,((h.net.drawn.B i).h - (h.net.drawn.A i).h) ∣ PI)
theorem Good0.parity {c:List Int} (hn:c.Nodup) (hs:∀ d∈c,d∈dartsR p) {q:Pt} (hq:q.near) {y:Dt (Ix h.net.E.length)} (hy:h.net.drawn.fro y=q):b2 (c.foldl (fun o z=>oddP (pathZ p z) q o) false) % 2=wnd (fun x=>c.contains (h.net.dart x)) ((h.net.drawn.rowed hPI hd).strips.Q q.h) % 2:=by
 rw [fold_sum c false fun d hd=>by have:=h.path_len (hs d hd); omega]
 have e1:sm (fun d=>cntP (pathZ p d) q) c=sm (fun a=>(b2 (c.contains a.id)+b2 (c.contains (-a.id)))*cntP (lineR p a) q) p.az.l:=(h.sum_darts hn hs _).trans (zp fun a ha=>by
  rw [h.cnt_dart ha (.inl rfl) hq,h.cnt_dart ha (.inr rfl) hq]
  exact (Int.add_mul ..).symm)
 have e2:=h.sum_seg fun e=>(b2 (c.contains e.1)+b2 (c.contains (-e.1)))*b2 (crossI (h.net.pt e.1 e.2) (h.net.pt e.1 (e.2+1)) q)
 have e3:sm (fun a=>sm (fun k=>(b2 (c.contains a.id)+b2 (c.contains (-a.id)))*b2 (crossI (h.net.pt a.id k) (h.net.pt a.id (k+1)) q)) (List.range ((lineR p a).length - 1))) p.az.l=sm (fun a=>(b2 (c.contains a.id)+b2 (c.contains (-a.id)))*cntP (lineR p a) q) p.az.l:=zp fun a ha=>by
  rw [yY]
  congr 1
  unfold cntP
  exact zp fun k _=>by rw [h.pt ha,h.pt ha]
 rw [e1,← e3,← e2,show b2 false=0 from rfl,Int.zero_add]
 have hp:((h.net.drawn.rowed hPI hd).strips.Q q.h).Perm ((List.finRange h.net.E.length).filter fun i=>decide (i∈(h.net.drawn.rowed hPI hd).strips.Q q.h)):=by
  refine (List.perm_ext_iff_of_nodup ?_ ((List.nodup_finRange _).filter _)).2 fun i=>?_
  ·have hnd:=(h.net.drawn.rowed hPI hd).strips.nodup q.h
   rw [(h.net.drawn.rowed hPI hd).strips.above,List.nodup_append] at hnd
   exact (List.nodup_append.1 hnd.2.1).2.1
  ·rw [zif,decide_eq_true_eq]
   exact ⟨fun hi=>⟨List.mem_finRange i,hi⟩,fun hi=>hi.2⟩
 unfold wnd
 rw [zbq hp,Z1]
 refine sm_mod2 fun i _=>?_
 have hcq:decide (i∈(h.net.drawn.rowed hPI hd).strips.Q q.h)=crossI (h.net.pt h.net.E[i].1 h.net.E[i].2) (h.net.pt h.net.E[i].1 (h.net.E[i].2+1)) q:=by
  rw [zhi,decide_eq_true_eq]
  exact h.net.drawn.cross_Q hPI hd hq hy
 rw [hcq]
 cases crossI (h.net.pt h.net.E[i].1 h.net.E[i].2) (h.net.pt h.net.E[i].1 (h.net.E[i].2+1)) q
 ·rw [show b2 false=0 from rfl,Int.mul_zero,Int.zero_mul]
 ·rw [show b2 true=1 from rfl,Int.mul_one,Int.one_mul]
  show _=(b2 (c.contains (h.net.dart ⟨i,true⟩)) - b2 (c.contains (h.net.dart ⟨i,false⟩))) % 2
  have er:h.net.dart ⟨i,false⟩=- h.net.dart ⟨i,true⟩:=h.net.dart_rev ⟨i,true⟩
  have ea:h.net.E[i].1=h.net.dart ⟨i,true⟩∨h.net.E[i].1=- h.net.dart ⟨i,true⟩:=h.net.dart_abs ⟨i,true⟩
  rw [er]
  rcases ea with e | e
  ·rw [e]
   exact b2_mod.1
  ·rw [e,ziv]
   exact b2_mod.2
theorem Good0.inside_kap {z:Int} (hz:z∈dartsR p) (hc:cycR (folD p) (folN p) z∈cyclesR p) (hpos:0<h.net.twX (cycR (folD p) (folN p) z)) {nd:Nd} (hnd:nd∈p.ns.l) {y:Dt (Ix h.net.E.length)} (hy:h.net.drawn.fro y=nd.at') :
  (insideR p (cycR (folD p) (folN p) z) nd.at'=true↔(h.net.drawn.rowed hPI hd).strips.kap (fun x=>(cycR (folD p) (folN p) z).contains (h.net.dart x)) y.s=1)/\((h.net.drawn.rowed hPI hd).strips.kap (fun x=>(cycR (folD p) (folN p) z).contains (h.net.dart x)) y.s=1->wnd (fun x=>(cycR (folD p) (folN p) z).contains (h.net.dart x)) ((h.net.drawn.rowed hPI hd).strips.Q nd.at'.h)=1):=by
 obtain ⟨x0,hx0,_⟩:=h.net.first_seg (h.darts.1 hz)
 have ho:=(h.outer_iff hPI hd hz hc hx0).1 hpos
 have hof:=h.of hPI hd hz hc hx0
 have hq:=Yb (h.nice.npt nd hnd)
 have hs:=(h.cycle hz).1.sub
 have hpar:=h.parity hPI hd (h.cycle hz).1.nodup hs hq hy
 have hon:=h.on_iff hs hnd
 have hring:∀ x,x∈(h.net.drawn.rowed hPI hd).strips.ring nd.at'.h↔h.net.drawn.fro x=nd.at':=fun x=>(h.net.drawn.mem_ring hPI hd).trans ⟨fun e=>zbj (h.net.drawn.near_fro x).1 hq e,fun e=>by rw [e]⟩
 unfold insideR
 generalize hfd:(fun x=>(cycR (folD p) (folN p) z).contains (h.net.dart x))=f at hof ho hpar ⊢
 have hfx:∀ x,(cycR (folD p) (folN p) z).contains (h.net.dart x)=f x:=fun x=>by rw [← hfd]
 simp only [hfx] at hon
 generalize ((cycR (folD p) (folN p) z).any fun z=>onP (pathZ p z) nd.at')=on at hon ⊢
 generalize (cycR (folD p) (folN p) z).foldl (fun o z=>oddP (pathZ p z) nd.at' o) false=od at hpar ⊢
 have hyr:=(hring y).2 hy
 have hZk:(∀ x,h.net.drawn.fro x=nd.at'->f x=false/\f x.rev=false)->(h.net.drawn.rowed hPI hd).strips.kap f y.s=wnd f ((h.net.drawn.rowed hPI hd).strips.Q nd.at'.h):=fun hZ=>by
  obtain ⟨A,B,e⟩:=List.append_of_mem hyr
  rw [zfb hof.cyc e,(hZ y hy).2,zY (f:=fun y=>b2 (f y) - b2 (f y.rev)) fun x hx=>by
   have hxr:=hZ x ((hring x).1 (by rw [e]; exact zil _ hx))
   rw [hxr.1,hxr.2]
   rfl]
  simp only [show b2 false=0 from rfl,wnd]
  omega
 have hw:wnd f ((h.net.drawn.rowed hPI hd).strips.Q nd.at'.h)=0∨wnd f ((h.net.drawn.rowed hPI hd).strips.Q nd.at'.h)=1:=Y9 hof ho (by rw [(h.net.drawn.rowed hPI hd).strips.above,← zgu])
 have hK:(h.net.drawn.rowed hPI hd).strips.kap f y.s=1->∀ x,h.net.drawn.fro x=nd.at'->f x=false/\f x.rev=false:=fun hk x hx=>by
  have hn:¬ (h.net.drawn.rowed hPI hd).strips.part x0.s x.s:=fun hp=>by
   have:=YC hof ho (part_row (zbp ((hring x).2 hx)) (zbp hyr) hp)
   omega
  constructor
  ·cases e:f x
   ·rfl
   ·exact absurd (hof.part x e) hn
  ·cases e:f x.rev
   ·rfl
   ·exact absurd (hof.part x.rev e) hn
 refine ⟨⟨fun hi=>?_,fun hk=>?_⟩,fun hk=>by rw [← hZk (hK hk)]; exact hk⟩
 ·rw [zf6,zhs] at hi
  obtain ⟨h1,h2⟩:=hi
  have hZ:∀ x,h.net.drawn.fro x=nd.at'->f x=false/\f x.rev=false:=fun x hx=>by
   have hno:¬ (f x=true∨f x.rev=true):=fun he=>by
    have:=hon.2 ⟨x,hx,he⟩
    rw [h1] at this
    cases this
   rw [not_or,zh8,zh8] at hno
   exact hno
  rw [hZk hZ]
  rw [h2] at hpar
  simp only [b2,if_true] at hpar
  omega
 ·have hZ:=hK hk
  rw [hZk hZ] at hk
  rw [hk] at hpar
  rw [zf6,zhs]
  constructor
  ·cases e:on
   ·rfl
   ·obtain ⟨x,hx,he⟩:=hon.1 e
    rw [(hZ x hx).1,(hZ x hx).2] at he
    rcases he with he | he <;> cases he
  ·cases od
   ·simp [b2] at hpar
   ·rfl
end
end
section
section
variable {p:Pn} (h:Good0 p)
include h
theorem Good0.ends_in {z:Int} (hz:z∈dartsR p) (hc:cycR (folD p) (folN p) z∈cyclesR p) (hpos:0<h.net.twX (cycR (folD p) (folN p) z)) {a:Ac} (ha:a∈p.az.l):insideR p (cycR (folD p) (folN p) z) (nodeD p a.fr).at'=insideR p (cycR (folD p) (folN p) z) (nodeD p a.to).at':=by
 obtain ⟨PI,hPI,hd⟩:=YQ (fun i=>(h.net.drawn.B i).h - (h.net.drawn.A i).h) (fun i=>h.net.drawn.hne i)
 obtain ⟨x0,hx0,_⟩:=h.net.first_seg (h.darts.1 hz)
 have hof:=h.of hPI hd hz hc hx0
 obtain ⟨y1,d1,f1⟩:=h.net.first_seg (h.dart_iff.2 ⟨a,ha,.inl rfl⟩)
 obtain ⟨y2,d2,f2⟩:=h.net.first_seg (h.dart_iff.2 ⟨a,ha,.inr rfl⟩)
 rw [(h.sp_pos ha).1] at f1
 rw [(h.sp_neg ha).1] at f2
 have i1:=(h.inside_kap hPI hd hz hc hpos (yf (h.nice.fr a ha)).1 f1).1
 have i2:=(h.inside_kap hPI hd hz hc hpos (yf (h.nice.too a ha)).1 f2).1
 have hp:=h.net.dart_part hPI hd (x:=y1) (y:=y2) (.inr (by rw [d1,d2,ziv])) (yG y1.s)
 have hk:=hp ((h.net.drawn.rowed hPI hd).strips.kap fun x=>(cycR (folD p) (folN p) z).contains (h.net.dart x)) fun m s t hs ht=>kap_row hof.cyc hs ht
 rw [zhi,i1,i2,hk]
theorem Good0.area_differ {z w:Int} (hz:z∈dartsR p) (hc:cycR (folD p) (folN p) z∈cyclesR p) (hpos:0<h.net.twX (cycR (folD p) (folN p) z)) (hw:w∈dartsR p) (hc2:cycR (folD p) (folN p) w∈cyclesR p) (hpos2:0<h.net.twX (cycR (folD p) (folN p) w)) (hap:∀ d,d∈cycR (folD p) (folN p) z->d∈cycR (folD p) (folN p) w->False) {a:Ac} (ha:a∈p.az.l) (hi:insideR p (cycR (folD p) (folN p) z) (nodeD p a.fr).at'=true) (hi2:insideR p (cycR (folD p) (folN p) w) (nodeD p a.fr).at'=true):h.net.twX (cycR (folD p) (folN p) z)≠h.net.twX (cycR (folD p) (folN p) w):=by
 obtain ⟨PI,hPI,hd⟩:=YQ (fun i=>(h.net.drawn.B i).h - (h.net.drawn.A i).h) (fun i=>h.net.drawn.hne i)
 obtain ⟨x0,hx0,_⟩:=h.net.first_seg (h.darts.1 hz)
 obtain ⟨x1,hx1,_⟩:=h.net.first_seg (h.darts.1 hw)
 have hof:=h.of hPI hd hz hc hx0
 have hof2:=h.of hPI hd hw hc2 hx1
 have ho:=(h.outer_iff hPI hd hz hc hx0).1 hpos
 have ho2:=(h.outer_iff hPI hd hw hc2 hx1).1 hpos2
 obtain ⟨y1,d1,f1⟩:=h.net.first_seg (h.dart_iff.2 ⟨a,ha,.inl rfl⟩)
 rw [(h.sp_pos ha).1] at f1
 have i1:=h.inside_kap hPI hd hz hc hpos (yf (h.nice.fr a ha)).1 f1
 have i2:=h.inside_kap hPI hd hw hc2 hpos2 (yf (h.nice.fr a ha)).1 f1
 have w1:=i1.2 (i1.1.1 hi)
 have w2:=i2.2 (i2.1.1 hi2)
 have hL:=(h.net.drawn.rowed hPI hd).strips.above (nodeD p a.fr).at'.h
 rw [← zgu] at hL
 obtain ⟨L0,wd,hLw⟩:=h.net.drawn.cover
 have a1:=h.area_cyc hPI hd hz (fun i=>(hLw i).1) (fun i=>(hLw i).2)
 have a2:=h.area_cyc hPI hd hw (fun i=>(hLw i).1) (fun i=>(hLw i).2)
 by_cases hs:∃ s,(h.net.drawn.rowed hPI hd).strips.part x0.s s/\(h.net.drawn.rowed hPI hd).strips.part x1.s s
 ·exfalso
  obtain ⟨s,s1,s2⟩:=hs
  have hK:(h.net.drawn.rowed hPI hd).strips.part x1.s=(h.net.drawn.rowed hPI hd).strips.part x0.s:=funext fun t=>propext ⟨fun ht=>z8 (z8 s1 (Z0 s2)) ht,fun ht=>z8 (z8 s2 (Z0 s1)) ht⟩
  rw [hK] at hof2 ho2
  exact wnd_one hof hof2 ho ho2 (fun x hx hx2=>hap _ (zgh.1 hx) (zgh.1 hx2)) hL w1 w2
 ·have hne:=area_ne (pos:=(h.net.drawn.rowed hPI hd).key) (ms:=rowsL L0 wd) (h.net.drawn.empty hPI hd (fun i=>(hLw i).1)) (fun m hm=>h.net.drawn.rows hPI hd (fun i=>(hLw i).1) (fun i=>(hLw i).2) hm) (fun m=>(h.net.drawn.rowed hPI hd).sorted_L) hof hof2 ho ho2 (fun s h1 h2=>hs ⟨s,h1,h2⟩) hL w1 w2
  rw [a1,a2] at hne
  intro e
  exact hne (by rw [e])
end
theorem zcn {a b:Pt} (ha:a.near) (hb:b.near):-8796093022208<=crs a b/\crs a b<=8796093022208:=by
 obtain ⟨h1,h2,h3,h4⟩:=ha
 obtain ⟨g1,g2,g3,g4⟩:=hb
 obtain ⟨m1,m2⟩:=ZK (a:=a.x) (b:=b.y) (k:=2097152) (by omega) (by omega) (by omega) (by omega)
 obtain ⟨m3,m4⟩:=ZK (a:=b.x) (b:=a.y) (k:=2097152) (by omega) (by omega) (by omega) (by omega)
 unfold crs
 generalize a.x*b.y=u at *
 generalize b.x*a.y=v at *
 omega
theorem twStep_eq {acc:Int} {a b:Pt} (ha:a.near) (hb:b.near) (h1:-4611686018427387904<=acc) (h2:acc<=4611686018427387904):twStep acc a b=acc+crs a b:=by
 obtain ⟨q1,q2,q3,q4⟩:=ha
 obtain ⟨g1,g2,g3,g4⟩:=hb
 obtain ⟨m1,m2⟩:=ZK (a:=a.x) (b:=b.y) (k:=2097152) (by omega) (by omega) (by omega) (by omega)
 obtain ⟨m3,m4⟩:=ZK (a:=b.x) (b:=a.y) (k:=2097152) (by omega) (by omega) (by omega) (by omega)
 unfold twStep crs
 generalize a.x*b.y=u at *
 generalize b.x*a.y=v at *
 rw [zA (x:=u) (by omega) (by omega),zA (x:=v) (by omega) (by omega),zA (x:=acc+u) (by omega) (by omega),zA (by omega) (by omega)]
 omega
def tauL (l:List Pt):Int:=sm (fun k=>crs (l.getD k zPt) (l.getD (k+1) zPt)) (List.range (l.length - 1))
theorem Zi {l:List Pt} (hl:∀ x∈l,x.near) (k:Nat) (hk:k+1<=l.length):-(8796093022208*(k:Int))<=sm (fun j=>crs (l.getD j zPt) (l.getD (j+1) zPt)) (List.range k)/\sm (fun j=>crs (l.getD j zPt) (l.getD (j+1) zPt)) (List.range k)<=8796093022208*(k:Int):=by
 have:=zbr (f:=fun j=>crs (l.getD j zPt) (l.getD (j+1) zPt)) (B:=8796093022208) (l:=List.range k) fun j hj=>by
  have:=zht.1 hj
  exact zcn (hl _ (zB (by omega))) (hl _ (zB (by omega)))
 rwa [List.length_range] at this
theorem twTo_eq {l:List Pt} (hl:∀ x∈l,x.near) {acc:Int} (hll:l.length<=1000) (h1:-4600000000000000000<=acc) (h2:acc<=4600000000000000000):∀ k,k+1<=l.length->twTo l acc k=acc+sm (fun j=>crs (l.getD j zPt) (l.getD (j+1) zPt)) (List.range k)
 | 0,_=>by simp [twTo,sm]
 | k+1,hk=>by
  have ih:=twTo_eq hl hll h1 h2 k (by omega)
  have e1:l[k]?=some (l.getD k zPt):=by rw [zf8,zf0 (by omega)]; rfl
  have e2:l[k+1]?=some (l.getD (k+1) zPt):=by rw [zf8,zf0 (by omega)]; rfl
  have e:twTo l acc (k+1)=twStep (twTo l acc k) (l.getD k zPt) (l.getD (k+1) zPt):=by
   show (match l[k]?,l[k+1]? with | some a,some b=>twStep (twTo l acc k) a b | _,_=>twTo l acc k)=_
   rw [e1,e2]
  have hb:=Zi hl k (by omega)
  rw [e,ih,twStep_eq (hl _ (zB (by omega))) (hl _ (zB (by omega))) (by omega) (by omega),List.range_succ,zu]
  simp only [sm]
  omega
theorem twP_eq {l:List Pt} (hl:∀ x∈l,x.near) {acc:Int} (hll:l.length<=1000) (h0:1<=l.length) (h1:-4600000000000000000<=acc) (h2:acc<=4600000000000000000):twP l acc=acc+tauL l:=twTo_eq hl hll h1 h2 _ (by omega)
theorem tau_rev {l:List Pt}:tauL l.reverse=- tauL l:=by
 unfold tauL
 rw [List.length_reverse,zcm (l.length - 1),show ∀ z:Int,-z=(-1)*z from fun z=>by omega,← yY]
 refine zp fun k hk=>?_
 have hk:=zht.1 hk
 rw [Z2 (by omega),Z2 (by omega),show l.length - 1 - (l.length - 1 - 1 - k)=k+1 by omega,show l.length - 1 - (l.length - 1 - 1 - k+1)=k by omega]
 unfold crs
 grind
section
variable {p:Pn} (h:Good0 p)
include h
theorem Good0.tauD_path {d:Int} (hd:d∈dartsR p):h.net.tauD d=tauL (pathZ p d):=by
 have key:∀ a∈p.az.l,h.net.tauD a.id=tauL (lineR p a):=fun a ha=>by
  have:=h.pid a ha
  unfold Net.tauD Net.tau tauL
  rw [if_pos (by omega),h.len ha]
  exact zp fun k _=>by rw [h.pt ha,h.pt ha]
 obtain ⟨a,ha,rfl | rfl⟩:=h.dart_iff.1 (h.darts.1 hd)
 ·rw [h.path_pos ha]
  exact key a ha
 ·rw [h.path_neg ha,tau_rev,← key a ha]
  exact h.tau_neg ha
theorem Good0.path_pt {d:Int} (hd:d∈dartsR p):∀ x∈pathZ p d,x.near:=by
 obtain ⟨a,ha,rfl | rfl⟩:=h.dart_iff.1 (h.darts.1 hd)
 ·rw [h.path_pos ha]
  exact h.line_pt ha
 ·rw [h.path_neg ha]
  exact fun x hx=>h.line_pt ha x (List.mem_reverse.1 hx)
theorem Good0.path_few (hv:∀ a∈p.az.l,a.via.l.length<=900) {d:Int} (hd:d∈dartsR p):(pathZ p d).length<=902:=by
 have key:∀ a∈p.az.l,(lineR p a).length<=902:=fun a ha=>by
  have:=hv a ha
  unfold lineR
  rw [zf3,zga,zf3,zgb]
  omega
 obtain ⟨a,ha,rfl | rfl⟩:=h.dart_iff.1 (h.darts.1 hd)
 ·rw [h.path_pos ha]
  exact key a ha
 ·rw [h.path_neg ha,List.length_reverse]
  exact key a ha
theorem Good0.tw_fold (hv:∀ a∈p.az.l,a.via.l.length<=900):∀ (c:List Int) (acc:Int),(∀ d∈c,d∈dartsR p)->-(8000000000000000*((512:Int) - c.length))<=acc->acc<=8000000000000000*((512:Int) - c.length)->c.length<=512->c.foldl (fun acc z=>twP (pathZ p z) acc) acc=acc+sm h.net.tauD c
 | [],acc,_,_,_,_=>by simp [sm]
 | d::c,acc,hs,h1,h2,hl=>by
  have hd:=hs d (zgi ..)
  have hp:=h.path_len hd
  have hf:=h.path_few hv hd
  rw [zf3] at hl h1 h2
  have hb:=Zi (h.path_pt hd) ((pathZ p d).length - 1) (by omega)
  have hb:-(8796093022208*(((pathZ p d).length - 1:Nat):Int))<=tauL (pathZ p d)/\tauL (pathZ p d)<=8796093022208*(((pathZ p d).length - 1:Nat):Int):=hb
  have he:=twP_eq (acc:=acc) (h.path_pt hd) (by omega) (by omega) (by omega) (by omega)
  rw [List.foldl_cons,he,Good0.tw_fold hv c _ (fun x hx=>hs x (zgn _ hx)) (by omega) (by omega) (by omega)]
  simp only [sm]
  rw [h.tauD_path hd]
  omega
theorem Good0.tw_eq (hv:∀ a∈p.az.l,a.via.l.length<=900) {c:List Int} (hs:∀ d∈c,d∈dartsR p) (hl:c.length<=512):twR p c=h.net.twX c:=by
 have:=h.tw_fold hv c 0 hs (by omega) (by omega) hl
 unfold twR Net.twX
 rw [this]
 omega
end
end
section
theorem arTo_spec {ins:Nat->Bool} {tw:Nat->Int}:∀ n,(arTo ins tw n=-1/\∀ i,i<n->ins i=false)∨∃ k,k<n/\arTo ins tw n=(k:Int)/\ins k=true/\∀ i,i<n->ins i=true->tw k<=tw i
 | 0=>.inl ⟨rfl,fun i h=>by omega⟩
 | n+1=>by
  have e:arTo ins tw (n+1)=if (ins n&&(decide (arTo ins tw n<0)||decide (tw n<tw (arTo ins tw n).toNat)))=true then (n:Int) else arTo ins tw n:=rfl
  rcases arTo_spec (ins:=ins) (tw:=tw) n with ⟨h1,h2⟩ | ⟨k,hk,h1,h2,h3⟩
  ·rw [h1] at e
   cases hi:ins n
   ·rw [hi] at e
    refine .inl ⟨e,fun i hi2=>?_⟩
    by_cases hn:i=n
    ·rw [hn]; exact hi
    ·exact h2 i (by omega)
   ·rw [hi] at e
    refine .inr ⟨n,by omega,e,hi,fun i hi2 hx=>?_⟩
    by_cases hn:i=n
    ·rw [hn]; exact Int.le_refl _
    ·rw [h2 i (by omega)] at hx; cases hx
  ·rw [h1,decide_eq_false (show ¬ ((k:Int)<0) by omega),zhm,Int.toNat_natCast] at e
   by_cases c:(ins n&&decide (tw n<tw k))=true
   ·rw [if_pos c] at e
    rw [zf6,decide_eq_true_eq] at c
    refine .inr ⟨n,by omega,e,c.1,fun i hi2 hx=>?_⟩
    by_cases hn:i=n
    ·rw [hn]; exact Int.le_refl _
    ·have:=h3 i (by omega) hx
     omega
   ·rw [if_neg c] at e
    rw [zf6,decide_eq_true_eq] at c
    refine .inr ⟨k,by omega,e,h2,fun i hi2 hx=>?_⟩
    by_cases hn:i=n
    ·subst hn
     have:¬ tw i<tw k:=fun h=>c ⟨hx,h⟩
     omega
    ·exact h3 i (by omega) hx
noncomputable def faceOf (p:Pn) (os:List (List Int)) (q:Pt):Int:=match regR p os q with
 | 0=>0
 | k+1=>fcC p ((os[k]?).getD [])
def IsFace (p:Pn) (q:Pt) (f:Int):Prop:=(∃ c∈cyclesR p,0<twR p c/\insideR p c q=true/\(∀ c'∈cyclesR p,0<twR p c'->insideR p c' q=true->twR p c<=twR p c')/\f=fcC p c)∨((∀ c∈cyclesR p,0<twR p c->insideR p c q=false)/\f=0)
theorem faceOf_is {p:Pn} {os:List (List Int)} (hos:∀ c,c∈os↔c∈cyclesR p/\0<twR p c) (q:Pt):IsFace p q (faceOf p os q):=by
 have hget:∀ i,i<os.length->∃ c,os[i]?=some c/\c∈os:=fun i hi=>⟨os[i],zf0 hi,zgt hi⟩
 rcases arTo_spec (ins:=fun i=>insideR p ((os[i]?).getD []) q) (tw:=fun i=>twR p ((os[i]?).getD [])) os.length with ⟨h1,h2⟩ | ⟨k,hk,h1,h2,h3⟩
 ·have e:regR p os q=0:=by
   unfold regR arX
   rw [h1]
   rfl
  right
  refine ⟨fun c hc ht=>?_,by unfold faceOf; rw [e]⟩
  obtain ⟨i,hi⟩:=zg7 ((hos c).2 ⟨hc,ht⟩)
  have:=h2 i (zfz.1 hi).1
  simp only [hi,zh7] at this
  exact this
 ·have e:regR p os q=k+1:=by
   unfold regR arX
   rw [h1]
   omega
  obtain ⟨c,hc,hm⟩:=hget k hk
  simp only [hc,zh7] at h2 h3
  left
  refine ⟨c,((hos c).1 hm).1,((hos c).1 hm).2,h2,fun c' hc' ht' hi'=>?_,by unfold faceOf; rw [e]; show fcC p ((os[k]?).getD [])=fcC p c; rw [hc]; rfl⟩
  obtain ⟨i,hi⟩:=zg7 ((hos c').2 ⟨hc',ht'⟩)
  have:=h3 i (zfz.1 hi).1
  simp only [hi,zh7] at this
  exact this hi'
theorem Yi {p:Pn} {c:List Int}:c∈outersR p↔c∈cyclesR p/\0<twR p c:=by
 rw [(Yg p).mem_iff,zif,decide_eq_true_eq]
theorem faceAt_is (p:Pn) (q:Pt):IsFace p q (faceAt p q):=faceOf_is (fun _=>Yi) q
section
variable {p:Pn} (h:Good0 p) (hv:∀ a∈p.az.l,a.via.l.length<=900) (ha:p.az.l.length<=200)
include h
theorem Good0.cyc_sub {c:List Int} (hc:c∈cyclesR p):∀ d∈c,d∈dartsR p:=by
 obtain ⟨z,hz,rfl⟩:=Good0.of_cycle hc
 exact (h.cycle hz).1.sub
include hv ha
theorem Good0.tw_cyc {c:List Int} (hc:c∈cyclesR p):twR p c=h.net.twX c:=h.tw_eq hv (h.cyc_sub hc) (h.cycles ha c hc).1
theorem Good0.ends_inR {c:List Int} (hc:c∈cyclesR p) (hpos:0<twR p c) {a:Ac} (haa:a∈p.az.l):insideR p c (nodeD p a.fr).at'=insideR p c (nodeD p a.to).at':=by
 rw [h.tw_cyc hv ha hc] at hpos
 obtain ⟨z,hz,rfl⟩:=Good0.of_cycle hc
 exact h.ends_in hz hc hpos haa
theorem Good0.face_ends {a:Ac} (haa:a∈p.az.l) {f:Int} (hf:IsFace p (nodeD p a.to).at' f):IsFace p (nodeD p a.fr).at' f:=by
 rcases hf with ⟨c,h1,h2,h3,h4,h5⟩ | ⟨h1,h2⟩
 ·refine .inl ⟨c,h1,h2,(h.ends_inR hv ha h1 h2 haa).trans h3,fun c' g1 g2 g3=>h4 c' g1 g2 ((h.ends_inR hv ha g1 g2 haa).symm.trans g3),h5⟩
 ·exact .inr ⟨fun c g1 g2=>(h.ends_inR hv ha g1 g2 haa).trans (h1 c g1 g2),h2⟩
theorem Good0.face_uniq {a:Ac} (haa:a∈p.az.l) {f g:Int} (hf:IsFace p (nodeD p a.fr).at' f) (hg:IsFace p (nodeD p a.fr).at' g):f=g:=by
 rcases hf with ⟨c,h1,h2,h3,h4,h5⟩ | ⟨h1,h2⟩ <;> rcases hg with ⟨c',g1,g2,g3,g4,g5⟩ | ⟨g1,g2⟩
 ·have heq:twR p c=twR p c':=by
   have:=h4 c' g1 g2 g3
   have:=g4 c h1 h2 h3
   omega
  have key:∀ (i j:Nat) (u v:List Int),i<j->(cyclesR p)[i]?=some u->(cyclesR p)[j]?=some v->0<twR p u->0<twR p v->insideR p u (nodeD p a.fr).at'=true->insideR p v (nodeD p a.fr).at'=true->twR p u=twR p v->False:=fun i j u v hij hu hv' p1 p2 i1 i2 e=>by
   have hap:=yr.1 h.cycles_apart i j u v hij hu hv'
   have mu:=zgl hu
   have mv:=zgl hv'
   rw [h.tw_cyc hv ha mu] at p1 e
   rw [h.tw_cyc hv ha mv] at p2 e
   obtain ⟨z,hz,rfl⟩:=Good0.of_cycle mu
   obtain ⟨w,hw,rfl⟩:=Good0.of_cycle mv
   exact h.area_differ hz mu p1 hw mv p2 hap haa i1 i2 e
  obtain ⟨i,hi⟩:=zg7 h1
  obtain ⟨j,hj⟩:=zg7 g1
  rcases Nat.lt_trichotomy i j with hij | hij | hij
  ·exact (key i j c c' hij hi hj h2 g2 h3 g3 heq).elim
  ·subst hij
   rw [hi] at hj
   cases hj
   rw [h5,g5]
  ·exact (key j i c' c hij hj hi g2 h2 g3 h3 heq.symm).elim
 ·rw [g1 c h1 h2] at h3
  cases h3
 ·rw [h1 c' g1 g2] at g3
  cases g3
 ·rw [h2,g2]
end
noncomputable def startF (p:Pn) (c:List Int):Pt:=((pathL p (absI ((c[0]?).getD 0)))[0]?).getD ⟨0,0⟩
structure SpecP (p:Pn) (os:List (List Int)):Prop where
 outer:∀ c∈os,fcC p c≠0/\sidesR p c (fcC p c)=true
 dist:(os.map (fcC p)).Nodup
 num:os.length=p.fs.l.length
 inner:∀ c∈cyclesR p,twR p c<=0->sidesR p c (faceOf p os (startF p c))=true
section
variable {p:Pn} (h:Good0 p) (hv:∀ a∈p.az.l,a.via.l.length<=900) (ha:p.az.l.length<=200)
include h
theorem Good0.head {c:List Int} (hc:c∈cyclesR p):∃ a∈p.az.l,((c[0]?).getD 0=a.id∨(c[0]?).getD 0=-a.id)/\startF p c=(nodeD p a.fr).at'/\(startP p c=(nodeD p a.fr).at'∨startP p c=(nodeD p a.to).at'):=by
 obtain ⟨z,hz,rfl⟩:=Good0.of_cycle hc
 have h0:=(h.cycle hz).1.head
 obtain ⟨a,haa,e⟩:=h.dart_iff.1 (h.darts.1 hz)
 have hid:=h.pid a haa
 refine ⟨a,haa,by rw [h0]; exact e,?_,?_⟩
 ·unfold startF
  rw [h0]
  have hab:absI z=a.id:=by
   obtain ⟨g1,_⟩:=gd_abs (h.gd (h.darts.1 hz))
   have hz2:ngI z=-z:=(h.ng_dart (h.darts.1 hz)).1
   rcases g1 with ⟨g1,g2⟩ | ⟨g1,g2⟩
   ·show absI z=a.id
    omega
   ·show absI z=a.id
    omega
  show (((pathL p (absI z))[0]?).getD ⟨0,0⟩)=_
  rw [hab,(h.nice.path haa).2]
  rfl
 ·unfold startP
  rw [h0]
  show ((pathZ p z)[0]?).getD ⟨0,0⟩=_∨((pathZ p z)[0]?).getD ⟨0,0⟩=_
  have h2:=zF (p:=p) (a:=a)
  rcases e with rfl | rfl
  ·left
   rw [h.path_pos haa]
   rfl
  ·right
   rw [h.path_neg haa,List.getElem?_reverse (by omega),Nat.sub_zero]
   have:=line_last (p:=p) (a:=a)
   rw [zf8] at this
   exact this
theorem Good0.side_face {d:Int} (hd:d∈dartsR p) (hn:sideR p d≠0):sideR p d∈p.fs.l:=by
 obtain ⟨a,haa,e⟩:=h.dart_iff.1 (h.darts.1 hd)
 have hid:=h.pid a haa
 obtain ⟨f1,f2⟩:=h.fac a haa
 have hA:arcD p a.id=a:=by
  unfold arcD
  rw [show arcF p a.id=some a from yx h.nice.aid haa]
  rfl
 have key:∀ n,faceOk p n=true->n≠0->n∈p.fs.l:=fun n hn h0=>by
  unfold faceOk at hn
  rw [zha,beq_iff_eq] at hn
  rcases hn with hn | hn
  ·obtain ⟨x,hx,e⟩:=zh5.1 hn
   rw [eq_of_beq e]
   exact hx
  ·exact absurd hn h0
 rcases e with rfl | rfl
 ·have e:sideR p a.id=a.l:=by
   unfold sideR
   rw [decide_eq_true (show 0<a.id by omega),cond_true,hA]
  rw [e] at hn ⊢
  exact key _ f1 hn
 ·have e:sideR p (-a.id)=a.r:=by
   unfold sideR
   rw [decide_eq_false (show ¬ 0 < -a.id by omega),cond_false,h.ng2 haa,decide_eq_true (show 0<a.id by omega),cond_true,hA]
  rw [e] at hn ⊢
  exact key _ f2 hn
include hv ha
theorem Good0.spec (hfs:p.fs.l.Pairwise (·<·)) {os:List (List Int)} (hos:os.Perm ((cyclesR p).filter fun c=>decide (0<twR p c))):SpecP p os↔Spec16 p:=by
 have hp:os.Perm (outersR p):=hos.trans (Yg p).symm
 have hm:∀ c,c∈os↔c∈cyclesR p/\0<twR p c:=fun c=>by rw [hos.mem_iff,zif,decide_eq_true_eq]
 have hface:∀ c∈cyclesR p,faceOf p os (startF p c)=faceAt p (startP p c):=fun c hc=>by
  obtain ⟨a,haa,_,e1,e2⟩:=h.head hc
  have f1:=faceOf_is hm (startF p c)
  have f2:=faceAt_is p (startP p c)
  rw [e1] at f1 ⊢
  rcases e2 with e2 | e2
  ·rw [e2] at f2 ⊢
   exact h.face_uniq hv ha haa f1 f2
  ·rw [e2] at f2 ⊢
   exact h.face_uniq hv ha haa f1 (h.face_ends hv ha haa f2)
 have hsub:(∀ c∈os,fcC p c≠0)->∀ f∈os.map (fcC p),f∈p.fs.l:=fun h0 f hf=>by
  obtain ⟨c,hc,rfl⟩:=zgx.1 hf
  have hcy:=((hm c).1 hc).1
  obtain ⟨z,hz,rfl⟩:=Good0.of_cycle hcy
  have e:fcC p (cycR (folD p) (folN p) z)=sideR p z:=by
   unfold fcC
   rw [(h.cycle hz).1.head]
   rfl
  have h0:=h0 _ hc
  rw [e] at h0 ⊢
  exact h.side_face hz h0
 have hfn:p.fs.l.Nodup:=hfs.imp fun {a b} hab e=>by omega
 constructor
 ·intro hs
  have hpm:=hp.map (fcC p)
  refine ⟨fun c hc=>hs.outer c (hp.mem_iff.2 hc),hpm.nodup_iff.1 hs.dist,?_,fun c hc ht=>by rw [← hface c hc]; exact hs.inner c hc ht⟩
  refine asc_ext (nrm_asc _) hfs fun y=>?_
  rw [mem_nrm,← hpm.mem_iff]
  refine ⟨hsub (fun c hc=>(hs.outer c hc).1) y,fun hy=>?_⟩
  by_cases hin:y∈os.map (fcC p)
  ·exact hin
  ·exfalso
   have hl:=(List.nodup_cons.2 ⟨hin,hs.dist⟩).length_le_of_subset (l₂:=p.fs.l) fun x hx=>by
    rcases zgf.1 hx with rfl | hx
    ·exact hy
    ·exact hsub (fun c hc=>(hs.outer c hc).1) x hx
   rw [zf3,zgw,hs.num] at hl
   omega
 ·intro hs
  have hpm:=hp.map (fcC p)
  refine ⟨fun c hc=>hs.outer c (hp.mem_iff.1 hc),hpm.nodup_iff.2 hs.dist,?_,fun c hc ht=>by rw [hface c hc]; exact hs.inner c hc ht⟩
  have h1:(nrm ((outersR p).map (fcC p))).Perm ((outersR p).map (fcC p)):=(List.perm_ext_iff_of_nodup ((nrm_asc _).imp fun {a b} hab e=>by omega) hs.dist).2 fun y=>mem_nrm
  rw [hs.faces] at h1
  rw [h1.length_eq,zgw,hp.length_eq]
end
end
section
theorem sum_one {d:Int}:∀ {l:List (List Int)},l.Pairwise (fun a b=>∀ d,d∈a->d∈b->False)->∀ c∈l,d∈c->sm (fun c=>b2 (c.contains d)) l=1
 | x::l,hp,c,hc,hd=>by
  rw [zib] at hp
  simp only [sm]
  by_cases hx:d∈x
  ·have hz:sm (fun c=>b2 (c.contains d)) l=0:=zY fun y hy=>by
    have:y.contains d=false:=by
     rw [Bool.eq_false_iff]
     intro e
     exact hp.1 y hy d hx (zgh.1 e)
    simp only [this]
    rfl
   rw [hz,zgh.2 hx]
   rfl
  ·have hcl:c∈l:=by
    rcases zgf.1 hc with rfl | hc
    ·exact absurd hd hx
    ·exact hc
   have:x.contains d=false:=by
    rw [Bool.eq_false_iff]
    exact fun e=>hx (zgh.1 e)
   rw [this,sum_one hp.2 c hcl hd]
   rfl
section
variable {p:Pn} (h:Good0 p)
noncomputable def Good0.fset (c:List Int):Dt (Ix h.net.E.length)->Bool:=fun x=>c.contains (h.net.dart x)
variable {PI:Int} (hPI:0<PI) (hd:∀ i,((h.net.drawn.B i).h - (h.net.drawn.A i).h) ∣ PI)
theorem Good0.cyc_of {c:List Int} (hc:c∈cyclesR p):∃ x0,h.fset c x0=true/\(h.net.drawn.rowed hPI hd).strips.Of ((h.net.drawn.rowed hPI hd).strips.part x0.s) (h.fset c)/\(0<h.net.twX c↔¬ (h.net.drawn.rowed hPI hd).strips.Outer ((h.net.drawn.rowed hPI hd).strips.part x0.s) (h.fset c)):=by
 obtain ⟨z,hz,rfl⟩:=Good0.of_cycle hc
 obtain ⟨x0,hx0,_⟩:=h.net.first_seg (h.darts.1 hz)
 exact ⟨x0,zgh.2 (by rw [hx0]; exact h.self_mem hz),h.of hPI hd hz hc hx0,h.outer_iff hPI hd hz hc hx0⟩
theorem Good0.inside_iff {c:List Int} (hc:c∈cyclesR p) (hpos:0<h.net.twX c) {nd:Nd} (hnd:nd∈p.ns.l) {y:Dt (Ix h.net.E.length)} (hy:h.net.drawn.fro y=nd.at'):insideR p c nd.at'=true↔(h.net.drawn.rowed hPI hd).strips.kap (h.fset c) y.s=1:=by
 obtain ⟨z,hz,rfl⟩:=Good0.of_cycle hc
 exact (h.inside_kap hPI hd hz hc hpos hnd hy).1
theorem Good0.area_of {c:List Int} (hc:c∈cyclesR p) {L0:Int} {w:Nat} (h0:∀ i,L0<=h.net.drawn.lo i) (h1:∀ i,h.net.drawn.hi i<=L0+(w:Int)):area (h.net.drawn.rowed hPI hd).strips (h.net.drawn.rowed hPI hd).key (rowsL L0 w) (h.fset c)=PI*(8388608*h.net.twX c):=by
 obtain ⟨z,hz,rfl⟩:=Good0.of_cycle hc
 exact h.area_cyc hPI hd hz h0 h1
theorem YV {S:Type} {T:Strips S} {s t u:S} (h1:T.part s u) (h2:T.part t u):T.part s=T.part t:=funext fun x=>propext ⟨fun hx=>z8 (z8 h2 (Z0 h1)) hx,fun hx=>z8 (z8 h1 (Z0 h2)) hx⟩
include h in
theorem Good0.face_area {O:List Int} (hO:O∈cyclesR p) (hOp:0<h.net.twX O) {I:List (List Int)}
  (hI:∀ c∈I,c∈cyclesR p/\¬ 0<h.net.twX c/\∃ a∈p.az.l,(a.id∈c∨-a.id∈c)/\insideR p O (nodeD p a.fr).at'=true/\∀ h'∈cyclesR p,0<h.net.twX h'->insideR p h' (nodeD p a.fr).at'=true->h.net.twX O<=h.net.twX h')
  (hIp:I.Pairwise fun a b=>∀ d,d∈a->d∈b->False):0<h.net.twX O+sm h.net.twX I:=by
 obtain ⟨PI,hPI,hd⟩:=YQ (fun i=>(h.net.drawn.B i).h - (h.net.drawn.A i).h) (fun i=>h.net.drawn.hne i)
 obtain ⟨L0,w,hLw⟩:=h.net.drawn.cover
 obtain ⟨xO,hxO,hofO,houO⟩:=h.cyc_of hPI hd hO
 have houO:=houO.1 hOp
 have hemp:=h.net.drawn.empty hPI hd (fun i=>(hLw i).1)
 have hrows:=fun m hm=>h.net.drawn.rows hPI hd (fun i=>(hLw i).1) (fun i=>(hLw i).2) (m:=m) hm
 have hsort:=fun m=>(h.net.drawn.rowed hPI hd).sorted_L (m:=m)
 have harea:=fun {c:List Int} (hc:c∈cyclesR p)=>h.area_of hPI hd hc (fun i=>(hLw i).1) (fun i=>(hLw i).2)
 have hdata:∀ c∈I,∃ (xc y:Dt (Ix h.net.E.length)) (a:Ac),a∈p.az.l/\h.fset c xc=true/\(h.net.drawn.rowed hPI hd).strips.Of ((h.net.drawn.rowed hPI hd).strips.part xc.s) (h.fset c)/\(h.net.drawn.rowed hPI hd).strips.Outer ((h.net.drawn.rowed hPI hd).strips.part xc.s) (h.fset c)/\h.net.drawn.fro y=(nodeD p a.fr).at'/\(h.net.drawn.rowed hPI hd).strips.part xc.s y.s/\(h.net.drawn.rowed hPI hd).strips.kap (h.fset O) y.s=1/\∀ h'∈cyclesR p,0<h.net.twX h'->insideR p h' (nodeD p a.fr).at'=true->h.net.twX O<=h.net.twX h':=fun c hc=>by
  obtain ⟨hcy,hneg,a,ha,hac,hin,hmin⟩:=hI c hc
  obtain ⟨xc,h1,h2,h3⟩:=h.cyc_of hPI hd hcy
  obtain ⟨y,d1,f1⟩:=h.net.first_seg (h.dart_iff.2 ⟨a,ha,.inl rfl⟩)
  rw [(h.sp_pos ha).1] at f1
  have hou:(h.net.drawn.rowed hPI hd).strips.Outer ((h.net.drawn.rowed hPI hd).strips.part xc.s) (h.fset c):=Classical.byContradiction fun hno=>hneg (h3.2 hno)
  refine ⟨xc,y,a,ha,h1,h2,hou,f1,?_,(h.inside_iff hPI hd hO hOp (yf (h.nice.fr a ha)).1 f1).1 hin,hmin⟩
  rcases hac with hac | hac
  ·exact h2.part y (zgh.2 (by rw [d1]; exact hac))
  ·exact h2.part y.rev (zgh.2 (by rw [h.net.dart_rev,d1]; exact hac))
 have core:∀ c∈I,∀ c'∈I,∀ (xc xc':Dt (Ix h.net.E.length)),h.fset c xc=true->(h.net.drawn.rowed hPI hd).strips.Of ((h.net.drawn.rowed hPI hd).strips.part xc.s) (h.fset c)->h.fset c' xc'=true->(h.net.drawn.rowed hPI hd).strips.Of ((h.net.drawn.rowed hPI hd).strips.part xc'.s) (h.fset c')->(∀ s,(h.net.drawn.rowed hPI hd).strips.part xc.s s->¬ (h.net.drawn.rowed hPI hd).strips.part xc'.s s)->∀ u,(h.net.drawn.rowed hPI hd).strips.part xc.s u->(h.net.drawn.rowed hPI hd).strips.kap (h.fset c') u=-1->False:=fun c hc c' hc' xc xc' hx hof hx' hof' hKK u hu hk=>by
  obtain ⟨yc,y,a,ha,g1,g2,_,g4,g5,g6,g7⟩:=hdata c hc
  obtain ⟨yc',y',a',ha',k1,k2,_,k4,k5,k6,k7⟩:=hdata c' hc'
  have e1:=YV (hof.part _ g1) (yG (T:=(h.net.drawn.rowed hPI hd).strips) yc.s)
  have e2:=YV (hof'.part _ k1) (yG (T:=(h.net.drawn.rowed hPI hd).strips) yc'.s)
  rw [← e1] at g5
  rw [← e2] at k5
  have hflt:∀ d,d∈(cyclesR p).filter (fun d=>@decide (∃ x,h.fset d x=true/\(h.net.drawn.rowed hPI hd).strips.part xc'.s x.s) (Classical.propDecidable _))↔d∈cyclesR p/\∃ x,h.fset d x=true/\(h.net.drawn.rowed hPI hd).strips.part xc'.s x.s:=fun d=>by
   rw [zif]
   exact and_congr_right fun _=>@decide_eq_true_iff _ (Classical.propDecidable _)
  have hap:=h.cycles_apart.filter (fun d=>@decide (∃ x,h.fset d x=true/\(h.net.drawn.rowed hPI hd).strips.part xc'.s x.s) (Classical.propDecidable _))
  generalize (cyclesR p).filter (fun d=>@decide (∃ x,h.fset d x=true/\(h.net.drawn.rowed hPI hd).strips.part xc'.s x.s) (Classical.propDecidable _))=l at hflt hap
  have hpart:∀ d∈l,∃ xd,h.fset d xd=true/\(h.net.drawn.rowed hPI hd).strips.part xd.s=(h.net.drawn.rowed hPI hd).strips.part xc'.s/\(h.net.drawn.rowed hPI hd).strips.Of ((h.net.drawn.rowed hPI hd).strips.part xc'.s) (h.fset d)/\(0<h.net.twX d↔¬ (h.net.drawn.rowed hPI hd).strips.Outer ((h.net.drawn.rowed hPI hd).strips.part xc'.s) (h.fset d)):=fun d hdl=>by
   obtain ⟨hdc,x,q1,q2⟩:=(hflt d).1 hdl
   obtain ⟨xd,r1,r2,r3⟩:=h.cyc_of hPI hd hdc
   have e:=YV (r2.part x q1) q2
   rw [e] at r2 r3
   exact ⟨xd,r1,e,r2,r3⟩
  obtain ⟨fh,hfh,o1,o2,m,A,B,o3,o4⟩:=hole (Cs:=l.map h.fset) (K:=(h.net.drawn.rowed hPI hd).strips.part xc'.s) (f:=h.fset c') (u:=u) (fun f hf=>by
   obtain ⟨d,hdl,rfl⟩:=zgx.1 hf
   obtain ⟨_,_,_,q,_⟩:=hpart d hdl
   exact q) (fun x hxK=>by
   rw [yv]
   have hdx:h.net.isDart (h.net.dart x):=by
    obtain ⟨b,hb,eb,_⟩:=h.ofE (h.net.get_mem x.s)
    refine h.dart_iff.2 ⟨b,hb,?_⟩
    rcases h.net.dart_abs x with e | e <;> omega
   obtain ⟨c0,hc0,hm0⟩:=Good0.in_cycle (h.darts.2 hdx)
   exact sum_one hap c0 ((hflt c0).2 ⟨hc0,x,zgh.2 hm0,hxK⟩) hm0) (hKK u hu) (zgx.2 ⟨c',(hflt c').2 ⟨(hI c' hc').1,xc',hx',yG _⟩,rfl⟩) hk
  obtain ⟨d,hdl,rfl⟩:=zgx.1 hfh
  obtain ⟨xd,r1,r2,r3,r4⟩:=hpart d hdl
  have hdc:=((hflt d).1 hdl).1
  have hdp:=r4.2 o1
  have hky:(h.net.drawn.rowed hPI hd).strips.kap (h.fset d) y.s=1:=by rw [z7 hof.joined r3.cyc g5 hu]; exact o2
  have hle:=g7 d hdc hdp ((h.inside_iff hPI hd hdc hdp (yf (h.nice.fr a ha)).1 g4).2 hky)
  have hlt:=area_lt (pos:=(h.net.drawn.rowed hPI hd).key) (ms:=rowsL L0 w) hemp hrows hsort r3 hofO o1 houO (zfp r3 hofO houO k5 k6) k5 k6 o3 o4
  rw [harea hdc,harea hO] at hlt
  have:=Int.mul_le_mul_of_nonneg_left (show 8388608*h.net.twX O<=8388608*h.net.twX d by omega) (Int.le_of_lt hPI)
  omega
 have hpos:=face_pos (pos:=(h.net.drawn.rowed hPI hd).key) (ms:=rowsL L0 w) hemp hrows hsort hofO houO hxO (I:=I.map h.fset) (fun f hf=>by
  obtain ⟨c,hc,rfl⟩:=zgx.1 hf
  obtain ⟨xc,y,a,ha,g1,g2,g3,g4,g5,g6,g7⟩:=hdata c hc
  exact ⟨_,g2,g3,y.s,g5,g6⟩) (by
  rw [zhk]
  refine hIp.imp_of_mem fun {c c'} hc hc' hap m A B e w1 w2=>?_
  obtain ⟨xc,y,a,ha,g1,g2,g3,_⟩:=hdata c hc
  obtain ⟨xc',y',a',ha',k1,k2,k3,_⟩:=hdata c' hc'
  by_cases hs:∃ s,(h.net.drawn.rowed hPI hd).strips.part xc.s s/\(h.net.drawn.rowed hPI hd).strips.part xc'.s s
  ·obtain ⟨s,s1,s2⟩:=hs
   have eK:=YV s2 s1
   rw [eK] at k2 k3
   exact outer_uniq g2 k2 g3 k3 (yG _) fun x hx hx2=>hap _ (zgh.1 hx) (zgh.1 hx2)
  ·have hKK:∀ s,(h.net.drawn.rowed hPI hd).strips.part xc.s s->¬ (h.net.drawn.rowed hPI hd).strips.part xc'.s s:=fun s h1 h2=>hs ⟨s,h1,h2⟩
   rcases hull_two g2 k2 hKK e w1 w2 with ⟨u,u1,u2⟩ | ⟨u,u1,u2⟩
   ·exact core c hc c' hc' xc xc' g1 g2 k1 k2 hKK u u1 u2
   ·exact core c' hc' c hc xc' xc k1 k2 g1 g2 (fun s h1 h2=>hKK s h2 h1) u u1 u2)
 have hsum:sm (fun f=>area (h.net.drawn.rowed hPI hd).strips (h.net.drawn.rowed hPI hd).key (rowsL L0 w) f) (I.map h.fset)=PI*(8388608*sm h.net.twX I):=by
  rw [yv,zp fun c hc=>harea (hI c hc).1,yY,yY]
 rw [harea hO,hsum,← Int.mul_add,← Int.mul_add] at hpos
 by_cases hp:0<h.net.twX O+sm h.net.twX I
 ·exact hp
 ·have:=zho (Int.le_of_lt hPI) (show 8388608*(h.net.twX O+sm h.net.twX I)<=0 by omega)
  omega
end
end
section
theorem sum_sm {α:Type} {f:α->Int}:∀ {l:List α},(l.map f).sum=sm f l
 | []=>rfl
 | x::l=>by rw [zg3,List.sum_cons,sum_sm (l:=l)]; rfl
theorem b2_has {x:Int}:∀ {P:List Int},P.Nodup->b2 (P.contains x)=sm (fun f=>b2 (x==f)) P
 | [],_=>rfl
 | f::P,h=>by
  rw [List.nodup_cons] at h
  have ih:=b2_has (x:=x) h.2
  rw [List.contains_cons]
  simp only [sm]
  rw [← ih]
  cases hx:x==f
  ·simp [b2]
  ·have:P.contains x=false:=by
    rw [Bool.eq_false_iff,eq_of_beq hx]
    exact fun e=>h.1 (zgh.1 e)
   rw [this]
   rfl
theorem sm_only {α:Type} {g T:α->Int} {f:Int}:∀ {l:List α},(l.map g).Nodup->∀ c∈l,g c=f->sm (fun c=>b2 (g c==f)*T c) l=T c
 | x::l,hn,c,hc,hg=>by
  rw [zg3,List.nodup_cons] at hn
  simp only [sm]
  rcases zgf.1 hc with rfl | hc
  ·have hz:sm (fun c=>b2 (g c==f)*T c) l=0:=zY fun y hy=>by
    have:(g y==f)=false:=by
     rw [beq_eq_false_iff_ne]
     intro e
     exact hn.1 (by rw [hg,← e]; exact List.mem_map_of_mem hy)
    rw [this]
    exact Int.zero_mul _
   rw [hz,hg]
   simp [b2]
  ·have:(g x==f)=false:=by
    rw [beq_eq_false_iff_ne]
    intro e
    exact hn.1 (by rw [e,← hg]; exact List.mem_map_of_mem hc)
   rw [this,sm_only hn.2 c hc hg]
   simp [b2]
theorem sm_part {α:Type} {f:α->Int} {q:α->Bool}:∀ {l:List α},sm f l=sm f (l.filter q)+sm f (l.filter fun x=>!q x)
 | []=>rfl
 | x::l=>by
  have ih:=sm_part (f:=f) (q:=q) (l:=l)
  rw [List.filter_cons,List.filter_cons]
  cases q x
  ·simp only [sm,zh6,if_true,zgk,if_false]
   omega
  ·simp only [sm,zh2,if_true,zgk,if_false]
   omega
theorem px_get {l:List Pt} {k:Nat} (hk:k<l.length):pxA l k=(l.getD k zPt).x/\pyA l k=(l.getD k zPt).y:=by
 unfold pxA pyA
 rw [zf8,zf0 hk]
 exact ⟨rfl,rfl⟩
theorem crossK_eq {l:List Pt} (hl:∀ x∈l,x.near) (hll:l.length<=1000):∀ k,k+1<=l.length->crossK l (k+1)=sm (fun j=>crs (l.getD j zPt) (l.getD (j+1) zPt)) (List.range k)
 | 0,_=>rfl
 | k+1,hk=>by
  have ih:=crossK_eq hl hll k (by omega)
  have hb:=Zi hl k (by omega)
  obtain ⟨x1,y1⟩:=px_get (l:=l) (k:=k) (by omega)
  obtain ⟨x2,y2⟩:=px_get (l:=l) (k:=k+1) (by omega)
  have n1:=hl _ (zB (show k<l.length by omega))
  have n2:=hl _ (zB (show k+1<l.length by omega))
  show wrapI .i64 (crossK l (k+1)+wrapI .i64 (wrapI .i64 (pxA l k*pyA l (k+1)) - wrapI .i64 (pxA l (k+1)*pyA l k)))=_
  rw [ih,x1,y1,x2,y2,List.range_succ,zu]
  simp only [sm]
  generalize sm (fun j=>crs (l.getD j zPt) (l.getD (j+1) zPt)) (List.range k)=S at hb ⊢
  have hcb:=zcn n1 n2
  generalize l.getD k zPt=a at *
  generalize l.getD (k+1) zPt=b at *
  obtain ⟨q1,q2,q3,q4⟩:=n1
  obtain ⟨g1,g2,g3,g4⟩:=n2
  obtain ⟨m1,m2⟩:=ZK (a:=a.x) (b:=b.y) (k:=2097152) (by omega) (by omega) (by omega) (by omega)
  obtain ⟨m3,m4⟩:=ZK (a:=b.x) (b:=a.y) (k:=2097152) (by omega) (by omega) (by omega) (by omega)
  unfold crs at hcb ⊢
  generalize a.x*b.y=u at *
  generalize b.x*a.y=v at *
  rw [zA (x:=u) (by omega) (by omega),zA (x:=v) (by omega) (by omega),zA (x:=u - v) (by omega) (by omega),zA (by omega) (by omega)]
  omega
section
variable {p:Pn} (h:Good0 p) (hv:∀ a∈p.az.l,a.via.l.length<=900)
include h
theorem Good0.side_pos {a:Ac} (ha:a∈p.az.l):sideR p a.id=a.l/\sideR p (-a.id)=a.r:=by
 have hid:=h.pid a ha
 have hA:arcD p a.id=a:=by
  unfold arcD
  rw [show arcF p a.id=some a from yx h.nice.aid ha]
  rfl
 constructor
 ·unfold sideR
  rw [decide_eq_true (show 0<a.id by omega),cond_true,hA]
 ·unfold sideR
  rw [decide_eq_false (show ¬ 0 < -a.id by omega),cond_false,h.ng2 ha,decide_eq_true (show 0<a.id by omega),cond_true,hA]
include hv
theorem Good0.cross_tau {a:Ac} (ha:a∈p.az.l):crossA p a=h.net.tauD a.id:=by
 have h2:=zF (p:=p) (a:=a)
 have hf:(lineR p a).length<=902:=by
  have:=hv a ha
  unfold lineR
  rw [zf3,zga,zf3,zgb]
  omega
 have e:=crossK_eq (h.line_pt ha) (by omega) ((lineR p a).length - 1) (by omega)
 rw [h.tauD_path (h.darts.2 (h.dart_iff.2 ⟨a,ha,.inl rfl⟩)),h.path_pos ha]
 unfold crossA tauL
 rw [(h.nice.path ha).2,← e]
 congr 1
theorem Good0.areaS_eq (P:List Int):areaS p P p.az.l=sm (fun d=>b2 (P.contains (sideR p d))*h.net.tauD d) (dartsR p):=by
 unfold areaS dartsR
 rw [sum_sm,zu,yv,yv,zfa,← YB]
 refine zp fun a ha=>?_
 obtain ⟨s1,s2⟩:=h.side_pos ha
 rw [h.ng ha,s1,s2,h.tau_neg ha]
 unfold ctrA
 rw [h.cross_tau hv ha]
 cases P.contains a.l <;> cases P.contains a.r <;> simp [b2]
 omega
noncomputable def Good0.faceA {p:Pn} (h:Good0 p) (f:Int):Int:=sm (fun d=>b2 (sideR p d==f)*h.net.tauD d) (dartsR p)
theorem Good0.areaS_faces {P:List Int} (hP:P.Nodup):areaS p P p.az.l=sm h.faceA P:=by
 rw [h.areaS_eq hv]
 unfold Good0.faceA
 rw [YT]
 refine zp fun d _=>?_
 rw [b2_has hP]
 have e:sm (fun f=>b2 (sideR p d==f)*h.net.tauD d) P=sm (fun f=>h.net.tauD d*b2 (sideR p d==f)) P:=zp fun f _=>Int.mul_comm _ _
 rw [e,yY,Int.mul_comm]
omit hv in
theorem Good0.darts_flat:((cyclesR p).flatMap id).Perm (dartsR p):=by
 refine (List.perm_ext_iff_of_nodup ?_ h.darts_nodup).2 fun d=>?_
 ·rw [List.Nodup,List.pairwise_flatMap]
  refine ⟨fun c hc=>?_,h.cycles_apart.imp fun {a b} hab x hx y hy e=>hab x hx (by rw [e]; exact hy)⟩
  obtain ⟨z,hz,rfl⟩:=Good0.of_cycle hc
  exact (h.cycle hz).1.nodup
 ·rw [zh1]
  constructor
  ·rintro ⟨c,hc,hd⟩
   exact h.cyc_sub hc d hd
  ·intro hd
   exact Good0.in_cycle hd
noncomputable def cycF (p:Pn) (c:List Int):Int:=if 0<twR p c then fcC p c else faceAt p (startP p c)
variable (hal:p.az.l.length<=200)
include hal
theorem Good0.faceA_cyc (hs:Spec16 p) (f:Int):h.faceA f=sm (fun c=>b2 (cycF p c==f)*h.net.twX c) (cyclesR p):=by
 unfold Good0.faceA
 rw [← zbq h.darts_flat,zae]
 refine zp fun c hc=>?_
 have hside:∀ d∈c,sideR p d=cycF p c:=fun d hd=>by
  unfold cycF
  by_cases ht:0<twR p c
  ·rw [if_pos ht]
   have:=(hs.outer c (Yi.2 ⟨hc,ht⟩)).2
   exact eq_of_beq (zhg.1 this d hd)
  ·rw [if_neg ht]
   have:=hs.inner c hc (by omega)
   exact eq_of_beq (zhg.1 this d hd)
 show sm (fun d=>b2 (sideR p d==f)*h.net.tauD d) c=_
 rw [zp (g:=fun d=>b2 (cycF p c==f)*h.net.tauD d) fun d hd=>by rw [hside d hd],yY]
 rfl
theorem Good0.faceA_pos (hs:Spec16 p) {f:Int} (hf:f∈p.fs.l):0<h.faceA f:=by
 rw [h.faceA_cyc hv hal hs,sm_part (q:=fun c=>decide (0<twR p c))]
 rw [← hs.faces,mem_nrm] at hf
 obtain ⟨O,hO,hfO⟩:=zgx.1 hf
 obtain ⟨hOc,hOp⟩:=Yi.1 hO
 have hf0:f≠0:=by rw [← hfO]; exact (hs.outer O hO).1
 have hpm:((cyclesR p).filter fun c=>decide (0<twR p c)).Perm (outersR p):=(Yg p).symm
 have hnd:(((cyclesR p).filter fun c=>decide (0<twR p c)).map (fcC p)).Nodup:=(hpm.map _).nodup_iff.2 hs.dist
 have e1:sm (fun c=>b2 (cycF p c==f)*h.net.twX c) ((cyclesR p).filter fun c=>decide (0<twR p c))=h.net.twX O:=by
  rw [zp (g:=fun c=>b2 (fcC p c==f)*h.net.twX c) fun c hc=>by
   have:=(zif.1 hc).2
   unfold cycF
   rw [if_pos (of_decide_eq_true this)]]
  exact sm_only hnd O (hpm.mem_iff.2 hO) hfO
 have e2:sm (fun c=>b2 (cycF p c==f)*h.net.twX c) ((cyclesR p).filter fun c=>!decide (0<twR p c))=sm h.net.twX (((cyclesR p).filter fun c=>!decide (0<twR p c)).filter fun c=>cycF p c==f):=Z1.symm
 rw [e1,e2]
 have tw:∀ {c},c∈cyclesR p->twR p c=h.net.twX c:=fun hc=>h.tw_cyc hv hal hc
 refine h.face_area hOc (by rw [← tw hOc]; exact hOp) (fun c hc=>?_) ((h.cycles_apart.filter _).filter _)
 obtain ⟨hc1,hc2⟩:=zif.1 hc
 obtain ⟨hcy,hc3⟩:=zif.1 hc1
 have hneg:¬ 0<twR p c:=by simpa using hc3
 refine ⟨hcy,by rw [← tw hcy]; exact hneg,?_⟩
 have hface:faceAt p (startP p c)=f:=by
  have:=eq_of_beq hc2
  unfold cycF at this
  rwa [if_neg hneg] at this
 obtain ⟨a,ha,hda,_,hst⟩:=h.head hcy
 have hmem:(c[0]?).getD 0∈c:=by
  have hne:=(h.cycles hal c hcy).2.1
  cases c with
  | nil=>exact absurd rfl hne
  | cons d r=>exact zgi ..
 have hI:IsFace p (nodeD p a.fr).at' f:=by
  have:=faceAt_is p (startP p c)
  rw [hface] at this
  rcases hst with hst | hst
  ·rw [hst] at this
   exact this
  ·rw [hst] at this
   exact h.face_ends hv hal ha this
 refine ⟨a,ha,?_,?_⟩
 ·rcases hda with e | e
  ·left; rw [← e]; exact hmem
  ·right; rw [← e]; exact hmem
 ·rcases hI with ⟨c',g1,g2,g3,g4,g5⟩ | ⟨_,g5⟩
  ·have hcO:c'=O:=by
    obtain ⟨i,hi⟩:=zg7 (Yi.2 ⟨g1,g2⟩)
    obtain ⟨j,hj⟩:=zg7 hO
    have hn:=hs.dist
    have e3:((outersR p).map (fcC p))[i]?=some f:=by rw [zgd,hi,g5]; rfl
    have e4:((outersR p).map (fcC p))[j]?=some f:=by rw [zgd,hj,← hfO]; rfl
    obtain ⟨l1,q1⟩:=zfz.1 e3
    obtain ⟨l2,q2⟩:=zfz.1 e4
    have hij:=(List.getElem_inj hn).1 (q1.trans q2.symm)
    subst hij
    rw [hi] at hj
    exact zgy hj
   rw [hcO] at g3 g4
   refine ⟨g3,fun h' q1 q2 q3=>?_⟩
   rw [← tw hOc,← tw q1]
   exact g4 h' q1 (by rw [tw q1]; exact q2) q3
  ·exact absurd g5 hf0
end
end
section
def PathsX (p:Pn) (L:List (Int × SlOf 2 Pt.c)):Prop:=∀ a∈p.az.l,(lkM nilP L a.id).l=pathL p a.id
section
variable {S:ySM}
theorem paths_runX (hS:NoS S) (p:Pn) (h0:Good0 p) (hfv:FewVia p):∃ N,∀ m,N<=m->∀ d out ownV own id,∃ L:List (Int × SlOf 2 Pt.c),callN Ftab S m d out ownV own id 74 [.agg p.c]=some (.r,.mapC (mKs L) (mVs plV L),own)/\PathsX p L:=by
 have hcall:∀ a∈p.az.l,∃ N,∀ m,N<=m->∃ q':SlOf 2 Pt.c,(pathOk p a.id=true->q'.l=pathL p a.id)/\∀ d out ownV own id,callN Ftab S m d out ownV own id 38 [.agg p.c,iv a.id]=some (.r,.tuple [q'.v,iv (bif pathOk p a.id then 0 else 7)],own):=fun a _=>by
  obtain ⟨q',h1,N,h2⟩:=Zo hS p a.id hfv
  exact ⟨N,fun m hm=>⟨q',h1,h2 m hm⟩⟩
 obtain ⟨N,hN⟩:=Yv p.az.l hcall
 refine ⟨N+p.az.l.length+200000,fun m hm d out ownV own id=>?_⟩
 obtain ⟨m,rfl⟩:∃ q,m=q+2:=⟨m - 2,by omega⟩
 have main:∃ v,callN Ftab S (m+1+1) d out ownV own id 74 [.agg p.c]=some (.r,v,own)/\∃ L:List (Int × SlOf 2 Pt.c),v=.mapC (mKs L) (mVs plV L)/\PathsX p L:=by
  refine ZV (i:=i74) (ns hS (by rfl)) rfl rfl (lb rfl) fun t hfr=>?_
  simp only [V2,Xb,i74,Pn.c] at hfr
  generalize (fun l=>if l=d then ownV else out l:yLM)=out2
  suffices hsuf:∀ K:yKM,(∀ t' O (L:List (Int × SlOf 2 Pt.c)) bs ck,O[1]?=some (.map (mKs L) (mVs plV L) bs ck)->PathsX p L->Slots 31 t' [(2,.mapM (d+1) 1)]->K .ret ⟨t',O⟩)->Ex (callN Ftab S (m+1)) (d+1) out2 (m+1) i74.body K ⟨t,[]⟩ from hsuf _ fun t' O L bs ck hO hL ht=>by
   simp only [ze,zg] at ht
   rw [Zs]
   refine ⟨_,_,?_,paths_fz (by omega) hO,L,rfl,hL⟩
   simp only [i74,V0,sevalprocAttr,ht]
  intro K fin
  have haf:=p.az.few
  have cmp:∀ a b,(IV.mapM a b).cells=[.mapM a b]:=fun _ _=>rfl
  simp only [i74,V0,sevalprocAttr,hfr]
  refine zd (fun jj st=>∃ (i:Nat) (L:List (Int × SlOf 2 Pt.c)) (bs:List Nat) (ck:Nat) (J:yLO),p.az.l.length - i<=jj/\i<=p.az.l.length/\(∀ a∈p.az.l.take i,(lkM nilP L a.id).l=pathL p a.id)/\st.own=.cells [p.ns.v,p.az.v,p.fs.v]::.map (mKs L) (mVs plV L) bs ck::J/\Slots 31 st.t [(1,.ptrM (d+1) 0 0),(3,.mapM (d+1) 1),(10,p.az.v),(11,iv (p.az.l.length:Nat)),(12,iv i)]) p.az.l.length (by omega) ⟨0,[],[],0,[],by omega,by omega,fun a ha=>(by simp at ha),rfl,by simp only [V0,sevalprocAttr,hfr,zg4]⟩ ?_
  clear hfr
  rintro jj ⟨t,own⟩ KA ⟨i,L,bs,ck,J,hjj,hi,hL,ho,hfr⟩ hnA heA hrA
  dsimp only at ho hfr
  subst ho
  simp only [V3] at hfr
  by_cases h:i<p.az.l.length
  ·have hx:p.az.l[i]?=some p.az.l[i]:=zf0 h
   obtain ⟨q',hq',cp⟩:=hN _ (zgt h) (m+1) (by omega)
   have hxm:=zgt h
   generalize p.az.l[i]=x at hx cp hq' hxm
   have hrd:rdN (p.az.l.flatMap Ac.c) (i*6) 6=some [.int .i64 x.id,.int .i64 x.fr,.int .i64 x.to,x.via.v,.int .i64 x.l,.int .i64 x.r]:=(zb Ac.c_len 0 6 hx (by omega)).trans rfl
   have hw:wrapI .i64 ((i:Int)+1)=((i+1:Nat):Int):=we
   simp only [Pn.c,zf] at cp
   have htk:∀ a,a∈p.az.l.take (i+1)->a∈p.az.l.take i∨a=x:=fun a ha=>by
    rw [zhb,hx] at ha
    simpa using ha
   have hpo:=(h0.nice.path hxm).1
   have hql:=hq' hpo
   obtain ⟨bs',ck',hup⟩:=upd_m (u:=plV) L bs ck x.id q'
   have hup2:=fun C n0 ownV own t a b c=>hup C (d+1) out2 n0 1 ownV own t a b c
   simp only [show plV q'=q'.v from rfl] at hup2
   simp only [V0,sevalprocAttr,hfr,h,za p.az h,hrd,cp,hpo,cond_true,show ((0:Int)==0)=true from rfl,hup2,hw]
   refine hnA _ (p.az.l.length - (i+1)) (by omega) ⟨i+1,putM L x.id q',bs',ck',_,by omega,by omega,fun a ha=>?_,rfl,by simp only [V0,sevalprocAttr,hfr,hw]⟩
   rw [lkM_put]
   by_cases he:a.id=x.id
   ·rw [if_pos he,hql,he]
   ·rw [if_neg he]
    rcases htk a ha with h1 | rfl
    ·exact hL a h1
    ·exact absurd rfl he
  ·simp only [V0,sevalprocAttr,hfr,h]
   refine heA _ _ ?_
   simp only [V0,sevalprocAttr,hfr]
   refine fin _ _ L bs ck rfl ?_ (by simp only [V0,sevalprocAttr,hfr])
   rw [zgg (by omega)] at hL
   exact hL
 obtain ⟨v,h1,L,rfl,h2⟩:=main
 exact ⟨L,h1,h2⟩
theorem paths_givesX (hT:TabCl Ftab) (hSc:SumCl S) (hS:NoS S) (p:Pn) (h0:Good0 p) (hfv:FewVia p):∃ (L:List (Int × SlOf 2 Pt.c)),PathsX p L/\∃ (N:Nat),GivesN S N 74 [.agg p.c] (.mapC (mKs L) (mVs plV L)):=by
 obtain ⟨N,hN⟩:=paths_runX hS p h0 hfv
 obtain ⟨L,h1,h2⟩:=hN N (zf7 _) 0 (fun _=>[]) [] [] 0
 refine ⟨L,h2,N,YO hT hSc (ns hS (by rfl)) rfl rfl (fun k=>?_) (ze8 L 2) h1⟩
 rw [zg3,pn_sh,zh9]
end
end
section
noncomputable def crA (a b q:Pt):Bool:=decide (a.y<=q.y)&&(decide (q.y<b.y)&&decide (0<sideI a b q))
noncomputable def crB (a b q:Pt):Bool:=decide (b.y<=q.y)&&(decide (q.y<a.y)&&decide (sideI a b q<0))
section
variable {S:ySM}
theorem encl_aX (hS:NoS S) {m D:Nat} {out:yLM} (hm:12<=m) (K:yKM) (t:List IV) (a b q:Pt) (x1 x2:IObj) (J:yLO) (ja jb:Nat) (ha:J[ja]?=some (.cells [.int .i64 a.x,.int .i64 a.y])) (hb:J[jb]?=some (.cells [.int .i64 b.x,.int .i64 b.y]))
  (hfr:Slots 56 t [(2,.ptrM D 0 0),(3,.ptrM D 1 0),(4,.ptrM D 2 0),(5,.ptrM D (ja+1+1+1) 0),(6,.ptrM D (jb+1+1+1) 0)])
  (hK:∀ t',Slots 56 t' [(2,.ptrM D 0 0),(3,.ptrM D 1 0),(4,.ptrM D 2 0),(5,.ptrM D (ja+1+1+1) 0),(6,.ptrM D (jb+1+1+1) 0),(12,.bool (crA a b q))]->K .normal ⟨t',.cells [.int .i64 q.x,.int .i64 q.y]::x1::x2::(J++[.free])⟩) :
  Ex (callN Ftab S m) D out m (i200.body.sub [1,0,1,1,0]) K ⟨t,.cells [.int .i64 q.x,.int .i64 q.y]::x1::x2::J⟩:=by
 simp only [V3] at hfr
 have fa:(J++[IObj.free])[ja]?=some (.cells [.int .i64 a.x,.int .i64 a.y]):=by rw [zf1 (zfz.1 ha).1]; exact ha
 have fb:(J++[IObj.free])[jb]?=some (.cells [.int .i64 b.x,.int .i64 b.y]):=by rw [zf1 (zfz.1 hb).1]; exact hb
 have c0:=at_side hS a b q m (by omega)
 simp only [Pt.c,zf] at c0
 cases h1:decide (a.y<=q.y)
 ·simp only [i200,IC.sub,V0,sevalprocAttr,hfr,fa,fb,h1]
  exact hK _ (by simp only [V0,sevalprocAttr,hfr,zgo,zhj,crA,h1])
 ·cases h2:decide (q.y<b.y)
  ·simp only [i200,IC.sub,V0,sevalprocAttr,hfr,fa,fb,h1,h2]
   exact hK _ (by simp only [V0,sevalprocAttr,hfr,zgo,zhj,crA,h1,h2])
  ·simp only [i200,IC.sub,V0,sevalprocAttr,hfr,fa,fb,h1,h2,c0,gt_iff_lt]
   exact hK _ (by simp only [V0,sevalprocAttr,hfr,zgo,zhj,crA,h1,h2])
theorem encl_bX (hS:NoS S) {m D:Nat} {out:yLM} (hm:12<=m) (K:yKM) (t:List IV) (a b q:Pt) (x1 x2:IObj) (J:yLO) (ja jb:Nat) (ha:J[ja]?=some (.cells [.int .i64 a.x,.int .i64 a.y])) (hb:J[jb]?=some (.cells [.int .i64 b.x,.int .i64 b.y]))
  (hfr:Slots 56 t [(2,.ptrM D 0 0),(3,.ptrM D 1 0),(4,.ptrM D 2 0),(5,.ptrM D (ja+1+1+1) 0),(6,.ptrM D (jb+1+1+1) 0)])
  (hK:∀ t',Slots 56 t' [(2,.ptrM D 0 0),(3,.ptrM D 1 0),(4,.ptrM D 2 0),(5,.ptrM D (ja+1+1+1) 0),(6,.ptrM D (jb+1+1+1) 0),(34,.bool (crB a b q))]->K .normal ⟨t',.cells [.int .i64 q.x,.int .i64 q.y]::x1::x2::(J++[.free])⟩) :
  Ex (callN Ftab S m) D out m (i200.body.sub [1,0,1,1,1,1,0]) K ⟨t,.cells [.int .i64 q.x,.int .i64 q.y]::x1::x2::J⟩:=by
 simp only [V3] at hfr
 have fa:(J++[IObj.free])[ja]?=some (.cells [.int .i64 a.x,.int .i64 a.y]):=by rw [zf1 (zfz.1 ha).1]; exact ha
 have fb:(J++[IObj.free])[jb]?=some (.cells [.int .i64 b.x,.int .i64 b.y]):=by rw [zf1 (zfz.1 hb).1]; exact hb
 have c0:=at_side hS a b q m (by omega)
 simp only [Pt.c,zf] at c0
 cases h1:decide (b.y<=q.y)
 ·simp only [i200,IC.sub,V0,sevalprocAttr,hfr,fa,fb,h1]
  exact hK _ (by simp only [V0,sevalprocAttr,hfr,zgo,zhj,crB,h1])
 ·cases h2:decide (q.y<a.y)
  ·simp only [i200,IC.sub,V0,sevalprocAttr,hfr,fa,fb,h1,h2]
   exact hK _ (by simp only [V0,sevalprocAttr,hfr,zgo,zhj,crB,h1,h2])
  ·simp only [i200,IC.sub,V0,sevalprocAttr,hfr,fa,fb,h1,h2,c0]
   exact hK _ (by simp only [V0,sevalprocAttr,hfr,zgo,zhj,crB,h1,h2])
theorem encl1_runX (hS:NoS S) {m D:Nat} {out:yLM} (hm:16<=m) (a b q:Pt) (on odd:Bool) (J ownV:yLO):∃ J',∀ id,callN Ftab S m D out ownV (.cells [.int .i64 q.x,.int .i64 q.y]::.cells [.bool on]::.cells [.bool odd]::J) id 200 [.agg [.int .i64 a.x,.int .i64 a.y],.agg [.int .i64 b.x,.int .i64 b.y],.ptrM D 0 0,.ptrM D 1 0,.ptrM D 2 0]=some (.x,.tuple [],.cells [.int .i64 q.x,.int .i64 q.y]::.cells [.bool (on||onI a b q)]::.cells [.bool (bif onI a b q then odd else xor odd (crA a b q||crB a b q))]::J'):=by
 obtain ⟨m,rfl⟩:∃ q,m=q+1:=⟨m - 1,by omega⟩
 have main:∃ v own',(∀ id,callN Ftab S (m+1) D out ownV (.cells [.int .i64 q.x,.int .i64 q.y]::.cells [.bool on]::.cells [.bool odd]::J) id 200 [.agg [.int .i64 a.x,.int .i64 a.y],.agg [.int .i64 b.x,.int .i64 b.y],.ptrM D 0 0,.ptrM D 1 0,.ptrM D 2 0]=some (.x,v,own'))/\(v=.tuple []/\∃ J',own'=.cells [.int .i64 q.x,.int .i64 q.y]::.cells [.bool (on||onI a b q)]::.cells [.bool (bif onI a b q then odd else xor odd (crA a b q||crB a b q))]::J'):=by
  refine yL (i:=i200) (ns hS (by rfl)) rfl rfl (lb rfl) fun t hfr=>?_
  simp only [V2,Xb,i200] at hfr
  suffices hsuf:∀ K:yKM,(∀ t' J',K .normal ⟨t',.cells [.int .i64 q.x,.int .i64 q.y]::.cells [.bool (on||onI a b q)]::.cells [.bool (bif onI a b q then odd else xor odd (crA a b q||crB a b q))]::J'⟩)->Ex (callN Ftab S m) D out m i200.body K ⟨t,.cells [.int .i64 q.x,.int .i64 q.y]::.cells [.bool on]::.cells [.bool odd]::J⟩ from hsuf _ fun t' J'=>by
   simp only [i200,ZC,res0]
   exact ⟨_,rfl,rfl,_,rfl⟩
  intro K fin
  have hA:=fun K t x1 x2 J ja jb ha hb hfr hK=>@encl_aX S hS m D out (by omega) K t a b q x1 x2 J ja jb ha hb hfr hK
  have hB:=fun K t x1 x2 J ja jb ha hb hfr hK=>@encl_bX S hS m D out (by omega) K t a b q x1 x2 J ja jb ha hb hfr hK
  have c0:=at_on hS a b q m (by omega)
  simp only [Pt.c,zf] at c0
  rw [show i200.body=.seq (i200.body.sub [0]) (.block 0 (.seq (i200.body.sub [1,0,0]) (.cond (.tmp 7) (i200.body.sub [1,0,1,0]) (.seq (i200.body.sub [1,0,1,1,0]) (.cond (.tmp 12) (i200.body.sub [1,0,1,1,1,0]) (.seq (i200.body.sub [1,0,1,1,1,1,0]) (i200.body.sub [1,0,1,1,1,1,1]))))))) from rfl]
  generalize i200.body.sub [1,0,1,1,0]=TA at hA ⊢
  generalize i200.body.sub [1,0,1,1,1,1,0]=TB at hB ⊢
  have g0:∀ (x:IObj) (R:yLO),(J++x::R)[J.length]?=some x:=fun x R=>by simp
  have g1:∀ (x y:IObj) (R:yLO),(J++x::y::R)[J.length+1]?=some y:=fun x y R=>by simp
  have s0:∀ (x y:IObj) (R:yLO),(J++x::R).set J.length y=J++y::R:=fun x y R=>by simp
  have s1:∀ (x y z:IObj) (R:yLO),(J++x::y::R).set (J.length+1) z=J++x::z::R:=fun x y z R=>by simp
  have fin2:∀ t' x y J',(on||onI a b q)=x->(bif onI a b q then odd else xor odd (crA a b q||crB a b q))=y->K .normal ⟨t',.cells [.int .i64 q.x,.int .i64 q.y]::.cells [.bool x]::.cells [.bool y]::J'⟩:=fun t' x y J' h1 h2=>by
   subst h1
   subst h2
   exact fin t' J'
  cases hon:onI a b q
  ·simp only [i200,IC.sub,V0,sevalprocAttr,hfr,g0,g1,s0,s1,c0,hon]
   refine hA _ _ _ _ _ J.length (J.length+1) (by simp) (by simp) (by simp only [V0,sevalprocAttr,hfr]) fun t' ht=>?_
   clear hfr
   simp only [ze,zg] at ht
   cases hcA:crA a b q
   ·rw [hcA] at ht
    simp only [V0,sevalprocAttr,ht]
    refine hB _ _ _ _ _ J.length (J.length+1) (by simp) (by simp) (by simp only [V0,sevalprocAttr,ht]) fun t2 ht2=>?_
    clear ht
    simp only [ze,zg] at ht2
    cases hcB:crB a b q
    ·rw [hcB] at ht2
     simp only [V0,sevalprocAttr,ht2]
     exact fin2 _ _ _ _ (by simp [hon]) (by simp [hon,hcA,hcB])
    ·rw [hcB] at ht2
     simp only [V0,sevalprocAttr,ht2]
     exact fin2 _ _ _ _ (by simp [hon]) (by simp [hon,hcA,hcB])
   ·rw [hcA] at ht
    simp only [V0,sevalprocAttr,ht]
    exact fin2 _ _ _ _ (by simp [hon]) (by simp [hon,hcA])
  ·simp only [i200,IC.sub,V0,sevalprocAttr,hfr,g0,g1,s0,s1,c0,hon]
   exact fin2 _ _ _ _ (by simp [hon]) (by simp [hon])
 obtain ⟨v,own',h1,rfl,J',rfl⟩:=main
 exact ⟨J',h1⟩
end
end
section
section
variable {p:Pn} (h:Good0 p)
include h
theorem Good0.dart_arc {z:Int} (hz:z∈dartsR p):∃ a∈p.az.l,absI z=a.id/\((z=a.id/\0<z)∨(z=-a.id/\z<0))/\dartOk p z=true/\pathOk p (absI z)=true/\pathL p (absI z)=lineR p a:=by
 obtain ⟨a,ha,e⟩:=h.dart_iff.1 (h.darts.1 hz)
 have hid:=h.pid a ha
 have hab:absI z=a.id:=by
  obtain ⟨g1,_⟩:=gd_abs (h.gd (h.darts.1 hz))
  have hz2:ngI z=-z:=(h.ng_dart (h.darts.1 hz)).1
  omega
 refine ⟨a,ha,hab,by omega,?_,by rw [hab]; exact (h.nice.path ha).1,by rw [hab]; exact (h.nice.path ha).2⟩
 unfold dartOk
 have e1:(z==0||z==-9223372036854775808)=false:=by
  rw [zhz,beq_eq_false_iff_ne,beq_eq_false_iff_ne]
  omega
 rw [e1,hab,show arcF p a.id=some a from yx h.nice.aid ha]
 rfl
theorem Good0.tauD_bound (hv:∀ a∈p.az.l,a.via.l.length<=900) {d:Int} (hd:d∈dartsR p):-8000000000000000<=h.net.tauD d/\h.net.tauD d<=8000000000000000:=by
 have hp:=h.path_len hd
 have hf:=h.path_few hv hd
 have hb:=Zi (h.path_pt hd) ((pathZ p d).length - 1) (by omega)
 have hb:-(8796093022208*(((pathZ p d).length - 1:Nat):Int))<=tauL (pathZ p d)/\tauL (pathZ p d)<=8796093022208*(((pathZ p d).length - 1:Nat):Int):=hb
 rw [h.tauD_path hd]
 omega
end
section
variable {S:ySM}
theorem twice_runX (hS:NoS S) (p:Pn) (h0:Good0 p) (hv:∀ a∈p.az.l,a.via.l.length<=900) (hfv:FewVia p) (c:SlOf 1 intc) (hcd:∀ z∈c.l,z∈dartsR p) (hcl:c.l.length<=512):∃ N,∀ m,N<=m->∀ d out ownV own id,callN Ftab S m d out ownV own id 119 [.agg p.c,c.v]=some (.r,.int .i64 (h0.net.twX c.l),own):=by
 obtain ⟨N,hN⟩:=Yv c.l fun z _=>dart_calls hS p hfv z
 refine ⟨N+c.l.length+200000,fun m hm d out ownV own id=>?_⟩
 obtain ⟨m,rfl⟩:∃ q,m=q+2:=⟨m - 2,by omega⟩
 have main:∃ v,callN Ftab S (m+1+1) d out ownV own id 119 [.agg p.c,c.v]=some (.r,v,own)/\v=.int .i64 (h0.net.twX c.l):=by
  refine ZV (i:=i119) (ns hS (by rfl)) rfl rfl (lb rfl) fun t hfr=>?_
  simp only [V2,Xb,i119,Pn.c] at hfr
  generalize (fun l=>if l=d then ownV else out l:yLM)=out2
  suffices hsuf:∀ K:yKM,(∀ t' O,Slots 84 t' [(4,.int .i64 (h0.net.twX c.l))]->K .ret ⟨t',O⟩)->Ex (callN Ftab S (m+1)) (d+1) out2 (m+1) i119.body K ⟨t,[]⟩ from hsuf _ fun t' O ht=>by
   simp only [ze,zg] at ht
   rw [Zs]
   refine ⟨.int .i64 (h0.net.twX c.l),.int .i64 (h0.net.twX c.l),?_,rfl,rfl⟩
   simp only [i119,V0,sevalprocAttr,ht]
  intro K fin
  have hcf:=c.few
  have hab:∀ z:Int,(if wrapI .i64 (0 - z) > z then wrapI .i64 (0 - z) else z)=absI z:=fun _=>rfl
  have hb:decide ((512:Int)<(c.l.length:Int))=false:=decide_eq_false (by omega)
  have d0:(0:Int)=sm h0.net.tauD (c.l.take 0):=by rw [zis]; rfl
  simp only [i119,V0,sevalprocAttr,hfr,gt_iff_lt,hb]
  refine zd (fun jj st=>∃ (i:Nat) (n:Int) (J:yLO),c.l.length - i<=jj/\i<=c.l.length/\n=sm h0.net.tauD (c.l.take i)/\st.own=.cells [p.ns.v,p.az.v,p.fs.v]::J/\Slots 84 st.t [(1,c.v),(2,.ptrM (d+1) 0 0),(4,.int .i64 n),(16,c.v),(17,iv (c.l.length:Nat)),(18,iv i)]) c.l.length (by omega) ⟨0,0,[],by omega,by omega,d0,rfl,by simp only [V0,sevalprocAttr,hfr,zg4]⟩ ?_
  clear hfr
  rintro jj ⟨t,own⟩ KA ⟨i,n,J,hjj,hi,hn,ho,hfr⟩ hnA heA hrA
  dsimp only at ho hfr
  subst ho
  simp only [V3] at hfr
  by_cases h:i<c.l.length
  ·have hx:c.l[i]?=some c.l[i]:=zf0 h
   have hzD:=hcd _ (zgt h)
   obtain ⟨a,q',hq',ca,cp⟩:=hN _ (zgt h) (m+1) (by omega)
   generalize c.l[i]=z at hx ca cp hq' hzD
   obtain ⟨a0,ha0,haz,hsgn,hd,hpo,hpl⟩:=h0.dart_arc hzD
   have hrd:rdN (c.l.flatMap intc) (i*1) 1=some [.int .i64 z]:=(zb zk 0 1 hx (by omega)).trans rfl
   have hw:wrapI .i64 ((i:Int)+1)=((i+1:Nat):Int):=we
   simp only [Pn.c,Ac.c,zf] at ca cp
   have hg:∀ k,J.length+(k+1)=J.length+k+1:=fun k=>rfl
   have hql:=hq' hpo
   rw [hpl] at hql
   have hl2:=zF (p:=p) (a:=a0)
   have hlf:(lineR p a0).length<=902:=by
    have:=hv a0 ha0
    unfold lineR
    rw [zf3,zga,zf3,zgb]
    omega
   have hnear:=h0.line_pt ha0
   rw [← hql] at hl2 hlf hnear
   have hqf:=q'.few
   have hw1:wrapI .i64 ((q'.l.length:Int) - 1)=((q'.l.length - 1:Nat):Int):=we
   have hnb:=zbr (f:=h0.net.tauD) (B:=8000000000000000) (l:=c.l.take i) fun x hx=>h0.tauD_bound hv (hcd x (List.mem_of_mem_take hx))
   rw [zhx,Nat.min_eq_left (by omega),← hn] at hnb
   have e0:(0:Int)=sm (fun j=>crs (q'.l.getD j zPt) (q'.l.getD (j+1) zPt)) (List.range 0):=rfl
   simp only [V0,sevalprocAttr,hfr,h,za c h,hrd,ca,hd,hab,cp,hpo,cond_true,show ((0:Int) != 0)=false from rfl,hw1]
   refine zd (fun jj st=>∃ (k:Nat) (s:Int) (J:yLO),q'.l.length - 1 - k<=jj/\k<=q'.l.length - 1/\s=sm (fun j=>crs (q'.l.getD j zPt) (q'.l.getD (j+1) zPt)) (List.range k)/\st.own=.cells [p.ns.v,p.az.v,p.fs.v]::J/\Slots 84 st.t [(1,c.v),(2,.ptrM (d+1) 0 0),(4,.int .i64 n),(6,.int .i64 z),(9,q'.v),(11,.int .i64 s),(16,c.v),(17,iv (c.l.length:Nat)),(18,iv i),(43,iv (q'.l.length - 1:Nat)),(44,iv k)]) (q'.l.length - 1) (by omega) ⟨0,0,_,by omega,by omega,e0,rfl,by simp only [V0,sevalprocAttr,hfr,hw1,zg4]⟩ ?_
   clear hfr
   rintro jj ⟨t,own⟩ KB ⟨k,s,J,hjj2,hk,hs,ho,hfr⟩ hnB heB hrB
   dsimp only at ho hfr
   subst ho
   simp only [V3] at hfr
   have hsb:=Zi hnear k (by omega)
   rw [← hs] at hsb
   by_cases h2:k<q'.l.length - 1
   ·have h3:k<q'.l.length:=by omega
    have h4:k+1<q'.l.length:=by omega
    have hx1:q'.l[k]?=some (q'.l.getD k zPt):=by rw [zf8,zf0 h3]; rfl
    have hx2:q'.l[k+1]?=some (q'.l.getD (k+1) zPt):=by rw [zf8,zf0 h4]; rfl
    have hsum:sm (fun j=>crs (q'.l.getD j zPt) (q'.l.getD (j+1) zPt)) (List.range (k+1))=s+crs (q'.l.getD k zPt) (q'.l.getD (k+1) zPt):=by
     rw [List.range_succ,zu,← hs]
     simp only [sm]
     omega
    have n1:=hnear _ (zB h3)
    have n2:=hnear _ (zB h4)
    generalize q'.l.getD k zPt=y1 at hx1 hsum n1
    generalize q'.l.getD (k+1) zPt=y2 at hx2 hsum n2
    have r10:rdN (q'.l.flatMap Pt.c) (k*2) 1=some [.int .i64 y1.x]:=(zb Pt.c_len 0 1 hx1 (by omega)).trans rfl
    have r11:rdN (q'.l.flatMap Pt.c) (k*2+1) 1=some [.int .i64 y1.y]:=(zb Pt.c_len 1 1 hx1 (by omega)).trans rfl
    have r20:rdN (q'.l.flatMap Pt.c) ((k+1)*2) 1=some [.int .i64 y2.x]:=(zb Pt.c_len 0 1 hx2 (by omega)).trans rfl
    have r21:rdN (q'.l.flatMap Pt.c) ((k+1)*2+1) 1=some [.int .i64 y2.y]:=(zb Pt.c_len 1 1 hx2 (by omega)).trans rfl
    have hwk:wrapI .i64 ((k:Int)+1)=((k+1:Nat):Int):=we
    have hstep:wrapI .i64 (s+wrapI .i64 (wrapI .i64 (y1.x*y2.y) - wrapI .i64 (y2.x*y1.y)))=s+crs y1 y2:=by
     have cb:=zcn n1 n2
     obtain ⟨q1,q2,q3,q4⟩:=n1
     obtain ⟨g1,g2,g3,g4⟩:=n2
     obtain ⟨m1,m2⟩:=ZK (a:=y1.x) (b:=y2.y) (k:=2097152) (by omega) (by omega) (by omega) (by omega)
     obtain ⟨m3,m4⟩:=ZK (a:=y2.x) (b:=y1.y) (k:=2097152) (by omega) (by omega) (by omega) (by omega)
     unfold crs at cb ⊢
     generalize y1.x*y2.y=u at *
     generalize y2.x*y1.y=v at *
     rw [zA (x:=u) (by omega) (by omega),zA (x:=v) (by omega) (by omega),zA (x:=u - v) (by omega) (by omega),zA (by omega) (by omega)]
    simp only [V0,sevalprocAttr,hfr,h2,za q' h3,za q' h4,r10,r11,r20,r21,hwk]
    refine ⟨by simp [comm],?_⟩
    simp only [V0,sevalprocAttr,hfr,hwk]
    exact hnB _ (q'.l.length - 1 - (k+1)) (by omega) ⟨k+1,wrapI .i64 (s+wrapI .i64 (wrapI .i64 (y1.x*y2.y) - wrapI .i64 (y2.x*y1.y))),_,by omega,by omega,by rw [hstep,hsum],rfl,by simp only [V0,sevalprocAttr,hfr,hwk]⟩
   ·simp only [V0,sevalprocAttr,hfr,h2]
    refine heB _ _ ?_
    have hke:k=q'.l.length - 1:=by omega
    have hst:s=h0.net.tauD a0.id:=by
     rw [hs,hke,h0.tauD_path (h0.darts.2 (h0.dart_iff.2 ⟨a0,ha0,.inl rfl⟩)),h0.path_pos ha0,hql]
     rfl
    have htk:sm h0.net.tauD (c.l.take (i+1))=n+h0.net.tauD z:=by
     rw [zhb,hx,zhq,zu,← hn]
     simp only [sm]
     omega
    have htb:=h0.tauD_bound hv hzD
    have hid:=h0.pid a0 ha0
    cases hz:decide (z<0)
    ·have hz1:z=a0.id:=by have:=of_decide_eq_false hz; omega
     have hval:wrapI .i64 (n+s)=n+h0.net.tauD z:=by
      rw [hst,← hz1]
      exact zX rfl (by omega) (by omega)
     simp only [V0,sevalprocAttr,hfr,hz,hw]
     exact hnA _ (c.l.length - (i+1)) (by omega) ⟨i+1,wrapI .i64 (n+s),_,by omega,by omega,by rw [hval,htk],rfl,by simp only [V0,sevalprocAttr,hfr,hw]⟩
    ·have hz1:z=-a0.id:=by have:=of_decide_eq_true hz; omega
     have hneg:=h0.tau_neg ha0
     rw [← hz1] at hneg
     have hval:wrapI .i64 (n+wrapI .i64 (0 - s))=n+h0.net.tauD z:=by
      rw [zA (x:=0 - s) (by omega) (by omega),show (0:Int) - s=h0.net.tauD z by omega]
      exact zX rfl (by omega) (by omega)
     simp only [V0,sevalprocAttr,hfr,hz,hw]
     exact hnA _ (c.l.length - (i+1)) (by omega) ⟨i+1,wrapI .i64 (n+wrapI .i64 (0 - s)),_,by omega,by omega,by rw [hval,htk],rfl,by simp only [V0,sevalprocAttr,hfr,hw]⟩
  ·simp only [V0,sevalprocAttr,hfr,h]
   refine heA _ _ ?_
   simp only [V0,sevalprocAttr,hfr]
   rw [zgg (by omega)] at hn
   have hn:n=h0.net.twX c.l:=hn
   exact fin _ _ (by simp only [V0,sevalprocAttr,hfr,hn])
 obtain ⟨v,h1,rfl⟩:=main
 exact h1
end
end
section
theorem side_eqX {a b q:Pt} (ha:a.near) (hb:b.near) (hq:q.near):sideI a b q=bif decide (0<tw a b q) then 1 else bif decide (tw a b q<0) then -1 else 0:=by
 have hall:[a,b,q].all nearP=true:=by
  rw [zhr,zhr,zhr,zG ha,zG hb,zG hq]
  rfl
 unfold sideI twG
 rw [hall,cond_true,zab (zG ha) (zG hb) (zG hq),← Y0]
theorem cr_eq {a b q:Pt} (ha:a.near) (hb:b.near) (hq:q.near):(crA a b q||crB a b q)=crossI a b q:=by
 rw [zhi,YU ha hb hq]
 have hs:decide (0<sideI a b q)=decide (0<tw a b q)/\decide (sideI a b q<0)=decide (tw a b q<0):=by
  rw [side_eqX ha hb hq]
  by_cases h1:0<tw a b q
  ·have h2:¬ tw a b q<0:=by omega
   simp [h1,h2]
  ·by_cases h2:tw a b q<0 <;> simp [h1,h2]
 unfold crA crB
 rw [hs.1,hs.2]
 simp only [zha,zf6,decide_eq_true_eq]
 omega
theorem onI_eq {a b q:Pt} (ha:a.near) (hb:b.near) (hq:q.near):onI a b q=on10 a b q:=by
 have hall:[a,b,q].all nearP=true:=by
  rw [zhr,zhr,zhr,zG ha,zG hb,zG hq]
  rfl
 unfold onI on10
 rw [hall,s10_zero ha hb hq,zab (zG ha) (zG hb) (zG hq),← Y0,zhj]
 congr 1
def EnOK (l:List Pt) (q:Pt) (on0 odd0:Bool) (k:Nat) (on odd:Bool):Prop:=on=(on0||onTo l q k)/\(on=false->odd=oddTo l q odd0 k)
theorem EnOK.step {l:List Pt} {q:Pt} {on0 odd0 on odd:Bool} {k:Nat} (h:EnOK l q on0 odd0 k on odd) {a b:Pt} (ha:l[k]?=some a) (hb:l[k+1]?=some b) (na:a.near) (nb:b.near) (nq:q.near):EnOK l q on0 odd0 (k+1) (on||onI a b q) (bif onI a b q then odd else xor odd (crA a b q||crB a b q)):=by
 obtain ⟨h1,h2⟩:=h
 have e1:onTo l q (k+1)=(onTo l q k||on10 a b q):=by
  show (onTo l q k||match l[k]?,l[k+1]? with | some a,some b=>on10 a b q | _,_=>false)=_
  rw [ha,hb]
 have e2:oddTo l q odd0 (k+1)=xor (oddTo l q odd0 k) (crossI a b q):=by
  show (match l[k]?,l[k+1]? with | some a,some b=>xor (oddTo l q odd0 k) (crossI a b q) | _,_=>oddTo l q odd0 k)=_
  rw [ha,hb]
 rw [onI_eq na nb nq,cr_eq na nb nq]
 refine ⟨by rw [e1,h1,Bool.or_assoc],fun h=>?_⟩
 rw [zhz] at h
 rw [h.2,cond_false,e2,h2 h.1]
theorem b2_inj {a b:Bool} (h:b2 a % 2=b2 b % 2):a=b:=by cases a <;> cases b <;> first | rfl | (simp [b2] at h)
section
variable {p:Pn} (h:Good0 p)
include h
theorem Good0.odd_dart {a:Ac} (ha:a∈p.az.l) {d:Int} (hd:d=a.id∨d=-a.id) {q:Pt} (hq:q.near) (o:Bool):oddP (pathZ p d) q o=oddP (lineR p a) q o:=by
 have h2:=zF (p:=p) (a:=a)
 have hl:2<=(pathZ p d).length:=h.path_len (h.darts.2 (h.dart_iff.2 ⟨a,ha,hd⟩))
 refine b2_inj ?_
 rw [zfq (by omega),zfq (by omega),h.cnt_dart ha hd hq]
end
section
variable {S:ySM}
theorem encl1_anyX (hS:NoS S) {m D:Nat} {out:yLM} (hm:16<=m) (a b q:Pt) (on odd:Bool) (J:yLO):∃ J',∀ ownV id,callN Ftab S m D out ownV (.cells [.int .i64 q.x,.int .i64 q.y]::.cells [.bool on]::.cells [.bool odd]::J) id 200 [.agg [.int .i64 a.x,.int .i64 a.y],.agg [.int .i64 b.x,.int .i64 b.y],.ptrM D 0 0,.ptrM D 1 0,.ptrM D 2 0]=some (.x,.tuple [],.cells [.int .i64 q.x,.int .i64 q.y]::.cells [.bool (on||onI a b q)]::.cells [.bool (bif onI a b q then odd else xor odd (crA a b q||crB a b q))]::J'):=by
 obtain ⟨J',h⟩:=encl1_runX (D:=D) (out:=out) hS hm a b q on odd J []
 exact ⟨J',fun ownV id=>(yE (ns hS (by rfl)) rfl rfl).trans (h 0)⟩
theorem segs_runX (hS:NoS S) (p:Pn) (h0:Good0 p) {m D:Nat} {out:yLM} (c:SlOf 1 intc) (hcd:∀ z∈c.l,z∈dartsR p) (L:List (Int × SlOf 2 Pt.c)) (hL:PathsX p L) (B:Nat) (hB:∀ kv∈L,kv.2.l.length<=B) (hm:c.l.length+B+20<=m) (q:Pt) (hq:q.near) (J:yLO):∃ on odd J',(on=(c.l.any fun z=>onP (pathZ p z) q)/\(on=false->odd=c.l.foldl (fun o z=>oddP (pathZ p z) q o) false))/\∀ ownV id,callN Ftab S m D out ownV (.cells [.int .i64 q.x,.int .i64 q.y]::.cells [.bool false]::.cells [.bool false]::J) id 199 [.mapC (mKs L) (mVs plV L),c.v,.fn 200 [] [.ptrM D 0 0,.ptrM D 1 0,.ptrM D 2 0]]=some (.x,.tuple [],.cells [.int .i64 q.x,.int .i64 q.y]::.cells [.bool on]::.cells [.bool odd]::J'):=by
 obtain ⟨m,rfl⟩:∃ q,m=q+1:=⟨m - 1,by omega⟩
 have main:∃ v own',(∀ id,callN Ftab S (m+1) D out [] (.cells [.int .i64 q.x,.int .i64 q.y]::.cells [.bool false]::.cells [.bool false]::J) id 199 [.mapC (mKs L) (mVs plV L),c.v,.fn 200 [] [.ptrM D 0 0,.ptrM D 1 0,.ptrM D 2 0]]=some (.x,v,own'))/\(v=.tuple []/\∃ on odd J',(on=(c.l.any fun z=>onP (pathZ p z) q)/\(on=false->odd=c.l.foldl (fun o z=>oddP (pathZ p z) q o) false))/\own'=.cells [.int .i64 q.x,.int .i64 q.y]::.cells [.bool on]::.cells [.bool odd]::J'):=by
  refine yL (i:=i199) (ns hS (by rfl)) rfl rfl (lb rfl) fun t hfr=>?_
  simp only [V2,Xb,i199] at hfr
  have hcf:=c.few
  have hab:∀ z:Int,(if wrapI .i64 (0 - z) > z then wrapI .i64 (0 - z) else z)=absI z:=fun _=>rfl
  simp only [i199,V0,sevalprocAttr,hfr]
  refine zd (fun jj st=>∃ (i:Nat) (on odd:Bool) (J:yLO),c.l.length - i<=jj/\i<=c.l.length/\(on=((c.l.take i).any fun z=>onP (pathZ p z) q)/\(on=false->odd=(c.l.take i).foldl (fun o z=>oddP (pathZ p z) q o) false))/\st.own=.cells [.int .i64 q.x,.int .i64 q.y]::.cells [.bool on]::.cells [.bool odd]::J/\Slots 40 st.t [(0,.mapC (mKs L) (mVs plV L)),(2,.fn 200 [] [.ptrM D 0 0,.ptrM D 1 0,.ptrM D 2 0]),(10,c.v),(11,iv (c.l.length:Nat)),(12,iv i)]) c.l.length (by omega) ⟨0,false,false,J,by omega,by omega,by rw [zis]; exact ⟨rfl,fun _=>rfl⟩,rfl,by simp only [V0,sevalprocAttr,hfr,zg4]⟩ ?_
  clear hfr
  rintro jj ⟨t,own⟩ KA ⟨i,on,odd,J,hjj,hi,hE,ho,hfr⟩ hnA heA hrA
  dsimp only at ho hfr
  subst ho
  simp only [V3] at hfr
  by_cases h:i<c.l.length
  ·have hx:c.l[i]?=some c.l[i]:=zf0 h
   have hzD:=hcd _ (zgt h)
   generalize c.l[i]=z at hx hzD
   obtain ⟨a0,ha0,haz,hsgn,_,hpo,hpl⟩:=h0.dart_arc hzD
   have hrd:rdN (c.l.flatMap intc) (i*1) 1=some [.int .i64 z]:=(zb zk 0 1 hx (by omega)).trans rfl
   have hw:wrapI .i64 ((i:Int)+1)=((i+1:Nat):Int):=we
   have evL:∀ (C:Call) (n0:Nat) (ownV own:yLO) (t:List IV) (a b:Opd),ρ t a=.mapC (mKs L) (mVs plV L)->ρ t b=.int .i64 (absI z)->evOp C D out n0 ownV own t (.lookup .nilsl (false,[1]) false a b)=some (.p,(lkM nilP L (absI z)).v,own):=fun C n0 ownV own t a b h1 h2=>ev_lookC (u:=plV) nilP (absI z) rfl h1 h2
   have hpB:(lkM nilP L (absI z)).l.length<=B:=by
    rcases lkM_mem (z:=nilP) (L:=L) (id:=absI z) with h | h
    ·rw [h]; exact Nat.zero_le _
    ·obtain ⟨kv,hkv,he⟩:=zgx.1 h
     rw [← he]
     exact hB kv hkv
   have hpal:(lkM nilP L (absI z)).l=lineR p a0:=by
    rw [haz]
    exact (hL a0 ha0).trans (h0.nice.path ha0).2
   generalize lkM nilP L (absI z)=pa at evL hpB hpal
   have hpf:=pa.few
   have hnear:=h0.line_pt ha0
   have h2l:=zF (p:=p) (a:=a0)
   rw [← hpal] at hnear h2l
   have hEs:EnOK pa.l q on odd 0 on odd:=⟨by simp [onTo],fun _=>rfl⟩
   simp only [V0,sevalprocAttr,hfr,h,za c h,hrd,hab,evL]
   refine zd (fun jj st=>∃ (k:Nat) (on' odd':Bool) (J:yLO),pa.l.length+1 - k<=jj/\1<=k/\k<=pa.l.length/\EnOK pa.l q on odd (k - 1) on' odd'/\st.own=.cells [.int .i64 q.x,.int .i64 q.y]::.cells [.bool on']::.cells [.bool odd']::J/\Slots 40 st.t [(0,.mapC (mKs L) (mVs plV L)),(2,.fn 200 [] [.ptrM D 0 0,.ptrM D 1 0,.ptrM D 2 0]),(8,pa.v),(9,iv k),(10,c.v),(11,iv (c.l.length:Nat)),(12,iv i)]) (pa.l.length+1) (by omega) ⟨1,on,odd,J,by omega,by omega,by omega,hEs,rfl,by simp only [V0,sevalprocAttr,hfr,Int.natCast_one]⟩ ?_
   clear hfr
   rintro jj ⟨t,own⟩ KB ⟨k,on',odd',J,hjj2,hk1,hk,hEn,ho,hfr⟩ hnB heB hrB
   dsimp only at ho hfr
   subst ho
   simp only [V3] at hfr
   by_cases h2:k<pa.l.length
   ·have h3:k - 1<pa.l.length:=by omega
    have hx1:pa.l[k - 1]?=some pa.l[k - 1]:=zf0 h3
    have hx2:pa.l[k]?=some pa.l[k]:=zf0 h2
    have n1:=hnear _ (zgt h3)
    have n2:=hnear _ (zgt h2)
    generalize pa.l[k - 1]=y1 at hx1 n1
    generalize pa.l[k]=y2 at hx2 n2
    have r1:rdN (pa.l.flatMap Pt.c) ((k - 1)*2) 2=some [.int .i64 y1.x,.int .i64 y1.y]:=(zb Pt.c_len 0 2 hx1 (by omega)).trans rfl
    have r2:rdN (pa.l.flatMap Pt.c) (k*2) 2=some [.int .i64 y2.x,.int .i64 y2.y]:=(zb Pt.c_len 0 2 hx2 (by omega)).trans rfl
    have hwk:wrapI .i64 ((k:Int)+1)=((k+1:Nat):Int):=we
    have hwm:wrapI .i64 ((k:Int) - 1)=((k - 1:Nat):Int):=we
    obtain ⟨J',hc⟩:=encl1_anyX (D:=D) (out:=out) hS (m:=m) (by omega) y1 y2 q on' odd' (J++[.free])
    have hst:=hEn.step hx1 (by rw [show k - 1+1=k by omega]; exact hx2) n1 n2 hq
    rw [show k - 1+1=k+1 - 1 by omega] at hst
    simp only [V0,sevalprocAttr,hfr,h2,za pa h2,za pa h3,r1,r2,hwm,hc]
    refine ⟨by simp [comm],?_⟩
    simp only [V0,sevalprocAttr,hfr,hwk]
    exact hnB _ (pa.l.length+1 - (k+1)) (by omega) ⟨k+1,_,_,J',by omega,by omega,by omega,hst,rfl,by simp only [V0,sevalprocAttr,hfr,hwk]⟩
   ·simp only [V0,sevalprocAttr,hfr,h2]
    refine heB _ _ ?_
    simp only [V0,sevalprocAttr,hfr,hw]
    refine hnA _ (c.l.length - (i+1)) (by omega) ⟨i+1,on',odd',J,by omega,by omega,?_,rfl,by simp only [V0,sevalprocAttr,hfr,hw]⟩
    have hke:k=pa.l.length:=by omega
    rw [hke] at hEn
    obtain ⟨g1,g2⟩:=hEn
    have hzz:z=a0.id∨z=-a0.id:=by omega
    have o1:onP (pathZ p z) q=onTo pa.l q (pa.l.length - 1):=by rw [h0.on_dart ha0 hzz hq,hpal]; rfl
    have o2:∀ o,oddP (pathZ p z) q o=oddTo pa.l q o (pa.l.length - 1):=fun o=>by rw [h0.odd_dart ha0 hzz hq,hpal]; rfl
    have htk:c.l.take (i+1)=c.l.take i++[z]:=by rw [zhb,hx]; rfl
    rw [htk,List.any_append,List.foldl_append]
    simp only [List.any_cons,List.any_nil,Bool.or_false,List.foldl_cons,List.foldl_nil]
    rw [o1,o2,← hE.1]
    refine ⟨g1,fun hf=>?_⟩
    have hon:on=false:=by
     rw [hf] at g1
     have:=(zhz.1 g1.symm).1
     exact this
    rw [g2 hf,← hE.2 hon]
  ·simp only [V0,sevalprocAttr,hfr,h]
   refine heA _ _ ?_
   simp only [V0,sevalprocAttr,hfr,ZC,res0]
   rw [zgg (by omega)] at hE
   exact ⟨_,rfl,rfl,on,odd,J,hE,rfl⟩
 obtain ⟨v,own',h1,rfl,on',odd',J',hE,rfl⟩:=main
 exact ⟨on',odd',J',hE,fun ownV id=>(yE (ns hS (by rfl)) rfl rfl).trans (h1 0)⟩
theorem encl_runX (hS:NoS S) (p:Pn) (h0:Good0 p) (c:SlOf 1 intc) (hcd:∀ z∈c.l,z∈dartsR p) (L:List (Int × SlOf 2 Pt.c)) (hL:PathsX p L) (q:Pt) (hq:q.near):∃ N,∀ m,N<=m->∀ d out ownV own id,callN Ftab S m d out ownV own id 157 [.mapC (mKs L) (mVs plV L),c.v,.agg q.c]=some (.r,.bool (insideR p c.l q),own):=by
 obtain ⟨B,hB⟩:=paths_few L
 refine ⟨c.l.length+B+30,fun m hm d out ownV own id=>?_⟩
 obtain ⟨m,rfl⟩:∃ q,m=q+2:=⟨m - 2,by omega⟩
 have main:∃ v,callN Ftab S (m+1+1) d out ownV own id 157 [.mapC (mKs L) (mVs plV L),c.v,.agg q.c]=some (.r,v,own)/\v=.bool (insideR p c.l q):=by
  refine ZV (i:=i157) (ns hS (by rfl)) rfl rfl (lb rfl) fun t hfr=>?_
  simp only [V2,Xb,i157,Pt.c,zf] at hfr
  generalize (fun l=>if l=d then ownV else out l:yLM)=out2
  suffices hsuf:∀ K:yKM,(∀ t' O (b:Bool),b=insideR p c.l q->Slots 18 t' [(6,.bool b)]->K .ret ⟨t',O⟩)->Ex (callN Ftab S (m+1)) (d+1) out2 (m+1) i157.body K ⟨t,[]⟩ from hsuf _ fun t' O b hb ht=>by
   simp only [ze,zg] at ht
   rw [Zs]
   refine ⟨.bool b,.bool b,?_,rfl,by rw [hb]⟩
   simp only [i157,V0,sevalprocAttr,ht]
  intro K fin
  obtain ⟨on',odd',J',⟨hE1,hE2⟩,hc⟩:=segs_runX (D:=d+1) (out:=out2) hS p h0 (m:=m+1) c hcd L hL B hB (by omega) q hq [.free]
  have hin:insideR p c.l q=(!on'&&odd'):=by
   unfold insideR
   rw [← hE1]
   cases on'
   ·rw [← hE2 rfl]
   ·rfl
  cases odd'
  ·simp only [i157,V0,sevalprocAttr,hfr,hc]
   exact fin _ _ false (by rw [hin,zh3]) (by simp only [V0,sevalprocAttr,hfr])
  ·simp only [i157,V0,sevalprocAttr,hfr,hc]
   exact fin _ _ (!on') (by rw [hin,Bool.and_true]) (by simp only [V0,sevalprocAttr,hfr])
 obtain ⟨v,h1,rfl⟩:=main
 exact h1
end
end
section
noncomputable def fdX (p:Pn) (A:List ArB) (q:Pt):Nat:=(1+arTo (fun i=>insideR p (((A[i+1]?).map fun a=>a.oc.l).getD []) q) (fun i=>((A[i+1]?).map ArB.tw).getD 0) (A.length - 1)).toNat
theorem fdX_lt {p:Pn} {A:List ArB} {q:Pt} (h:A≠[]):fdX p A q<A.length:=by
 have h1:=zbo (ins:=fun i=>insideR p (((A[i+1]?).map fun a=>a.oc.l).getD []) q) (tw:=fun i=>((A[i+1]?).map ArB.tw).getD 0) (A.length - 1)
 have h2:0<A.length:=List.length_pos_iff.2 h
 unfold fdX
 omega
section
variable {S:ySM}
theorem find_runX (hS:NoS S) (p:Pn) (hg:Good0 p) (U:List (SlOf 1 intc)) (hUd:∀ c∈U,∀ z∈c.l,z∈dartsR p) (L:List (Int × SlOf 2 Pt.c)) (hL:PathsX p L) (q:Pt) (hq:q.near):∃ N,∀ (A:List ArB) m,N+A.length<=m->A≠[]->A.length<=1000000->(∀ a∈A,a.oc∈U)->∀ D out ownV own id b,ownV[b]?=some (.cells (A.flatMap arG)) ->
  callN Ftab S m D out ownV own id 120 [.mapC (mKs L) (mVs plV L),.slM D b 0 A.length A.length 4 false,.agg q.c]=some (.r,.int .i64 (fdX p A q:Nat),own):=by
 have hcall:∀ c∈U,∃ N,∀ m,N<=m->∀ d out ownV own id,callN Ftab S m d out ownV own id 157 [.mapC (mKs L) (mVs plV L),c.v,.agg q.c]=some (.r,.bool (insideR p c.l q),own):=fun c hc=>by
  exact encl_runX hS p hg c (hUd c hc) L hL q hq
 obtain ⟨N,hN⟩:=Yv U hcall
 refine ⟨N+10,fun A m hm hA0 hAl hAU d out ownV own id b hb=>?_⟩
 obtain ⟨m,rfl⟩:∃ q,m=q+2:=⟨m - 2,by omega⟩
 have hA1:1<=A.length:=by
  cases A with
  | nil=>exact absurd rfl hA0
  | cons _ _=>simp
 have main:∃ v,callN Ftab S (m+1+1) d out ownV own id 120 [.mapC (mKs L) (mVs plV L),.slM d b 0 A.length A.length 4 false,.agg q.c]=some (.r,v,own)/\v=.int .i64 (fdX p A q:Nat):=by
  refine ZV (i:=i120) (ns hS (by rfl)) rfl rfl (lb rfl) fun t hfr=>?_
  simp only [V2,Xb,i120,Pt.c,zf] at hfr
  have ho2:(fun l=>if l=d then ownV else out l:yLM) d=ownV:=if_pos rfl
  generalize (fun l=>if l=d then ownV else out l:yLM)=out2 at ho2
  suffices hsuf:∀ K:yKM,(∀ t' O,Slots 42 t' [(6,iv (fdX p A q:Nat))]->K .ret ⟨t',O⟩)->Ex (callN Ftab S (m+1)) (d+1) out2 (m+1) i120.body K ⟨t,[]⟩ from hsuf _ fun t' O ht=>by
   simp only [ze,zg] at ht
   rw [Zs]
   refine ⟨iv (fdX p A q:Nat),iv (fdX p A q:Nat),?_,rfl,rfl⟩
   simp only [i120,V0,sevalprocAttr,ht]
  intro K fin
  generalize hins:(fun i=>insideR p (((A[i+1]?).map fun a=>a.oc.l).getD []) q)=ins
  generalize htwf:(fun i=>((A[i+1]?).map ArB.tw).getD 0)=twf
  have hfd:fdX p A q=(1+arTo ins twf (A.length - 1)).toNat:=by rw [← hins,← htwf]; rfl
  have e1:(d=d+1)=False:=eq_false (by omega)
  have e2:(d<d+1)=True:=eq_true (by omega)
  simp only [i120,V0,sevalprocAttr,hfr]
  refine zd (fun jj st=>∃ (i best:Nat) (J:yLO),A.length - i<=jj/\1<=i/\i<=A.length/\(best:Int)=1+arTo ins twf (i - 1)/\st.own=.cells [.int .i64 q.x,.int .i64 q.y]::J/\Slots 42 st.t [(0,.mapC (mKs L) (mVs plV L)),(1,.slM d b 0 A.length A.length 4 false),(5,.ptrM (d+1) 0 0),(7,iv best),(8,iv i)]) A.length (by omega) ⟨1,0,[],by omega,by omega,by omega,by simp [arTo],rfl,by simp only [V0,sevalprocAttr,hfr,zg4,Int.natCast_one]⟩ ?_
  clear hfr
  rintro jj ⟨t,own⟩ KA ⟨i,best,J,hjj,hi1,hi,hbx,ho,hfr⟩ hnA heA hrA
  dsimp only at ho hfr
  subst ho
  simp only [V3] at hfr
  have hale:=zbo (ins:=ins) (tw:=twf) (i - 1)
  have hbest:best<A.length:=by omega
  by_cases h:i<A.length
  ·have hx:A[i]?=some A[i]:=zf0 h
   have hc:=hN _ (hAU _ (zgt h)) (m+1) (by omega)
   generalize A[i]=x at hx hc
   obtain ⟨y,hx2⟩:=gx (l:=A) (i:=best) hbest
   have hstep:arTo ins twf (i - 1+1)=if (insideR p x.oc.l q&&(((best:Int)==0)||decide (x.tw<y.tw)))=true then ((i - 1:Nat):Int) else arTo ins twf (i - 1):=by
    have g1:ins (i - 1)=insideR p x.oc.l q:=by rw [← hins]; show insideR p (((A[i - 1+1]?).map fun a=>a.oc.l).getD []) q=_; rw [show i - 1+1=i by omega,hx]; rfl
    have g2:twf (i - 1)=x.tw:=by rw [← htwf]; show ((A[i - 1+1]?).map ArB.tw).getD 0=_; rw [show i - 1+1=i by omega,hx]; rfl
    show (if (ins (i - 1)&&(decide (arTo ins twf (i - 1)<0)||decide (twf (i - 1)<twf (arTo ins twf (i - 1)).toNat)))=true then ((i - 1:Nat):Int) else arTo ins twf (i - 1))=_
    rw [g1,g2]
    by_cases hb0:best=0
    ·have c1:decide (arTo ins twf (i - 1)<0)=true:=decide_eq_true (by omega)
     have c2:((best:Int)==0)=true:=by rw [hb0]; rfl
     rw [c1,c2,zhu,zhu]
    ·have c1:decide (arTo ins twf (i - 1)<0)=false:=decide_eq_false (by omega)
     have c2:((best:Int)==0)=false:=by rw [beq_eq_false_iff_ne]; omega
     have g3:twf (arTo ins twf (i - 1)).toNat=y.tw:=by
      rw [show (arTo ins twf (i - 1)).toNat=best - 1 by omega,← htwf]
      show ((A[best - 1+1]?).map ArB.tw).getD 0=_
      rw [show best - 1+1=best by omega,hx2]
      rfl
     rw [c1,c2,g3]
   have hsame:insideR p x.oc.l q=false∨(((best:Int)==0)=false/\decide (x.tw<y.tw)=false)->(best:Int)=1+arTo ins twf (i+1 - 1):=fun hh=>by
    rw [show i+1 - 1=i - 1+1 by omega,hstep]
    rcases hh with hh | ⟨h1,h2⟩
    ·rw [hh,zgo,if_neg (by decide)]
     exact hbx
    ·rw [h1,h2,Bool.or_false,zh3,if_neg (by decide)]
     exact hbx
   have hother:insideR p x.oc.l q=true->(((best:Int)==0)=true∨decide (x.tw<y.tw)=true)->(i:Int)=1+arTo ins twf (i+1 - 1):=fun h1 h2=>by
    rw [show i+1 - 1=i - 1+1 by omega,hstep,h1,zhj,if_pos (by rw [zha]; exact h2)]
    omega
   simp only [Pt.c,zf] at hc
   have r0:rdN (A.flatMap arG) (i*4) 1=some [.int .i64 x.tw]:=(zb y3 0 1 hx (by omega)).trans rfl
   have r1:rdN (A.flatMap arG) (i*4+1) 1=some [x.oc.v]:=(zb y3 1 1 hx (by omega)).trans rfl
   have r2:rdN (A.flatMap arG) (best*4) 1=some [.int .i64 y.tw]:=(zb y3 0 1 hx2 (by omega)).trans rfl
   have i1:∀ own,iaddrV own 4 (.slM d b 0 A.length A.length 4 false) (.int .i64 (i:Int))=some (.p,.ptrM d b (i*4),own):=fun own=>by
    have:=zK (own:=own) (l:=d) (b:=b) (off:=0) (cap:=A.length) (z:=4) (z':=4) (tight:=false) (k:=.i64) h
    rw [zg5] at this
    exact this
   have i2:∀ own,iaddrV own 4 (.slM d b 0 A.length A.length 4 false) (.int .i64 (best:Int))=some (.p,.ptrM d b (best*4),own):=fun own=>by
    have:=zK (own:=own) (l:=d) (b:=b) (off:=0) (cap:=A.length) (z:=4) (z':=4) (tight:=false) (k:=.i64) hbest
    rw [zg5] at this
    exact this
   have hw:wrapI .i64 ((i:Int)+1)=((i+1:Nat):Int):=we
   have hnext:∀ t' O (best':Nat),(best':Int)=1+arTo ins twf (i+1 - 1)->Slots 42 t' [(0,.mapC (mKs L) (mVs plV L)),(1,.slM d b 0 A.length A.length 4 false),(5,.ptrM (d+1) 0 0),(7,iv best'),(8,iv (i+1:Nat))]->KA .normal ⟨t',.cells [.int .i64 q.x,.int .i64 q.y]::O⟩:=fun t' O best' hb' ht=>hnA _ (A.length - (i+1)) (by omega) ⟨i+1,best',O,by omega,by omega,by omega,hb',rfl,ht⟩
   cases h0:((best:Int)==0)
   ·cases ht:decide (x.tw<y.tw)
    ·simp only [V0,sevalprocAttr,hfr,h,i1,i2,r0,r1,r2,e1,e2,ho2,hb,hc,h0,ht]
     refine ⟨by simp [comm],?_⟩
     simp only [V0,sevalprocAttr,hfr,hw]
     exact hnext _ _ best (hsame (.inr ⟨h0,ht⟩)) (by simp only [V0,sevalprocAttr,hfr])
    ·cases hbb:insideR p x.oc.l q
     ·rw [hbb] at hc
      simp only [V0,sevalprocAttr,hfr,h,i1,i2,r0,r1,r2,e1,e2,ho2,hb,hc,h0,ht]
      refine ⟨by simp [comm],?_⟩
      simp only [V0,sevalprocAttr,hfr,hw]
      exact hnext _ _ best (hsame (.inl hbb)) (by simp only [V0,sevalprocAttr,hfr])
     ·rw [hbb] at hc
      simp only [V0,sevalprocAttr,hfr,h,i1,i2,r0,r1,r2,e1,e2,ho2,hb,hc,h0,ht]
      refine ⟨by simp [comm],?_⟩
      simp only [V0,sevalprocAttr,hfr,hw]
      exact hnext _ _ i (hother hbb (.inr ht)) (by simp only [V0,sevalprocAttr,hfr])
   ·cases hbb:insideR p x.oc.l q
    ·rw [hbb] at hc
     simp only [V0,sevalprocAttr,hfr,h,i1,i2,r0,r1,r2,e1,e2,ho2,hb,hc,h0]
     refine ⟨by simp [comm],?_⟩
     simp only [V0,sevalprocAttr,hfr,hw]
     exact hnext _ _ best (hsame (.inl hbb)) (by simp only [V0,sevalprocAttr,hfr])
    ·rw [hbb] at hc
     simp only [V0,sevalprocAttr,hfr,h,i1,i2,r0,r1,r2,e1,e2,ho2,hb,hc,h0]
     refine ⟨by simp [comm],?_⟩
     simp only [V0,sevalprocAttr,hfr,hw]
     exact hnext _ _ i (hother hbb (.inl h0)) (by simp only [V0,sevalprocAttr,hfr])
  ·simp only [V0,sevalprocAttr,hfr,h]
   refine heA _ _ ?_
   simp only [V0,sevalprocAttr,hfr]
   have hie:i=A.length:=by omega
   have hbf:best=fdX p A q:=by
    rw [hfd,← hie]
    omega
   exact fin _ _ (by simp only [V0,sevalprocAttr,hfr,hbf])
 obtain ⟨v,h1,rfl⟩:=main
 exact h1
end
end
section
def shpB (a:ArB):Int × SlOf 1 intc × List (SlOf 1 intc):=(a.tw,a.oc,a.ic)
def shp2 (a:ArB):Int × SlOf 1 intc:=(a.tw,a.oc)
theorem zfr {ins ins':Nat->Bool} {tw tw':Nat->Int}:∀ n,(∀ i,i<n->ins i=ins' i/\tw i=tw' i)->arTo ins tw n=arTo ins' tw' n
 | 0,_=>rfl
 | n+1,h=>by
  have ih:=zfr n fun i hi=>h i (by omega)
  obtain ⟨h1,h2⟩:=h n (by omega)
  show (if (ins n&&(decide (arTo ins tw n<0)||decide (tw n<tw (arTo ins tw n).toNat)))=true then (n:Int) else arTo ins tw n)=(if (ins' n&&(decide (arTo ins' tw' n<0)||decide (tw' n<tw' (arTo ins' tw' n).toNat)))=true then (n:Int) else arTo ins' tw' n)
  rw [ih,h1,h2]
  have hle:=zbo (ins:=ins') (tw:=tw') n
  by_cases hneg:arTo ins' tw' n<0
  ·rw [decide_eq_true hneg,zhu,zhu]
  ·rw [(h (arTo ins' tw' n).toNat (by omega)).2]
theorem fdX_shape {p:Pn} {A A':List ArB} {q:Pt} (h:A.map shp2=A'.map shp2):fdX p A q=fdX p A' q:=by
 have hl:A.length=A'.length:=by have:=congrArg List.length h; simpa using this
 have hg:∀ i,(A[i]?).map shp2=(A'[i]?).map shp2:=fun i=>by rw [← zgd,← zgd,h]
 have h1:∀ i,(A[i]?).map (fun a:ArB=>a.oc.l)=(A'[i]?).map (fun a:ArB=>a.oc.l):=fun i=>by
  have:=congrArg (Option.map fun x:Int × SlOf 1 intc=>x.2.l) (hg i)
  rw [zgm,zgm] at this
  exact this
 have h2:∀ i,(A[i]?).map ArB.tw=(A'[i]?).map ArB.tw:=fun i=>by
  have:=congrArg (Option.map fun x:Int × SlOf 1 intc=>x.1) (hg i)
  rw [zgm,zgm] at this
  exact this
 unfold fdX
 simp only [hl,h1,h2]
theorem shp_set {A:List ArB} {k:Nat} {a:ArB} {av2:IV} {al2:List Int} (ha:A[k]?=some a):(A.set k { a with av:=av2,al:=al2 }).map shpB=A.map shpB:=by
 obtain ⟨hl,rfl⟩:=zfz.1 ha
 refine ziu fun j=>?_
 rw [zgd,zgd]
 by_cases hj:k=j
 ·subst hj
  rw [zg9 hl,ha]
  rfl
 ·rw [zg6 hj]
theorem shp2_of {A A':List ArB} (h:A.map shpB=A'.map shpB):A.map shp2=A'.map shp2:=by
 have:=congrArg (List.map fun x:Int × SlOf 1 intc × List (SlOf 1 intc)=>(x.1,x.2.1)) h
 rw [List.map_map,List.map_map] at this
 exact this
def Div1 (T:SlOf 1 intc->Int) (l:List (SlOf 1 intc)) (A:List ArB) (rc:List (SlOf 1 intc)):Prop:=A.map shpB=(0,nilC,[])::(l.filter fun c=>decide (0<T c)).map (fun c=>(T c,c,[]))/\rc=l.filter fun c=>!decide (0<T c)
theorem Div1.zero {T:SlOf 1 intc->Int}:Div1 T [] [⟨0,nilC,.nilsl,[],.nilsl,[]⟩] []:=⟨rfl,rfl⟩
theorem Div1.inner {T:SlOf 1 intc->Int} {l:List (SlOf 1 intc)} {A:List ArB} {rc:List (SlOf 1 intc)} (h:Div1 T l A rc) {c:SlOf 1 intc} (hc:¬ 0<T c):Div1 T (l++[c]) A (rc++[c]):=by
 unfold Div1
 rw [List.filter_append,List.filter_append,h.1,h.2]
 simp [hc]
theorem Div1.outer {T:SlOf 1 intc->Int} {l:List (SlOf 1 intc)} {A:List ArB} {rc:List (SlOf 1 intc)} (h:Div1 T l A rc) {c:SlOf 1 intc} (hc:0<T c):Div1 T (l++[c]) (A++[⟨T c,c,.nilsl,[],.nilsl,[]⟩]) rc:=by
 unfold Div1
 rw [List.filter_append,List.filter_append,zir,h.1,h.2]
 simp [hc,shpB]
def Div2 (p:Pn) (A0:List ArB) (l:List (SlOf 1 intc)) (A:List ArB):Prop:=A.map shp2=A0.map shp2/\∀ k a,A[k]?=some a->a.ic=l.filter fun c=>fdX p A0 (startF p c.l)==k
theorem Div1.start {p:Pn} {T:SlOf 1 intc->Int} {l:List (SlOf 1 intc)} {A:List ArB} {rc:List (SlOf 1 intc)} (h:Div1 T l A rc):Div2 p A [] A:=⟨rfl,fun k a ha=>by
 have h1:(A.map shpB)[k]?=some (shpB a):=by rw [zgd,ha]; rfl
 have hm:=zgl h1
 rw [h.1] at hm
 rcases zgf.1 hm with e | hm
 ·exact congrArg (fun x=>x.2.2) e
 ·obtain ⟨c,_,e⟩:=zgx.1 hm
  exact (congrArg (fun x=>x.2.2) e).symm⟩
theorem Div2.step {p:Pn} {A0 A:List ArB} {l:List (SlOf 1 intc)} (h:Div2 p A0 l A) {c:SlOf 1 intc} {k:Nat} {a:ArB} {iv2:IV} (ha:A[k]?=some a) (hk:k=fdX p A (startF p c.l)):Div2 p A0 (l++[c]) (A.set k { a with iv:=iv2,ic:=a.ic++[c] }):=by
 obtain ⟨hl,_⟩:=zfz.1 ha
 rw [fdX_shape h.1] at hk
 refine ⟨?_,fun j x hx=>?_⟩
 ·rw [← h.1]
  refine ziu fun j=>?_
  rw [zgd,zgd]
  by_cases hj:k=j
  ·subst hj
   rw [zg9 hl,ha]
   rfl
  ·rw [zg6 hj]
 ·rw [List.filter_append]
  by_cases hj:k=j
  ·subst hj
   rw [zg9 hl] at hx
   cases hx
   rw [h.2 k a ha]
   simp [← hk]
  ·rw [zg6 hj] at hx
   rw [h.2 j x hx]
   have:(fdX p A0 (startF p c.l)==j)=false:=by rw [beq_eq_false_iff_ne,← hk]; exact hj
   simp [this]
structure RegsX (p:Pn) (As:List Ar):Prop where
 len:As.length=((cyclesR p).filter fun c=>decide (0<twR p c)).length+1
 el:∀ i a,As[i]?=some a->(i=0->a.tw=0)/\a.oc.l=ocR ((cyclesR p).filter fun c=>decide (0<twR p c)) i/\a.ic.l.map (·.l)=((cyclesR p).filter fun c=>decide (twR p c<=0)&&regR p ((cyclesR p).filter fun c=>decide (0<twR p c)) (startF p c)==i)
structure DivX (p:Pn) (N:Net) (cs:List (SlOf 1 intc)) (A:List ArB):Prop where
 shape:A.map shp2=(0,nilC)::(cs.filter fun c=>decide (0<N.twX c.l)).map (fun c=>(N.twX c.l,c))
 inner:∀ k a,A[k]?=some a->a.ic=(cs.filter fun c=>!decide (0<N.twX c.l)).filter fun c=>fdX p A (startF p c.l)==k
theorem DivX.of {p:Pn} {N:Net} {cs:List (SlOf 1 intc)} {A1 A2 A3:List ArB} {rc:List (SlOf 1 intc)} (h1:Div1 (fun c=>N.twX c.l) cs A1 rc) (h2:Div2 p A1 rc A2) (h3:A3.map shpB=A2.map shpB):DivX p N cs A3:=by
 have e1:A3.map shp2=A1.map shp2:=(shp2_of h3).trans h2.1
 have e2:A1.map shp2=(0,nilC)::(cs.filter fun c=>decide (0<N.twX c.l)).map (fun c=>(N.twX c.l,c)):=by
  have:=congrArg (List.map fun x:Int × SlOf 1 intc × List (SlOf 1 intc)=>(x.1,x.2.1)) h1.1
  rw [List.map_map,zg3,List.map_map] at this
  exact this
 refine ⟨e1.trans e2,fun k a ha=>?_⟩
 have hm:(A2.map shpB)[k]?=some (shpB a):=by rw [← h3,zgd,ha]; rfl
 rw [zgd] at hm
 cases hk:A2[k]? with
 | none=>rw [hk] at hm; cases hm
 | some b =>
  rw [hk] at hm
  have hb:b.ic=a.ic:=congrArg (fun x:Int × SlOf 1 intc × List (SlOf 1 intc)=>x.2.2) (zgy hm)
  rw [← hb,h2.2 k b hk,h1.2]
  simp only [fdX_shape e1]
theorem ZH {β γ:Type} (f:β->γ) (q:γ->Bool):∀ l:List β,(l.filter fun x=>q (f x)).map f=(l.map f).filter q
 | []=>rfl
 | x::l=>by
  rw [zg3,List.filter_cons,List.filter_cons]
  split
  ·rw [zg3,ZH f q l]
  ·exact ZH f q l
theorem DivX.regs {p:Pn} (hg:Good0 p) (hv:∀ a∈p.az.l,a.via.l.length<=900) (hal:p.az.l.length<=200) {cs:List (SlOf 1 intc)} (hcs:cs.map (·.l)=cyclesR p) {A:List ArB} (h:DivX p hg.net cs A) {As:List Ar} (hl:As.length=A.length) (hq:∀ (i:Nat) (a:ArB),A[i]?=some a->∃ a':Ar,As[i]?=some a'/\a'.oc=a.oc/\a'.ic.l=a.ic/\a'.tw=a.tw):RegsX p As:=by
 have htw:∀ c∈cs,hg.net.twX c.l=twR p c.l:=fun c hc=>(hg.tw_cyc hv hal (by rw [← hcs]; exact List.mem_map_of_mem hc)).symm
 have hos:(cs.filter fun c=>decide (0<hg.net.twX c.l)).map (·.l)=(cyclesR p).filter fun c=>decide (0<twR p c):=by
  rw [← hcs,← ZH (fun c:SlOf 1 intc=>c.l) (fun c=>decide (0<twR p c))]
  congr 1
  exact List.filter_congr fun c hc=>by rw [htw c hc]
 have hlen:A.length=((cyclesR p).filter fun c=>decide (0<twR p c)).length+1:=by
  have:=congrArg List.length h.shape
  rw [zgw,zf3,zgw] at this
  rw [this,← hos,zgw]
 have hget:∀ i a,A[i]?=some a->(i=0->a.tw=0)/\a.oc.l=ocR ((cyclesR p).filter fun c=>decide (0<twR p c)) i/\∀ j,i=j+1->a.tw=twR p ((((cyclesR p).filter fun c=>decide (0<twR p c))[j]?).getD []):=fun i a ha=>by
  have hm:(A.map shp2)[i]?=some (shp2 a):=by rw [zgd,ha]; rfl
  rw [h.shape] at hm
  rcases i with - | j
  ·have e:=zgy hm
   have e1:a.tw=0:=(congrArg Prod.fst e).symm
   have e2:a.oc=nilC:=(congrArg Prod.snd e).symm
   exact ⟨fun _=>e1,by rw [e2]; rfl,fun j hj=>by omega⟩
  ·rw [zgc,zgd] at hm
   cases hc:(cs.filter fun c=>decide (0<hg.net.twX c.l))[j]? with
   | none=>rw [hc] at hm; cases hm
   | some c =>
    rw [hc] at hm
    have e:=zgy hm
    have e1:a.tw=hg.net.twX c.l:=(congrArg Prod.fst e).symm
    have e2:a.oc=c:=(congrArg Prod.snd e).symm
    have hcm:c∈cs:=(zif.1 (zgl hc)).1
    have hj:((cyclesR p).filter fun c=>decide (0<twR p c))[j]?=some c.l:=by rw [← hos,zgd,hc]; rfl
    refine ⟨fun h=>by omega,?_,fun k hk=>?_⟩
    ·show a.oc.l=(((cyclesR p).filter fun c=>decide (0<twR p c))[j]?).getD []
     rw [hj,e2]
     rfl
    ·have:k=j:=by omega
     rw [this,hj,e1,htw c hcm]
     rfl
 have hfd:∀ q,fdX p A q=regR p ((cyclesR p).filter fun c=>decide (0<twR p c)) q:=fun q=>by
  unfold fdX regR arX
  rw [hlen,Nat.add_sub_cancel]
  congr 2
  refine zfr _ fun i hi=>?_
  have hx:A[i+1]?=some A[i+1]:=zf0 (by omega)
  obtain ⟨_,g2,g3⟩:=hget (i+1) _ hx
  have g3:=g3 i rfl
  rw [hx]
  constructor
  ·show insideR p (A[i+1]).oc.l q=_
   rw [g2]
   rfl
  ·exact g3
 refine ⟨hl.trans hlen,fun i a' ha'=>?_⟩
 have hi:i<A.length:=by rw [← hl]; exact (zfz.1 ha').1
 have hx:A[i]?=some A[i]:=zf0 hi
 obtain ⟨a2,q1,q2,q3,q4⟩:=hq i _ hx
 rw [ha'] at q1
 cases q1
 obtain ⟨g1,g2,_⟩:=hget i _ hx
 refine ⟨fun h0=>by rw [q4]; exact g1 h0,by rw [q2]; exact g2,?_⟩
 rw [q3,h.inner i _ hx,← hcs,← ZH (fun c:SlOf 1 intc=>c.l) (fun c=>decide (twR p c<=0)&&regR p (((cs.map fun c=>c.l)).filter fun c=>decide (0<twR p c)) (startF p c)==i),List.filter_filter]
 congr 1
 refine List.filter_congr fun c hc=>?_
 rw [hfd,hcs,htw c hc,Bool.and_comm]
 congr 1
 by_cases h0:0<twR p c.l
 ·rw [decide_eq_true h0,decide_eq_false (by omega)]
  rfl
 ·rw [decide_eq_false h0,decide_eq_true (by omega)]
  rfl
def FindX (S:ySM) (p:Pn) (m n:Nat) (U:List (SlOf 1 intc)) (L:List (Int × SlOf 2 Pt.c)) (q:Pt):Prop:=∀ (A:List ArB),A≠[]->A.length<=n->(∀ a∈A,a.oc∈nilC::U)->∀ D out ownV own id b,ownV[b]?=some (.cells (A.flatMap arG)) ->
  callN Ftab S m D out ownV own id 120 [.mapC (mKs L) (mVs plV L),.slM D b 0 A.length A.length 4 false,.agg q.c]=some (.r,.int .i64 (fdX p A q:Nat),own)
section
variable {S:ySM}
theorem div_oneX (hS:NoS S) (T:SlOf 1 intc->Int) {m D:Nat} {out:yLM} {K:yKM} (p:Pn) (cs:SlOf 1 cyG) (hcl:cs.l.length<=65536) (hm:cs.l.length+20<=m) (mv:IV) (J0:yLO) (B0:Nat->Nat) (lv0:IV) (A0:List ArB) (h0:DivOK D cs.l 0 0 0 J0 B0 lv0 A0 .nilsl []) (h1:Div1 T [] A0 [])
  (htw:∀ c∈cs.l,∀ d out ownV own id,callN Ftab S m d out ownV own id 119 [.agg p.c,c.v]=some (.r,.int .i64 (T c),own))
  (t:List IV) (hfr:Slots 110 t [(1,cs.v),(2,mv),(3,.ptrM D 0 0),(7,lv0),(8,.nilsl)])
  (hK:∀ t' J B lv A rv rc,DivOK D cs.l cs.l.length 0 0 J B lv A rv rc->Div1 T cs.l A rc->Slots 110 t' [(2,mv),(3,.ptrM D 0 0),(7,lv),(8,rv)]->K .normal ⟨t',.cells [p.ns.v,p.az.v,p.fs.v]::J⟩) :
  Ex (callN Ftab S m) D out m (i75.body.sub [1,1,1,0]) K ⟨t,.cells [p.ns.v,p.az.v,p.fs.v]::J0⟩:=by
 simp only [V3] at hfr
 have hcf:=cs.few
 simp only [i75,IC.sub,V0,sevalprocAttr,hfr]
 refine zd (fun jj st=>∃ (i:Nat) (J:yLO) (B:Nat->Nat) (lv:IV) (A:List ArB) (rv:IV) (rc:List (SlOf 1 intc)),cs.l.length - i<=jj/\i<=cs.l.length/\DivOK D cs.l i 0 0 J B lv A rv rc/\Div1 T (cs.l.take i) A rc/\st.own=.cells [p.ns.v,p.az.v,p.fs.v]::J/\Slots 110 st.t [(2,mv),(3,.ptrM D 0 0),(7,lv),(8,rv),(21,cs.v),(22,iv (cs.l.length:Nat)),(23,iv i)]) cs.l.length (by omega) ⟨0,J0,B0,lv0,A0,.nilsl,[],by omega,by omega,h0,by rw [zis]; exact h1,rfl,by simp only [V0,sevalprocAttr,hfr,zg4]⟩ ?_
 clear hfr h0 h1
 rintro jj ⟨t,own⟩ KA ⟨i,J,B,lv,A,rv,rc,hjj,hi,hD,hX,ho,hfr⟩ hnA heA hrA
 dsimp only at ho hfr
 subst ho
 simp only [V3] at hfr
 by_cases h:i<cs.l.length
 ·have hx:cs.l[i]?=some cs.l[i]:=zf0 h
  have hmem:=zgt h
  have hz:=htw _ hmem
  generalize cs.l[i]=c at hx hmem hz
  have htk:cs.l.take (i+1)=cs.l.take i++[c]:=by rw [zhb,hx]; rfl
  have hXi:=fun hp=>hX.inner (c:=c) hp
  have hXo:=fun hp=>hX.outer (c:=c) hp
  rw [← htk] at hXi hXo
  generalize T c=z at hz hXi hXo
  have hrd:rdN (cs.l.flatMap cyG) (i*1) 1=some [c.v]:=(zb yM 0 1 hx (by omega)).trans rfl
  have hw:wrapI .i64 ((i:Int)+1)=((i+1:Nat):Int):=we
  simp only [Pn.c] at hz
  have hlen:=hD.len
  have hrl:=hD.rl
  cases hp:decide (0<z)
  ·obtain ⟨e,rv2,J2,happ,_,hO2,hl2,hoth⟩:=zbg (k0:=1) (Pre:=[.cells [p.ns.v,p.az.v,p.fs.v]]) (n0:=J.length+1+1) (slot:=0) (k:=1) (R:=[.free,.free]) yM rfl hD.r (ys:=[c]) (by simp) (by simp only [zf3,zgb]; omega) (by omega) rfl (by simp [cyG,za0])
   have happ:=happ (look D out (.cells [p.ns.v,p.az.v,p.fs.v]::(J++[.free,.free]))) (fun j x hj hx=>by simp only [look,if_true]; exact hx)
   simp only [zgq,zgz,zgj,zh4,cyG,zf3,zgb,zhc,zg5] at happ
   simp only [V0,sevalprocAttr,hfr,h,za cs h,hrd,hz,gt_iff_lt,hp,rep,zt,zJ,zT,zch,happ,hw]
   refine hnA _ (cs.l.length - (i+1)) (by omega) ⟨i+1,J2,_,lv,A,rv2,rc++[c],by omega,by omega,⟨hoth (by omega) hD.l,hD.ne,by omega,hO2,by simp only [zga,zf3,zgb]; omega,fun y hy=>?_,fun j a ha=>?_⟩,hXi (of_decide_eq_false hp),rfl,by simp only [V0,sevalprocAttr,hfr,hw]⟩
   ·rcases zhf.1 hy with hy | hy
    ·exact hD.rU y hy
    ·rw [zhe.1 hy]; exact hmem
   ·obtain ⟨g1,g2,g3⟩:=hD.el j a ha
    exact ⟨hoth (by omega) g1,hoth (by omega) g2,g3⟩
  ·obtain ⟨e,lv2,J2,happ,_,hO2,hl2,hoth⟩:=zbg (k0:=1) (Pre:=[.cells [p.ns.v,p.az.v,p.fs.v]]) (n0:=J.length+1+1) (slot:=1) (k:=2) (R:=[.free,.cells [.int .i64 z,c.v,.nilsl,.nilsl],.free]) y3 rfl hD.l (ys:=[⟨z,c,.nilsl,[],.nilsl,[]⟩]) (by simp) (by simp only [zf3,zgb]; omega) (by omega) rfl (by simp only [zgj,zh4,zhc,arG,zhr,List.all_nil,za0,zel,Y4,Bool.and_true,Bool.and_self])
   have happ:=happ (look D out (.cells [p.ns.v,p.az.v,p.fs.v]::(J++[.free,.cells [.int .i64 z,c.v,.nilsl,.nilsl],.free]))) (fun j x hj hx=>by simp only [look,if_true]; exact hx)
   simp only [zgq,zgz,zgj,zh4,arG,zf3,zgb,zhc,zg5] at happ
   have hci:cellsI (look D out (.cells [p.ns.v,p.az.v,p.fs.v]::(J++[.free,.cells [.int .i64 z,c.v,.nilsl,.nilsl],.free]))) 4 (.slM D (J.length+1+1) 0 1 1 4 false)=some ([.int .i64 z,c.v,.nilsl,.nilsl],1):=by
    simp [cellsI,look,seg,zc]
   simp only [V0,sevalprocAttr,hfr,h,za cs h,hrd,hz,gt_iff_lt,hp,rep,ev_mslice,e_mslice,zt,zJ,zT,hci,happ,hw]
   refine hnA _ (cs.l.length - (i+1)) (by omega) ⟨i+1,J2,_,lv2,_,rv,rc,by omega,by omega,⟨hO2,by simp,by simp only [zga,zf3,zgb]; omega,hoth (by omega) hD.r,by omega,hD.rU,fun j a ha=>?_⟩,hXo (of_decide_eq_true hp),rfl,by simp only [V0,sevalprocAttr,hfr,hw]⟩
   by_cases hj:j<A.length
   ·rw [zf1 hj] at ha
    obtain ⟨g1,g2,g3⟩:=hD.el j a ha
    exact ⟨hoth (by omega) g1,hoth (by omega) g2,g3⟩
   ·rw [zf4 (by omega)] at ha
    have hj0:j - A.length=0:=by
     have:=(zfz.1 ha).1
     simp at this
     omega
    rw [hj0] at ha
    cases ha
    exact ⟨.inl ⟨rfl,rfl⟩,.inl ⟨rfl,rfl⟩,zf7 _,zf7 _,fun _ h=>by simp at h,fun _=>hmem,zgn _ hmem⟩
 ·simp only [V0,sevalprocAttr,hfr,h]
  refine heA _ _ ?_
  simp only [V0,sevalprocAttr,hfr]
  have hii:i=cs.l.length:=by omega
  subst hii
  rw [List.take_length] at hX
  exact hK _ _ _ _ _ _ _ hD hX (by simp only [V0,sevalprocAttr,hfr])
theorem div_twoX (hS:NoS S) {m D:Nat} {out:yLM} {K:yKM} (p:Pn) (cs:SlOf 1 cyG) (hcl:cs.l.length<=65536) (hm:cs.l.length+20<=m) (L:List (Int × SlOf 2 Pt.c)) (J0:yLO) (B0:Nat->Nat) (lv:IV) (A0:List ArB) (rv:IV) (rc:List (SlOf 1 intc)) (h0:DivOK D cs.l cs.l.length 0 0 J0 B0 lv A0 rv rc) (h1:Div2 p A0 [] A0)
  (hfd:∀ c∈cs.l,∃ (y:Pt) (h:Int) (r:List Int),c.l=h::r/\(lkM nilP L (absI h)).l[0]?=some y/\y=startF p c.l/\FindX S p m (cs.l.length+1) cs.l L y)
  (t:List IV) (hfr:Slots 110 t [(2,.mapC (mKs L) (mVs plV L)),(3,.ptrM D 0 0),(7,lv),(8,rv)])
  (hK:∀ t' J B A,DivOK D cs.l cs.l.length cs.l.length 0 J B lv A rv rc->Div2 p A0 rc A->Slots 110 t' [(2,.mapC (mKs L) (mVs plV L)),(3,.ptrM D 0 0),(7,lv)]->K .normal ⟨t',.cells [p.ns.v,p.az.v,p.fs.v]::J⟩) :
  Ex (callN Ftab S m) D out m (i75.body.sub [1,1,1,1,0]) K ⟨t,.cells [p.ns.v,p.az.v,p.fs.v]::J0⟩:=by
 simp only [V3] at hfr
 have hrl:=h0.rl
 have hlen0:=fun ownV own=>OwnT.len h0.r (D:=D) (out:=out) (ownV:=ownV) (own:=own)
 have hab:∀ z:Int,(if wrapI .i64 (0 - z) > z then wrapI .i64 (0 - z) else z)=absI z:=fun _=>rfl
 simp only [i75,IC.sub,V0,sevalprocAttr,hfr,hlen0]
 refine zd (fun jj st=>∃ (i:Nat) (J:yLO) (B:Nat->Nat) (A:List ArB),rc.length - i<=jj/\i<=rc.length/\DivOK D cs.l cs.l.length i 0 J B lv A rv rc/\Div2 p A0 (rc.take i) A/\st.own=.cells [p.ns.v,p.az.v,p.fs.v]::J/\Slots 110 st.t [(2,.mapC (mKs L) (mVs plV L)),(3,.ptrM D 0 0),(7,lv),(43,rv),(44,iv (rc.length:Nat)),(45,iv i)]) rc.length (by omega) ⟨0,J0,B0,A0,by omega,by omega,h0,by rw [zis]; exact h1,rfl,by simp only [V0,sevalprocAttr,hfr,zg4]⟩ ?_
 clear hfr h0 h1
 rintro jj ⟨t,own⟩ KA ⟨i,J,B,A,hjj,hi,hD,hX,ho,hfr⟩ hnA heA hrA
 dsimp only at ho hfr
 subst ho
 simp only [V3] at hfr
 by_cases h:i<rc.length
 ·have hx:rc[i]?=some rc[i]:=zf0 h
  have hmem:=hD.rU _ (zgt h)
  generalize rc[i]=c at hx hmem
  obtain ⟨y,hh,r,hcl2,hy,hys,hfy⟩:=hfd c hmem
  generalize hpa:lkM nilP L (absI hh)=pa at hy
  obtain ⟨br,hrv,hrb⟩:∃ br,rv=.slM D (1+br) 0 rc.length rc.length 1 false/\J[br]?=some (.cells (rc.flatMap cyG)):=by
   rcases hD.r with ⟨h1,_⟩ | ⟨b,_,h1,h2,_⟩
   ·rw [h1] at h; simp at h
   ·exact ⟨b,h1,h2⟩
  obtain ⟨b,hlv,hb,hB⟩:=hD.blk
  have gr:∀ x:IObj,(x::J)[1+br]?=some (.cells (rc.flatMap cyG)):=fun x=>by rw [Nat.add_comm 1 br,zgc]; exact hrb
  have gl:∀ (x:IObj) (R:yLO),(x::(J++R))[1+b]?=some (.cells (A.flatMap arG)):=fun x R=>by rw [Nat.add_comm 1 b,zgc,zf1 (zfz.1 hb).1]; exact hb
  have hlA:A.length<=cs.l.length+1:=hD.len
  obtain ⟨k,hk,hkf,hfind⟩:∃ k:Nat,k<A.length/\k=fdX p A y/\∀ id,callN Ftab S m D out (.cells [p.ns.v,p.az.v,p.fs.v]::(J++[.free])) (.cells [p.ns.v,p.az.v,p.fs.v]::(J++[.free])) id 120 [.mapC (mKs L) (mVs plV L),lv,.agg [.int .i64 y.x,.int .i64 y.y]]=some (.r,.int .i64 (k:Nat),.cells [p.ns.v,p.az.v,p.fs.v]::(J++[.free])):=by
   have hc:=hfy A hD.ne hlA hD.oc D out (.cells [p.ns.v,p.az.v,p.fs.v]::(J++[.free])) (.cells [p.ns.v,p.az.v,p.fs.v]::(J++[.free])) 0 (1+b) (gl _ _)
   refine ⟨fdX p A y,fdX_lt hD.ne,rfl,fun id=>?_⟩
   rw [hlv]
   simp only [Pt.c,zf] at hc
   rw [← hc]
   exact mode0_id (ns hS (by rfl)) rfl rfl
  obtain ⟨a,ha⟩:=gx (l:=A) (i:=k) hk
  have hX2:=fun iv2=>hX.step (c:=c) (iv2:=iv2) ha (by rw [hkf,hys])
  have htk:rc.take (i+1)=rc.take i++[c]:=by rw [zhb,hx]; rfl
  rw [← htk] at hX2
  obtain ⟨g1,g2,g3,g4,g5,g6,g7⟩:=hD.el k a ha
  have hrd:rdN (rc.flatMap cyG) (i*1) 1=some [c.v]:=(zb yM 0 1 hx (by omega)).trans rfl
  have hra:rdN (A.flatMap arG) (k*4+2) 1=some [a.iv]:=(arG_rd ha (by omega)).trans rfl
  have hw:wrapI .i64 ((i:Int)+1)=((i+1:Nat):Int):=we
  have hir:∀ own,iaddrV own 1 (.slM D (1+br) 0 rc.length rc.length 1 false) (.int .i64 (i:Int))=some (.p,.ptrM D (1+br) (i*1),own):=fun own=>by
   have:=zK (own:=own) (l:=D) (b:=1+br) (off:=0) (cap:=rc.length) (z:=1) (z':=1) (tight:=false) (k:=.i64) h
   rw [zg5] at this
   exact this
  have hil:∀ own,iaddrV own 4 (.slM D (1+b) 0 A.length A.length 4 false) (.int .i64 (k:Int))=some (.p,.ptrM D (1+b) (k*4),own):=fun own=>by
   have:=zK (own:=own) (l:=D) (b:=1+b) (off:=0) (cap:=A.length) (z:=4) (z':=4) (tight:=false) (k:=.i64) hk
   rw [zg5] at this
   exact this
  have hc0:0<c.l.length:=by rw [hcl2]; simp
  have hic:∀ own,iaddrV own 1 c.v (.int .i64 0)=some (.p,.ptrC (c.l.flatMap intc) (0*1),own):=fun own=>za c (i:=0) hc0
  have hp0:0<pa.l.length:=(zfz.1 hy).1
  have hip:∀ own,iaddrV own 2 pa.v (.int .i64 0)=some (.p,.ptrC (pa.l.flatMap Pt.c) (0*2),own):=fun own=>za pa (i:=0) hp0
  have hrc:rdN (c.l.flatMap intc) (0*1) 1=some [.int .i64 hh]:=(zb (l:=c.l) (i:=0) (x:=hh) zk 0 1 (by rw [hcl2]; rfl) (by omega)).trans rfl
  have hrp:rdN (pa.l.flatMap Pt.c) (0*2) 2=some [.int .i64 y.x,.int .i64 y.y]:=(zb Pt.c_len 0 2 hy (by omega)).trans rfl
  have evL:∀ (C:Call) (n0:Nat) (ownV own:yLO) (t:List IV) (a b:Opd),ρ t a=.mapC (mKs L) (mVs plV L)->ρ t b=.int .i64 (absI hh)->evOp C D out n0 ownV own t (.lookup .nilsl (false,[1]) false a b)=some (.p,pa.v,own):=fun C n0 ownV own t a b h1 h2=>(ev_lookC (u:=plV) nilP (absI hh) rfl h1 h2).trans (by rw [hpa]; rfl)
  obtain ⟨e,iv2,J2,happ,_,hO2,hl2,hoth⟩:=zbg (k0:=1) (Pre:=[.cells [p.ns.v,p.az.v,p.fs.v]]) (n0:=J.length+1+1) (slot:=0) (k:=1) (R:=[.free,.free]) yM rfl g1 (ys:=[c]) (by simp) (by simp only [zf3,zgb]; omega) (by omega) rfl (by simp [cyG,za0])
  have happ:=happ (look D out (.cells [p.ns.v,p.az.v,p.fs.v]::(J++[.free,.free]))) (fun j x hj hx=>by simp only [look,if_true]; exact hx)
  simp only [zgq,zgz,zgj,zh4,cyG,zf3,zgb,zhc,zg5] at happ
  have hb2:J2[b]?=some (.cells (A.flatMap arG))/\putB B (J.length+1) (2+2*k) b=0:=by
   rcases hoth (by omega) hD.l with ⟨h1,_⟩ | ⟨b',_,h1,h2,h3⟩
   ·exact absurd h1 hD.ne
   ·rw [hlv] at h1
    injection h1 with _ hbb
    have:b'=b:=by omega
    subst this
    exact ⟨h2,h3⟩
  have hset:=hD.set hlv hb2.1 hb2.2 ha (a':={ a with iv:=iv2,ic:=a.ic++[c] }) rfl (hoth (by omega) hD.r) (m2:=i+1) (m3:=0) (by omega) (by omega) (fun j x hx hj=>by
   obtain ⟨q1,q2,_⟩:=hD.el j x hx
   exact ⟨hoth (by omega) q1,hoth (by omega) q2⟩) hO2 (hoth (by omega) g2) (by simp only [zga,zf3,zgb]; omega) g4 (fun z hz=>by
   rcases zhf.1 hz with hz | hz
   ·exact g5 z hz
   ·rw [zhe.1 hz]; exact hmem)
  have gl2:∀ x:IObj,(x::J2)[1+b]?=some (.cells (A.flatMap arG)):=fun x=>by rw [Nat.add_comm 1 b,zgc]; exact hb2.1
  have sl2:∀ (x y:IObj),(x::J2).set (1+b) y=x::J2.set b y:=fun x y=>by rw [Nat.add_comm 1 b,zim]
  have hfit:k*4+2+1<=(A.flatMap arG).length:=by rw [zq y3]; omega
  have hwr:wrN (A.flatMap arG) (k*4+2) [iv2]=(A.set k { a with iv:=iv2,ic:=a.ic++[c] }).flatMap arG:=zbh y3 ha (by simp) rfl
  have sc2:=hO2.scal
  have cl2:=hO2.cells
  have glx:∀ (x:IObj) (u v:IObj),(x::(J++[u,v]))[1+b]?=some (.cells (A.flatMap arG)):=fun x u v=>gl x _
  simp only [V0,sevalprocAttr,hfr,h,hrv,hlv,hir,gr,hrd,hic,hrc,hab,evL]
  rw [hlv] at hfind
  refine ⟨by simp [comm],?_⟩
  simp only [V0,sevalprocAttr,hfr,hlv,hip,hrp,hfind,hil,glx,hra,rep,zt,zJ,zT,zch,happ,gl2,sl2,hfit,hwr,sc2,cl2,hw]
  exact hnA _ (rc.length - (i+1)) (by omega) ⟨i+1,_,_,_,by omega,by omega,hset,hX2 _,rfl,by simp only [V0,sevalprocAttr,hfr,hw,hlv,hrv]⟩
 ·simp only [V0,sevalprocAttr,hfr,h]
  refine heA _ _ ?_
  simp only [V0,sevalprocAttr,hfr]
  rw [zgg (by omega)] at hX
  refine hK _ _ _ _ ⟨hD.l,hD.ne,hD.len,hD.r,hD.rl,hD.rU,fun j x hx=>by
   obtain ⟨q1,q2,q3,q4⟩:=hD.el j x hx
   exact ⟨q1,q2,by omega,q4⟩⟩ hX (by simp only [V0,sevalprocAttr,hfr])
theorem div_threeX (hS:NoS S) {m D:Nat} {out:yLM} {K:yKM} (p:Pn) (hpa:p.az.l.length<=1000000) (hpn:p.ns.l.length<=1000000) (cs:SlOf 1 cyG) (hcl:cs.l.length<=65536) (hm:p.ns.l.length+p.az.l.length+20<=m) (L:List (Int × SlOf 2 Pt.c)) (J0:yLO) (B0:Nat->Nat) (lv:IV) (A0:List ArB) (rv:IV) (rc:List (SlOf 1 intc)) (h0:DivOK D cs.l cs.l.length cs.l.length 0 J0 B0 lv A0 rv rc)
  (hfd:∀ n∈p.ns.l,FindX S p m (cs.l.length+1) cs.l L n.at')
  (t:List IV) (hfr:Slots 110 t [(2,.mapC (mKs L) (mVs plV L)),(3,.ptrM D 0 0),(7,lv)])
  (hK:∀ t' J B A,DivOK D cs.l cs.l.length cs.l.length p.ns.l.length J B lv A rv rc->A.map shpB=A0.map shpB->Slots 110 t' [(7,lv)]->K .normal ⟨t',.cells [p.ns.v,p.az.v,p.fs.v]::J⟩) :
  Ex (callN Ftab S m) D out m (i75.body.sub [1,1,1,1,1,0]) K ⟨t,.cells [p.ns.v,p.az.v,p.fs.v]::J0⟩:=by
 simp only [V3] at hfr
 simp only [i75,IC.sub,V0,sevalprocAttr,hfr]
 refine zd (fun jj st=>∃ (i:Nat) (J:yLO) (B:Nat->Nat) (A:List ArB),p.ns.l.length - i<=jj/\i<=p.ns.l.length/\DivOK D cs.l cs.l.length cs.l.length i J B lv A rv rc/\A.map shpB=A0.map shpB/\st.own=.cells [p.ns.v,p.az.v,p.fs.v]::J/\Slots 110 st.t [(2,.mapC (mKs L) (mVs plV L)),(3,.ptrM D 0 0),(7,lv),(79,p.ns.v),(80,iv (p.ns.l.length:Nat)),(81,iv i)]) p.ns.l.length (by omega) ⟨0,J0,B0,A0,by omega,by omega,h0,rfl,rfl,by simp only [V0,sevalprocAttr,hfr,zg4]⟩ ?_
 clear hfr h0
 rintro jj ⟨t,own⟩ KA ⟨i,J,B,A,hjj,hi,hD,hX,ho,hfr⟩ hnA heA hrA
 dsimp only at ho hfr
 subst ho
 simp only [V3] at hfr
 by_cases h:i<p.ns.l.length
 ·have hx:p.ns.l[i]?=some p.ns.l[i]:=zf0 h
  have hfy:=hfd _ (zgt h)
  generalize p.ns.l[i]=nd at hx hfy
  have hrd:rdN (p.ns.l.flatMap Nd.c) (i*3) 3=some [.int .i64 nd.id,.int .i64 nd.at'.x,.int .i64 nd.at'.y]:=(zb Nd.c_len 0 3 hx (by omega)).trans rfl
  have hw:wrapI .i64 ((i:Int)+1)=((i+1:Nat):Int):=we
  have cd:=at_degree hS p nd.id hpa m (by omega)
  simp only [Pn.c,zf] at cd
  cases hdz:(((degN p.az.l nd.id:Nat):Int)==0)
  ·simp only [V0,sevalprocAttr,hfr,h,za p.ns h,hrd,cd,hdz,hw]
   refine hnA _ (p.ns.l.length - (i+1)) (by omega) ⟨i+1,_,B,A,by omega,by omega,?_,hX,rfl,by simp only [V0,sevalprocAttr,hfr,hw]⟩
   have:=hD.more [.cells [.int .i64 nd.id,.int .i64 nd.at'.x,.int .i64 nd.at'.y],.free]
   exact ⟨this.l,this.ne,this.len,this.r,this.rl,this.rU,fun j x hx=>by
    obtain ⟨q1,q2,q3,q4,q5⟩:=this.el j x hx
    exact ⟨q1,q2,q3,by omega,q5⟩⟩
  ·obtain ⟨b,hlv,hb,hB⟩:=hD.blk
   have gl:∀ (x:IObj) (R:yLO),(x::(J++R))[1+b]?=some (.cells (A.flatMap arG)):=fun x R=>by rw [Nat.add_comm 1 b,zgc,zf1 (zfz.1 hb).1]; exact hb
   have hlA:A.length<=cs.l.length+1:=hD.len
   have hbl:=(zfz.1 hb).1
   obtain ⟨k,hk,hfind⟩:∃ k:Nat,k<A.length/\∀ id,callN Ftab S m D out (.cells [p.ns.v,p.az.v,p.fs.v]::(J++[.cells [.int .i64 nd.id,.int .i64 nd.at'.x,.int .i64 nd.at'.y],.free,.free])) (.cells [p.ns.v,p.az.v,p.fs.v]::(J++[.cells [.int .i64 nd.id,.int .i64 nd.at'.x,.int .i64 nd.at'.y],.free,.free])) id 120 [.mapC (mKs L) (mVs plV L),lv,.agg [.int .i64 nd.at'.x,.int .i64 nd.at'.y]]=some (.r,.int .i64 (k:Nat),.cells [p.ns.v,p.az.v,p.fs.v]::(J++[.cells [.int .i64 nd.id,.int .i64 nd.at'.x,.int .i64 nd.at'.y],.free,.free])):=by
    have hk:=fdX_lt (p:=p) (q:=nd.at') hD.ne
    have hc:=hfy A hD.ne hlA hD.oc D out (.cells [p.ns.v,p.az.v,p.fs.v]::(J++[.cells [.int .i64 nd.id,.int .i64 nd.at'.x,.int .i64 nd.at'.y],.free,.free])) (.cells [p.ns.v,p.az.v,p.fs.v]::(J++[.cells [.int .i64 nd.id,.int .i64 nd.at'.x,.int .i64 nd.at'.y],.free,.free])) 0 (1+b) (gl _ _)
    refine ⟨fdX p A nd.at',hk,fun id=>?_⟩
    rw [hlv]
    simp only [Pt.c,zf] at hc
    rw [← hc]
    exact mode0_id (ns hS (by rfl)) rfl rfl
   obtain ⟨a,ha⟩:=gx (l:=A) (i:=k) hk
   have hX2:=fun av2=>(shp_set (av2:=av2) (al2:=a.al++[nd.id]) ha).trans hX
   obtain ⟨g1,g2,g3,g4,g5,g6,g7⟩:=hD.el k a ha
   have hra:rdN (A.flatMap arG) (k*4+3) 1=some [a.av]:=(arG_rd ha (by omega)).trans rfl
   have hil:∀ own,iaddrV own 4 (.slM D (1+b) 0 A.length A.length 4 false) (.int .i64 (k:Int))=some (.p,.ptrM D (1+b) (k*4),own):=fun own=>by
    have:=zK (own:=own) (l:=D) (b:=1+b) (off:=0) (cap:=A.length) (z:=4) (z':=4) (tight:=false) (k:=.i64) hk
    rw [zg5] at this
    exact this
   obtain ⟨e,av2,J2,happ,hee,hO2,hl2,hoth⟩:=zbg (k0:=1) (Pre:=[.cells [p.ns.v,p.az.v,p.fs.v]]) (n0:=J.length+3+1) (slot:=0) (k:=3) (R:=[.cells [.int .i64 nd.id,.int .i64 nd.at'.x,.int .i64 nd.at'.y],.free,.free,.free]) zk rfl g2 (ys:=[nd.id]) (by simp) (by simp only [zf3,zgb]; omega) (by omega) rfl rfl
   have hhid:∀ (j:Nat) (x:IObj),j<J.length+3+1->(IObj.cells [p.ns.v,p.az.v,p.fs.v]::(J++[.cells [.int .i64 nd.id,.int .i64 nd.at'.x,.int .i64 nd.at'.y],.free,.free,.free]))[j]?=some x->(hide [] (J.length+3+1) (IObj.cells [p.ns.v,p.az.v,p.fs.v]::(J++[.cells [.int .i64 nd.id,.int .i64 nd.at'.x,.int .i64 nd.at'.y],.free,.free,.free])))[j]?=some x:=fun j x hj hx=>by
    rw [zw,hx]
    simp [hj]
   have happ:=happ (look D out (hide [] (J.length+3+1) (.cells [p.ns.v,p.az.v,p.fs.v]::(J++[.cells [.int .i64 nd.id,.int .i64 nd.at'.x,.int .i64 nd.at'.y],.free,.free,.free])))) (fun j x hj hx=>by simp only [look,if_true]; exact hhid j x (by omega) hx)
   simp only [zgq,zgz,zgj,zh4,intc,zf,zf3,zgb,zhc,zg5] at happ
   have hg1:=hhid (1+b) _ (by omega) (gl _ _)
   have hg2:=hhid (J.length+1) (.cells [.int .i64 nd.id,.int .i64 nd.at'.x,.int .i64 nd.at'.y]) (by omega) (by simp)
   have hb2:J2[b]?=some (.cells (A.flatMap arG))/\putB B (J.length+3) (3+2*k) b=0:=by
    rcases hoth (by omega) hD.l with ⟨h1,_⟩ | ⟨b',_,h1,h2,h3⟩
    ·exact absurd h1 hD.ne
    ·rw [hlv] at h1
     injection h1 with _ hbb
     have:b'=b:=by omega
     subst this
     exact ⟨h2,h3⟩
   have hset:=hD.set hlv hb2.1 hb2.2 ha (a':={ a with av:=av2,al:=a.al++[nd.id] }) rfl (hoth (by omega) hD.r) (m2:=cs.l.length) (m3:=i+1) (by omega) (by omega) (fun j x hx hj=>by
    obtain ⟨q1,q2,_⟩:=hD.el j x hx
    exact ⟨hoth (by omega) q1,hoth (by omega) q2⟩) (hoth (by omega) g1) hO2 g3 (by simp only [zga,zf3,zgb]; omega) g5
   have gl2:∀ x:IObj,(x::J2)[1+b]?=some (.cells (A.flatMap arG)):=fun x=>by rw [Nat.add_comm 1 b,zgc]; exact hb2.1
   have sl2:∀ (x y:IObj),(x::J2).set (1+b) y=x::J2.set b y:=fun x y=>by rw [Nat.add_comm 1 b,zim]
   have hfit:k*4+3+1<=(A.flatMap arG).length:=by rw [zq y3]; omega
   have hwr:wrN (A.flatMap arG) (k*4+3) [av2]=(A.set k { a with av:=av2,al:=a.al++[nd.id] }).flatMap arG:=zbh y3 ha (by simp) rfl
   have sc2:=hO2.scal
   have cl2:=hO2.cells
   rw [hlv] at hfind
   simp only [V0,sevalprocAttr,hfr,h,za p.ns h,hrd,cd,hdz,hlv,hfind,hil,hg1,hg2,hra,rep,zt,zJ,zT,yD,happ,gl2,sl2,hfit,hwr,sc2,cl2,hw]
   refine ⟨?_,?_⟩
   ·rcases hee with rfl | ⟨_,_,rfl⟩ <;> simp [comm]
   ·simp only [V0,sevalprocAttr,hfr,hlv,hw]
    exact hnA _ (p.ns.l.length - (i+1)) (by omega) ⟨i+1,_,_,_,by omega,by omega,hset,hX2 _,rfl,by simp only [V0,sevalprocAttr,hfr,hw,hlv]⟩
 ·simp only [V0,sevalprocAttr,hfr,h]
  refine heA _ _ ?_
  simp only [V0,sevalprocAttr,hfr]
  refine hK _ _ _ _ ⟨hD.l,hD.ne,hD.len,hD.r,hD.rl,hD.rU,fun j x hx=>by
   obtain ⟨q1,q2,q3,q4,q5⟩:=hD.el j x hx
   exact ⟨q1,q2,q3,by omega,q5⟩⟩ hX (by simp only [V0,sevalprocAttr,hfr])
theorem divide_runX (hS:NoS S) (p:Pn) (hg:Good0 p) (hv:∀ a∈p.az.l,a.via.l.length<=900) (hfv:FewVia p) (hal:p.az.l.length<=200) (hpn:p.ns.l.length<=1000000) (cs:SlOf 1 cyG) (hcs:cs.l.map (·.l)=cyclesR p) (L:List (Int × SlOf 2 Pt.c)) (hL:PathsX p L) :
  ∃ N,∀ m,N<=m->∀ d out ownV own id,∃ As:SlOf 4 arF,callN Ftab S m d out ownV own id 75 [.agg p.c,cs.v,.mapC (mKs L) (mVs plV L)]=some (.r,As.v,own)/\AreasOK cs.l As.l/\RegsX p As.l:=by
 have hpa:p.az.l.length<=1000000:=by omega
 have hcm:∀ c∈cs.l,c.l∈cyclesR p:=fun c hc=>by rw [← hcs]; exact List.mem_map_of_mem hc
 have hcd:∀ c∈cs.l,∀ z∈c.l,z∈dartsR p:=fun c hc=>hg.cyc_sub (hcm c hc)
 have hcl:cs.l.length<=65536:=by
  have h1:cs.l.length=(cyclesR p).length:=by rw [← hcs,zgw]
  have h2:=YR (cycR (folD p) (folN p)) id (dartsR p) [] []
  have h3:(dartsR p).length=2*p.az.l.length:=by unfold dartsR; rw [zga,zgw,zgw,List.length_reverse]; omega
  rw [h1]
  unfold cyclesR
  simp only [zgb] at h2
  omega
 have htw:∀ c∈cs.l,∃ N,∀ m,N<=m->∀ d out ownV own id,callN Ftab S m d out ownV own id 119 [.agg p.c,c.v]=some (.r,.int .i64 (hg.net.twX c.l),own):=fun c hc=>twice_runX hS p hg hv hfv c (hcd c hc) (hg.cycles hal c.l (hcm c hc)).1
 have hnd:∀ c∈nilC::cs.l,∀ z∈c.l,z∈dartsR p:=fun c hc=>by
  rcases zgf.1 hc with rfl | hc
  ·exact fun z hz=>absurd hz zg1
  ·exact hcd c hc
 have hfx:∀ q:Pt,q.near->∃ N,∀ m,N<=m->FindX S p m (cs.l.length+1) cs.l L q:=fun q hq=>by
  obtain ⟨N,hN⟩:=find_runX hS p hg (nilC::cs.l) hnd L hL q hq
  exact ⟨N+cs.l.length+1,fun m hm A hA hl hU' D out ownV own id b hb=>hN A m (by omega) hA (by omega) hU' D out ownV own id b hb⟩
 have hfc:∀ c∈cs.l,∃ N,∀ m,N<=m->∃ (y:Pt) (h:Int) (r:List Int),c.l=h::r/\(lkM nilP L (absI h)).l[0]?=some y/\y=startF p c.l/\FindX S p m (cs.l.length+1) cs.l L y:=fun c hc=>by
  obtain ⟨z,hz,e⟩:=Good0.of_cycle (hcm c hc)
  obtain ⟨h,r,h1⟩:∃ h r,c.l=h::r:=by
   cases hcc:c.l with
   | nil=>exact absurd hcc (hg.cycles hal c.l (hcm c hc)).2.1
   | cons h r=>exact ⟨h,r,rfl⟩
  have hhD:=hcd c hc h (by rw [h1]; exact zgi ..)
  obtain ⟨a,ha,hab,_,_,_,hpl⟩:=hg.dart_arc hhD
  have h2:(lkM nilP L (absI h)).l=lineR p a:=by
   rw [hab]
   exact (hL a ha).trans (hg.nice.path ha).2
  have h3:startF p c.l=(nodeD p a.fr).at':=by
   unfold startF
   rw [h1]
   show ((pathL p (absI h))[0]?).getD ⟨0,0⟩=_
   rw [hpl]
   rfl
  obtain ⟨N,hN⟩:=hfx (startF p c.l) (by rw [h3]; exact Yb (hg.nice.npt _ (yf (hg.nice.fr a ha)).1))
  exact ⟨N,fun m hm=>⟨_,h,r,h1,by rw [h2,h3]; rfl,rfl,hN m hm⟩⟩
 have hfn:∀ n∈p.ns.l,∃ N,∀ m,N<=m->FindX S p m (cs.l.length+1) cs.l L n.at':=fun n hn=>hfx n.at' (Yb (hg.nice.npt n hn))
 obtain ⟨N1,hN1⟩:=Yv cs.l htw
 obtain ⟨N2,hN2⟩:=Yv cs.l hfc
 obtain ⟨N3,hN3⟩:=Yv p.ns.l hfn
 refine ⟨N1+N2+N3+cs.l.length+p.ns.l.length+p.az.l.length+40,fun m hm d out ownV own id=>?_⟩
 obtain ⟨m,rfl⟩:∃ q,m=q+6:=⟨m - 6,by omega⟩
 have main:∃ v,callN Ftab S (m+5+1) d out ownV own id 75 [.agg p.c,cs.v,.mapC (mKs L) (mVs plV L)]=some (.r,v,own)/\∃ As:SlOf 4 arF,v=As.v/\AreasOK cs.l As.l/\RegsX p As.l:=by
  refine ZV (i:=i75) (ns hS (by rfl)) rfl rfl (lb rfl) fun t hfr=>?_
  simp only [V2,Xb,i75,Pn.c] at hfr
  generalize (fun l=>if l=d then ownV else out l:yLM)=out2
  suffices hsuf:∀ K:yKM,(∀ t' J B lv A rv rc,DivOK (d+1) cs.l cs.l.length cs.l.length p.ns.l.length J B lv A rv rc->DivX p hg.net cs.l A->Slots 110 t' [(6,lv)]->K .ret ⟨t',.cells [p.ns.v,p.az.v,p.fs.v]::J⟩)->Ex (callN Ftab S (m+5)) (d+1) out2 (m+5) i75.body K ⟨t,[]⟩ from hsuf _ fun t' J B lv A rv rc hD hX ht=>by
   simp only [ze,zg] at ht
   rw [Zs]
   obtain ⟨b,hlv,hb,hB⟩:=hD.blk
   obtain ⟨As,h1,h2,h3⟩:=areas_fz (A:=A) (f:=freeze (m+4) (d+1) (.cells [p.ns.v,p.az.v,p.fs.v]::J)) (Q:=fun a a'=>a'.oc=a.oc/\a'.ic.l=a.ic/\a'.tw=a.tw) fun a ha=>by
    obtain ⟨i,hi⟩:=zg7 ha
    obtain ⟨q1,q2,q3,q4,q5⟩:=hD.el i a hi
    have f1:=ownT_fz (Pre:=[.cells [p.ns.v,p.az.v,p.fs.v]]) (n:=m+3) yM rfl (fun c x hx=>by
     simp only [cyG,zgf,zg1,or_false] at hx
     subst hx
     exact (yK (fun a x hx=>by
      simp only [intc,zgf,zg1,or_false] at hx
      subst hx
      exact zo) c).le (by omega)) (by omega) q1
    have f2:=ownT_fz (Pre:=[.cells [p.ns.v,p.az.v,p.fs.v]]) (n:=m+3) zk rfl (fun c x hx=>by
     simp only [intc,zgf,zg1,or_false] at hx
     subst hx
     exact zo.le (by omega)) (by omega) q2
    simp only [zgq,zgz] at f1 f2
    have f3:freeze (m+4) (d+1) (.cells [p.ns.v,p.az.v,p.fs.v]::J) a.oc.v=some a.oc.v:=yK (fun a x hx=>by
      simp only [intc,zgf,zg1,or_false] at hx
      subst hx
      exact zo) a.oc _ (by omega) _ _
    refine ⟨⟨a.tw,a.oc,rowQ yM a.ic (by omega),rowQ zk a.al (by omega)⟩,⟨rfl,Y5 _ _ _,rfl⟩,?_⟩
    have f0:freeze (m+4) (d+1) (.cells [p.ns.v,p.az.v,p.fs.v]::J) (.int .i64 a.tw)=some (.int .i64 a.tw):=rfl
    simp only [arG,arF,zhy,List.mapM_nil,f0,f1,f2,f3,zio,zia,zge]
   have hne:As≠[]:=fun he=>hD.ne (by rw [he] at h1; exact zhd.1 h1.symm)
   have hlen:=hD.len
   refine ⟨lv,(rowQ arF_len As (by omega)).v,by simp only [i75,V0,sevalprocAttr,ht],?_,rowQ arF_len As (by omega),rfl,?_⟩
   ·rw [hlv,frz_list y3 h3 (by rw [Nat.add_comm 1 b,zgc]; exact hb)]
    rw [← h1]
    cases As with
    | nil=>exact absurd rfl hne
    | cons _ _=>rfl
   ·rw [Y5]
    refine ⟨⟨hne,by omega,fun i a' ha'=>?_⟩,hX.regs hg hv hal hcs h1 fun i a ha=>h2 i a ha⟩
    have hi:i<A.length:=by rw [← h1]; exact (zfz.1 ha').1
    obtain ⟨a2,hx,hq1,hq2,_⟩:=h2 i A[i] (zf0 hi)
    rw [ha'] at hx
    cases hx
    obtain ⟨_,_,q3,q4,q5,q6,q7⟩:=hD.el i _ (zf0 hi)
    rw [hq1,hq2]
    exact ⟨q3,q5,q6,q7⟩
  intro K fin
  rw [show i75.body=.seq (i75.body.sub [0]) (.seq (i75.body.sub [1,0]) (.seq (i75.body.sub [1,1,0]) (.seq (i75.body.sub [1,1,1,0]) (.seq (i75.body.sub [1,1,1,1,0]) (.seq (i75.body.sub [1,1,1,1,1,0]) (i75.body.sub [1,1,1,1,1,1])))))) from rfl]
  have hL1:=fun {K:yKM} mv J0 B0 lv0 A0 h0 h1 htw t hfr hK=>@div_oneX S hS (fun c=>hg.net.twX c.l) (m+5) (d+1) out2 K p cs hcl (by omega) mv J0 B0 lv0 A0 h0 h1 htw t hfr hK
  have hL2:=fun {K:yKM} J0 B0 lv A0 rv rc h0 h1 hfd t hfr hK=>@div_twoX S hS (m+5) (d+1) out2 K p cs hcl (by omega) L J0 B0 lv A0 rv rc h0 h1 hfd t hfr hK
  have hL3:=fun {K:yKM} J0 B0 lv A0 rv rc h0 hfd t hfr hK=>@div_threeX S hS (m+5) (d+1) out2 K p hpa hpn cs hcl (by omega) L J0 B0 lv A0 rv rc h0 hfd t hfr hK
  generalize i75.body.sub [1,1,1,0]=T1 at hL1 ⊢
  generalize i75.body.sub [1,1,1,1,0]=T2 at hL2 ⊢
  generalize i75.body.sub [1,1,1,1,1,0]=T3 at hL3 ⊢
  simp only [i75,IC.sub,V0,sevalprocAttr,hfr,rep,ev_mslice,e_mslice,mkAt]
  refine hL1 (.mapC (mKs L) (mVs plV L)) [.cells [.int .i64 0,.nilsl,.nilsl,.nilsl]] (fun _=>0) (.slM (d+1) 1 0 1 1 4 false) [⟨0,nilC,.nilsl,[],.nilsl,[]⟩] ⟨.inr ⟨0,by simp,rfl,rfl,rfl⟩,by simp,by simp,.inl ⟨rfl,rfl⟩,zf7 _,fun _ h=>by simp at h,fun i a ha=>?_⟩ Div1.zero (fun c hc=>hN1 c hc (m+5) (by omega)) _ (by simp only [V0,sevalprocAttr,hfr]) fun t1 J1 B1 lv1 A1 rv rc hD1 hX1 ht1=>?_
  ·cases i with
   | succ i=>simp at ha
   | zero =>
    simp only [zg8,zf5] at ha
    subst ha
    exact ⟨.inl ⟨rfl,rfl⟩,.inl ⟨rfl,rfl⟩,zf7 _,zf7 _,fun _ h=>by simp at h,fun h=>by omega,zgi ..⟩
  simp only [V0,sevalprocAttr]
  refine hL2 J1 B1 lv1 A1 rv rc hD1 hX1.start (fun c hc=>hN2 c hc (m+5) (by omega)) t1 ht1 fun t2 J2 B2 A2 hD2 hX2 ht2=>?_
  simp only [V0,sevalprocAttr]
  refine hL3 J2 B2 lv1 A2 rv rc hD2 (fun n hn=>hN3 n hn (m+5) (by omega)) t2 ht2 fun t3 J3 B3 A3 hD3 hX3 ht3=>?_
  simp only [ze,zg] at ht3
  simp only [i75,IC.sub,V0,sevalprocAttr,ht3]
  exact fin _ _ _ _ _ _ _ hD3 (DivX.of hX1 hX2 hX3) (by simp only [V0,sevalprocAttr,ht3])
 obtain ⟨v,h1,As,rfl,h2⟩:=main
 exact ⟨As,h1,h2⟩
theorem divide_givesX (hT:TabCl Ftab) (hSc:SumCl S) (hS:NoS S) (p:Pn) (hg:Good0 p) (hv:∀ a∈p.az.l,a.via.l.length<=900) (hfv:FewVia p) (hal:p.az.l.length<=200) (hpn:p.ns.l.length<=1000000) (cs:SlOf 1 cyG) (hcs:cs.l.map (·.l)=cyclesR p) (L:List (Int × SlOf 2 Pt.c)) (hL:PathsX p L) :
  ∃ As:SlOf 4 arF,(AreasOK cs.l As.l/\RegsX p As.l)/\∃ N,GivesN S N 75 [.agg p.c,cs.v,.mapC (mKs L) (mVs plV L)] As.v:=by
 obtain ⟨N,hN⟩:=divide_runX hS p hg hv hfv hal hpn cs hcs L hL
 obtain ⟨As,h1,h2⟩:=hN N (zf7 _) 0 (fun _=>[]) [] [] 0
 refine ⟨As,h2,N,YO hT hSc (ns hS (by rfl)) rfl rfl (fun k=>?_) (ze9 As 1) h1⟩
 simp only [zg3,zh9,map_sh,pn_sh,clF_sh (cyc_cl cs 2)]
end
end
section
theorem zaf {α:Type} {f g:α->Bool}:∀ {l:List α},(∀ x∈l,f x=g x)->l.all f=l.all g
 | [],_=>rfl
 | x::l,h=>by rw [zhr,zhr,h x (zgi ..),zaf fun y hy=>h y (zgn _ hy)]
def seenL (fs:List Int):List (Int × Bool):=fs.map fun k=>(k,true)
theorem seenL_len {fs:List Int}:(seenL fs).length=fs.length:=zgw ..
theorem zfs {k:Int}:∀ {fs:List Int},lkM false (seenL fs) k=fs.contains k
 | []=>rfl
 | f::fs=>by
  have ih:=zfs (k:=k) (fs:=fs)
  unfold lkM seenL at ih ⊢
  rw [zg3,List.find?_cons,List.contains_cons]
  cases h:k==f
  ·simp only [h]
   rw [ih]
   rfl
  ·simp only [h]
   rfl
theorem put_seenL {f:Int} {fs:List Int} (h:fs.contains f=false):putM (seenL fs) f true=seenL (fs++[f]):=by
 have hn:((seenL fs).findIdx? fun kv=>f==kv.1)=none:=by
  rw [zij]
  intro kv hkv
  obtain ⟨k,hk,rfl⟩:=zgx.1 hkv
  cases e:f==k
  ·rfl
  ·rw [eq_of_beq e,zgh.2 hk] at h
   cases h
 unfold putM
 rw [hn]
 unfold seenL
 rw [zir]
 rfl
noncomputable def fcP (p:Pn):Option (List Int)->Bool
 | none=>false
 | some fs=>((fs.length:Int)==(p.fs.l.length:Int))
section
variable {S:ySM}
theorem fc_innerX (hS:NoS S) {m D:Nat} {out:yLM} {K:yKM} (p:Pn) (q:SlOf 1 cyG) (hq:q.l.length<=1000000) (hm:q.l.length+200010<=m) (hcl:∀ c∈q.l,c.l.length<=200000) (hside:∀ c∈q.l,∀ z∈c.l,∀ d out ownV own id,callN Ftab S m d out ownV own id 122 [.agg p.c,iv z]=some (.r,.int .i64 (sideZ p z),own))
  (t:List IV) (face:Int) (i n:Nat) (lv asv:IV) (x1:IObj) (J:yLO)
  (hfr:Slots 71 t [(2,.ptrM D 0 0),(4,lv),(6,.mapM D 1),(9,.int .i64 face),(15,asv),(16,iv n),(17,iv i),(40,q.v),(41,iv (q.l.length:Nat)),(42,.int .i64 0)])
  (hK:∀ t' R,Slots 71 t' [(2,.ptrM D 0 0),(4,lv),(6,.mapM D 1),(9,.int .i64 face),(15,asv),(16,iv n),(17,iv i)]->(q.l.all fun c=>c.l.all fun z=>sideZ p z==face)=true->K .normal ⟨t',.cells [p.ns.v,p.az.v,p.fs.v]::x1::(J++R)⟩)
  (hR:∀ t' O,Slots 71 t' [(4,.nilsl),(5,.bool false)]->(q.l.all fun c=>c.l.all fun z=>sideZ p z==face)=false->K .ret ⟨t',O⟩) :
  Ex (callN Ftab S m) D out m (i76.body.sub [1,1,0,1,0,0,1,1,0,0,1,1,1,0,1]) K ⟨t,.cells [p.ns.v,p.az.v,p.fs.v]::x1::J⟩:=by
 simp only [V3] at hfr
 have hqf:=q.few
 simp only [i76,IC.sub,V0,sevalprocAttr]
 refine zd (fun jj st=>∃ (k:Nat) (R:yLO),q.l.length - k<=jj/\k<=q.l.length/\((q.l.take k).all fun c=>c.l.all fun z=>sideZ p z==face)=true/\st.own=.cells [p.ns.v,p.az.v,p.fs.v]::x1::(J++R)/\Slots 71 st.t [(2,.ptrM D 0 0),(4,lv),(6,.mapM D 1),(9,.int .i64 face),(15,asv),(16,iv n),(17,iv i),(40,q.v),(41,iv (q.l.length:Nat)),(42,iv k)]) q.l.length (by omega) ⟨0,[],by omega,by omega,rfl,by rw [zhc],by simp only [V0,sevalprocAttr,hfr,zg4]⟩ ?_
 clear hfr
 rintro jj ⟨t,own⟩ KA ⟨k,R,hjj,hk,hA1,ho,hfr⟩ hnA heA hrA
 dsimp only at ho hfr
 subst ho
 simp only [V3] at hfr
 by_cases h:k<q.l.length
 ·have hx:q.l[k]?=some q.l[k]:=zf0 h
  have hc:=hcl _ (zgt h)
  have hcm:=zgt h
  have hsd:=hside _ (zgt h)
  generalize q.l[k]=c at hx hc hsd hcm
  have hrd:rdN (q.l.flatMap cyG) (k*1) 1=some [c.v]:=(zb yM 0 1 hx (by omega)).trans rfl
  have hw:wrapI .i64 ((k:Int)+1)=((k+1:Nat):Int):=we
  have hcf:=c.few
  simp only [V0,sevalprocAttr,hfr,h,za q h,hrd]
  refine zd (fun jj st=>∃ (l:Nat) (R:yLO),c.l.length - l<=jj/\l<=c.l.length/\((c.l.take l).all fun z=>sideZ p z==face)=true/\st.own=.cells [p.ns.v,p.az.v,p.fs.v]::x1::(J++R)/\Slots 71 st.t [(2,.ptrM D 0 0),(4,lv),(6,.mapM D 1),(9,.int .i64 face),(15,asv),(16,iv n),(17,iv i),(40,q.v),(41,iv (q.l.length:Nat)),(42,iv k),(46,c.v),(47,iv (c.l.length:Nat)),(48,iv l)]) c.l.length (by omega) ⟨0,R,by omega,by omega,rfl,rfl,by simp only [V0,sevalprocAttr,hfr,zg4]⟩ ?_
  clear hfr
  rintro jj ⟨t,own⟩ KB ⟨l,R,hjj2,hl,hA2,ho,hfr⟩ hnB heB hrB
  dsimp only at ho hfr
  subst ho
  simp only [V3] at hfr
  by_cases h2:l<c.l.length
  ·have hx2:c.l[l]?=some c.l[l]:=zf0 h2
   have hz:=hsd _ (zgt h2)
   have hzm:=zgt h2
   generalize c.l[l]=z at hx2 hz hzm
   have hrd2:rdN (c.l.flatMap intc) (l*1) 1=some [.int .i64 z]:=(zb zk 0 1 hx2 (by omega)).trans rfl
   have hw2:wrapI .i64 ((l:Int)+1)=((l+1:Nat):Int):=we
   simp only [Pn.c,zf] at hz
   cases hb:(sideZ p z != face)
   ·simp only [V0,sevalprocAttr,hfr,h2,za c h2,hrd2,hz,hb,hw2]
    exact hnB _ (c.l.length - (l+1)) (by omega) ⟨l+1,R++[.free],by omega,by omega,by rw [zhb,hx2,zhq,List.all_append,hA2]; simpa [bne] using hb,rfl,by simp only [V0,sevalprocAttr,hfr,hw2]⟩
   ·simp only [V0,sevalprocAttr,hfr,h2,za c h2,hrd2,hz,hb]
    refine hrB _ ?_
    simp only [V0,sevalprocAttr]
    refine hrA _ ?_
    simp only [V0,sevalprocAttr]
    refine hR _ _ (by simp only [V0,sevalprocAttr,hfr]) ?_
    rw [List.all_eq_false]
    refine ⟨c,hcm,?_⟩
    rw [zh8,List.all_eq_false]
    exact ⟨z,hzm,by simpa [bne] using hb⟩
  ·simp only [V0,sevalprocAttr,hfr,h2]
   refine heB _ _ ?_
   simp only [V0,sevalprocAttr,hfr,hw]
   exact hnA _ (q.l.length - (k+1)) (by omega) ⟨k+1,R,by omega,by omega,by rw [zhb,hx,zhq,List.all_append,hA1]; rw [zgg (by omega)] at hA2; simp [hA2],rfl,by simp only [V0,sevalprocAttr,hfr,hw]⟩
 ·simp only [V0,sevalprocAttr,hfr,h]
  refine heA _ _ ?_
  simp only [V0,sevalprocAttr,hfr]
  rw [zgg (by omega)] at hA1
  exact hK _ _ (by simp only [V0,sevalprocAttr,hfr]) hA1
theorem fc_tailX (hS:NoS S) {m D:Nat} {out:yLM} {K:yKM} (p:Pn) (a:Ar) (q:SlOf 1 cyG) (hq:q.l.length<=1000000) (hm:q.l.length+200010<=m) (hcl:∀ c∈q.l,c.l.length<=200000) (hcyc:∀ d out ownV own id,callN Ftab S m d out ownV own id 123 [.agg (arF a)]=some (.r,q.v,own)) (hside:∀ c∈q.l,∀ z∈c.l,∀ d out ownV own id,callN Ftab S m d out ownV own id 122 [.agg p.c,iv z]=some (.r,.int .i64 (sideZ p z),own))
  (t:List IV) (face:Int) (i n ja:Nat) (lv asv:IV) (x1:IObj) (J:yLO) (xs:List Int) (hO:OwnJ intc 1 D 2 J lv xs) (hx:xs.length<=1000000) (hja:J[ja]?=some (.cells [.int .i64 a.tw,a.oc.v,a.ic.v,a.al.v]))
  (hfr:Slots 71 t [(2,.ptrM D 0 0),(4,lv),(6,.mapM D 1),(8,.ptrM D (ja+1+1) 0),(9,.int .i64 face),(15,asv),(16,iv n),(17,iv i)])
  (hK:∀ t' lv' J',OwnJ intc 1 D 2 J' lv' (xs++[face])->Slots 71 t' [(2,.ptrM D 0 0),(4,lv'),(6,.mapM D 1),(15,asv),(16,iv n),(17,iv i)]->(q.l.all fun c=>c.l.all fun z=>sideZ p z==face)=true->K .normal ⟨t',.cells [p.ns.v,p.az.v,p.fs.v]::x1::J'⟩)
  (hR:∀ t' O,Slots 71 t' [(4,.nilsl),(5,.bool false)]->(q.l.all fun c=>c.l.all fun z=>sideZ p z==face)=false->K .ret ⟨t',O⟩) :
  Ex (callN Ftab S m) D out m (i76.body.sub [1,1,0,1,0,0,1,1,0,0,1,1,1]) K ⟨t,.cells [p.ns.v,p.az.v,p.fs.v]::x1::J⟩:=by
 simp only [V3] at hfr
 rw [show i76.body.sub [1,1,0,1,0,0,1,1,0,0,1,1,1]=.seq (.seq (i76.body.sub [1,1,0,1,0,0,1,1,0,0,1,1,1,0,0]) (i76.body.sub [1,1,0,1,0,0,1,1,0,0,1,1,1,0,1])) (i76.body.sub [1,1,0,1,0,0,1,1,0,0,1,1,1,1]) from rfl]
 have hI:=fun {K:yKM} t lv x1 J hfr hK hR=>@fc_innerX S hS m D out K p q hq hm hcl hside t face i n lv asv x1 J hfr hK hR
 generalize i76.body.sub [1,1,0,1,0,0,1,1,0,0,1,1,1,0,1]=T at hI ⊢
 have fa:(J++[IObj.free])[ja]?=some (.cells [.int .i64 a.tw,a.oc.v,a.ic.v,a.al.v]):=by rw [zf1 (zfz.1 hja).1]; exact hja
 simp only [arF] at hcyc
 simp only [i76,IC.sub,V0,sevalprocAttr,hfr,fa,hcyc]
 refine hI _ lv _ _ (by simp only [V0,sevalprocAttr,hfr]) (fun t' R ht hall=>?_) (fun t' O ht hall=>?_)
 ·clear hfr
  simp only [ze,zg] at ht
  obtain ⟨e,lv',J2,happ,hO2⟩:=za7 (Pre:=[.cells [p.ns.v,p.az.v,p.fs.v],x1]) (J:=J++[IObj.free]++R) (n0:=(J++[IObj.free]++R).length+1+1) (slot:=0) (k:=0) (out:=out) (R:=[.free]) zk ((hO.more [.free]).more R) (ys:=[face]) (by simp) (by simp only [zf3,zgb]; omega) (by simp only [zf3,zgb]; omega) rfl rfl
  simp only [zgq,zgz,zgj,zh4,intc,zf,zf3,zgb,zhc,zg5,zgu] at happ
  simp only [V0,sevalprocAttr,ht,rep,zt,zJ,zT,yD]
  have hn0:(J++.free::R).length=J.length+(R.length+1):=by simp
  simp only [hn0] at happ
  simp only [V0,sevalprocAttr,happ,ht]
  exact hK _ _ _ hO2 (by simp only [V0,sevalprocAttr,ht]) hall
 ·simp only [V0,sevalprocAttr]
  exact hR _ _ ht hall
theorem faces_runX (hS:NoS S) (p:Pn) (hfv:FewVia p) (U:List (SlOf 1 intc)) (hU:U.length<=65536) (hUc:∀ c∈U,c.l.length<=200000) (hUne:∀ c∈U,c.l≠[]) (As:SlOf 4 arF) (hA:AreasOK U As.l) (hA0:∀ a,As.l[0]?=some a->a.tw=0) (hsR:∀ c∈U,∀ z∈c.l,sideZ p z=sideR p z):∃ N,∀ m,N<=m->∀ d out ownV own id,∃ (xs:SlOf 1 intc) (ok:Bool),callN Ftab S m d out ownV own id 76 [.agg p.c,As.v]=some (.r,.tuple [xs.v,.bool ok],own)/\ok=fcP p (facedGo p 0 As.l []):=by
 have hsd:∀ c∈nilC::U,∃ N,∀ m,N<=m->∀ z∈c.l,∀ d out ownV own id,callN Ftab S m d out ownV own id 122 [.agg p.c,iv z]=some (.r,.int .i64 (sideZ p z),own):=fun c _=>by
  have h1:∀ z∈c.l,∃ N,∀ m,N<=m->∀ d out ownV own id,callN Ftab S m d out ownV own id 122 [.agg p.c,iv z]=some (.r,.int .i64 (sideZ p z),own):=fun z _=>at_sideZ hS p z hfv
  obtain ⟨N,hN⟩:=Yv c.l h1
  exact ⟨N,fun m hm z hz=>hN z hz m hm⟩
 have hcy:∀ a∈As.l,∃ N,∀ m,N<=m->∃ q:SlOf 1 cyG,q.l=a.oc::a.ic.l/\∀ d out ownV own id,callN Ftab S m d out ownV own id 123 [.agg (arF a)]=some (.r,q.v,own):=fun a ha=>by
  obtain ⟨i,hi⟩:=zg7 ha
  obtain ⟨q,h1,N,h2⟩:=acyc_gives hS a (by have:=(hA.2.2 i a hi).1; omega)
  exact ⟨N,fun m hm=>⟨q,h1,h2 m hm⟩⟩
 obtain ⟨N1,hN1⟩:=Yv (nilC::U) hsd
 obtain ⟨N2,hN2⟩:=Yv As.l hcy
 have hAl:=hA.2.1
 refine ⟨N1+N2+400000,fun m hm d out ownV own id=>?_⟩
 obtain ⟨m,rfl⟩:∃ q,m=q+6:=⟨m - 6,by omega⟩
 have main:∃ v,callN Ftab S (m+5+1) d out ownV own id 76 [.agg p.c,As.v]=some (.r,v,own)/\∃ (xs:SlOf 1 intc) (ok:Bool),v=.tuple [xs.v,.bool ok]/\ok=fcP p (facedGo p 0 As.l []):=by
  refine ZV (i:=i76) (ns hS (by rfl)) rfl rfl (lb rfl) fun t hfr=>?_
  simp only [V2,Xb,i76,Pn.c] at hfr
  generalize (fun l=>if l=d then ownV else out l:yLM)=out2
  suffices hsuf:∀ K:yKM,(∀ t' x0 x1 J lv xs ok,OwnJ intc 1 (d+1) 2 J lv xs->xs.length<=1000000->ok=fcP p (facedGo p 0 As.l [])->Slots 71 t' [(4,lv),(5,.bool ok)]->K .ret ⟨t',x0::x1::J⟩)->(∀ t' O,Slots 71 t' [(4,.nilsl),(5,.bool false)]->facedGo p 0 As.l []=none->K .ret ⟨t',O⟩)->Ex (callN Ftab S (m+5)) (d+1) out2 (m+5) i76.body K ⟨t,[]⟩ from hsuf _ (fun t' x0 x1 J lv xs ok hO hx hok ht=>by
   simp only [ze,zg] at ht
   rw [Zs]
   have hf:=za6 (Pre:=[x0,x1]) (m:=m+4) zk (fun a x hx=>by
    simp only [intc,zgf,zg1,or_false] at hx
    subst hx
    exact zo) (by omega) (show xs.length<9223372036854775808 by omega) hO
   refine ⟨.tuple [lv,.bool ok],.tuple [(rowQ zk xs (by omega)).v,.bool ok],by simp only [i76,V0,sevalprocAttr,ht],?_,_,ok,rfl,hok⟩
   have h2:freeze (m+4) (d+1) (x0::x1::J) (.bool ok)=some (.bool ok):=rfl
   simp only [zgq,zgz] at hf
   rw [show m+5=(m+4)+1 from rfl]
   unfold freeze
   simp only [zhy,List.mapM_nil,hf,h2,zio,zia,zge,zf2]) (fun t' O ht hno=>by
   simp only [ze,zg] at ht
   rw [Zs]
   exact ⟨.tuple [.nilsl,.bool false],.tuple [nilC.v,.bool false],by simp only [i76,V0,sevalprocAttr,ht],rfl,nilC,false,rfl,by rw [hno]; rfl⟩)
  intro K fin finR
  have haf:=As.few
  rw [show i76.body=.seq (i76.body.sub [0]) (.seq (i76.body.sub [1,0]) (.seq (.seq (i76.body.sub [1,1,0,0]) (.block 0 (.loop (.seq (i76.body.sub [1,1,0,1,0,0,0]) (.seq (i76.body.sub [1,1,0,1,0,0,1,0]) (.seq (.block 1 (.seq (i76.body.sub [1,1,0,1,0,0,1,1,0,0,0]) (.seq (i76.body.sub [1,1,0,1,0,0,1,1,0,0,1,0]) (.seq (i76.body.sub [1,1,0,1,0,0,1,1,0,0,1,1,0]) (i76.body.sub [1,1,0,1,0,0,1,1,0,0,1,1,1]))))) (i76.body.sub [1,1,0,1,0,0,1,1,1]))))))) (.seq (i76.body.sub [1,1,1,0]) (i76.body.sub [1,1,1,1])))) from rfl]
  have hT:=fun {K:yKM} a q hq hm hcl hcyc hside t face i n ja lv asv x1 J xs hO hx hja hfr hK hR=>@fc_tailX S hS (m+5) (d+1) out2 K p a q hq hm hcl hcyc hside t face i n ja lv asv x1 J xs hO hx hja hfr hK hR
  generalize i76.body.sub [1,1,0,1,0,0,1,1,0,0,1,1,1]=T at hT ⊢
  simp only [i76,IC.sub,V0,sevalprocAttr,hfr]
  refine zd (fun jj st=>∃ (i:Nat) (lv:IV) (J:yLO) (Ls:List (Int × Bool)) (bs:List Nat) (ck:Nat) (xs:List Int),As.l.length - i<=jj/\i<=As.l.length/\OwnJ intc 1 (d+1) 2 J lv xs/\xs.length<=i/\(∃ fs:List Int,Ls=seenL fs/\facedGo p i (As.l.drop i) fs=facedGo p 0 As.l [])/\st.own=.cells [p.ns.v,p.az.v,p.fs.v]::.map (mKs Ls) (mVs IV.bool Ls) bs ck::J/\Slots 71 st.t [(2,.ptrM (d+1) 0 0),(4,lv),(6,.mapM (d+1) 1),(15,As.v),(16,iv (As.l.length:Nat)),(17,iv i)]) As.l.length (by omega) ⟨0,.nilsl,[],[],[],0,[],by omega,by omega,.inl ⟨rfl,rfl⟩,by simp,⟨[],rfl,by rw [List.drop_zero]⟩,rfl,by simp only [V0,sevalprocAttr,hfr,zg4]⟩ ?_
  clear hfr
  rintro jj ⟨t,own⟩ KA ⟨i,lv,J,Ls,bs,ck,xs,hjj,hi,hO,hxl,⟨fs,rfl,hG⟩,ho,hfr⟩ hnA heA hrA
  dsimp only at ho hfr
  subst ho
  simp only [V3] at hfr
  by_cases h:i<As.l.length
  ·have hx:As.l[i]?=some As.l[i]:=zf0 h
   obtain ⟨q,hq1,hq2⟩:=hN2 _ (zgt h) (m+5) (by omega)
   rw [List.drop_eq_getElem_cons h] at hG
   generalize As.l[i]=a at hx hq1 hq2 hG
   obtain ⟨a1,a2,a3,a4⟩:=hA.2.2 i a hx
   have hqU:∀ c∈q.l,c∈nilC::U:=fun c hc=>by
    rw [hq1] at hc
    rcases zgf.1 hc with rfl | hc
    ·exact a4
    ·exact zgn _ (a2 c hc)
   have hqc:∀ c∈q.l,c.l.length<=200000:=fun c hc=>by
    rcases zgf.1 (hqU c hc) with rfl | h
    ·exact Nat.zero_le _
    ·exact hUc c h
   have hqs:∀ c∈q.l,∀ z∈c.l,∀ d out ownV own id,callN Ftab S (m+5) d out ownV own id 122 [.agg p.c,iv z]=some (.r,.int .i64 (sideZ p z),own):=fun c hc=>hN1 c (hqU c hc) (m+5) (by omega)
   have hql:q.l.length<=65537:=by rw [hq1,zf3]; omega
   have hrd:rdN (As.l.flatMap arF) (i*4) 4=some [.int .i64 a.tw,a.oc.v,a.ic.v,a.al.v]:=(zb arF_len 0 4 hx (by omega)).trans rfl
   have hw:wrapI .i64 ((i:Int)+1)=((i+1:Nat):Int):=we
   have hall:∀ face,(q.l.all fun c=>c.l.all fun z=>sideZ p z==face)=okReg p { a with tw:=face }:=fun face=>by
    have e1:∀ c∈nilC::U,(c.l.all fun z=>sideZ p z==face)=sidesR p c.l face:=fun c hc=>by
     rcases zgf.1 hc with rfl | hc
     ·rfl
     ·exact zaf fun z hz=>by rw [hsR c hc z hz]
    rw [hq1,zhr,e1 a.oc a4]
    unfold okReg
    congr 1
    exact zaf fun c hc=>e1 c (zgn _ (a2 c hc))
   rw [Yh] at hG
   cases hp:decide ((0:Int)<(i:Int))
   ·have hi0:i=0:=by have:=of_decide_eq_false hp; omega
    have hf0:facR p i a=0:=by rw [hi0]; exact hA0 a (by rw [← hi0]; exact hx)
    rw [hf0,decide_eq_false (show ¬ 0<i by omega),zgo,if_neg (by decide),if_neg (show ¬ 0<i by omega)] at hG
    simp only [V0,sevalprocAttr,hfr,h,za As h,hrd,gt_iff_lt,hp]
    refine hT a q (by omega) (by omega) hqc hq2 hqs _ 0 i As.l.length J.length lv As.v _ _ xs (hO.more _) (by omega) (by simp) (by simp only [V0,sevalprocAttr,hfr]) (fun t' lv' J' hO' ht hok=>?_) (fun t' O ht hok=>?_)
    ·simp only [V3] at ht
     simp only [V0,sevalprocAttr,ht,hw]
     exact hnA _ (As.l.length - (i+1)) (by omega) ⟨i+1,lv',J',seenL fs,bs,ck,_,by omega,by omega,hO',by simp only [zga,zf3,zgb]; omega,⟨fs,rfl,by rw [if_pos (by rw [← hall 0]; exact hok)] at hG; exact hG⟩,rfl,by simp only [V0,sevalprocAttr,ht,hw]⟩
    ·simp only [V0,sevalprocAttr]
     refine hrA _ ?_
     simp only [V0,sevalprocAttr]
     exact finR _ _ ht (by rw [if_neg (by rw [← hall 0,hok]; decide)] at hG; exact hG.symm)
   ·have hi0:0<i:=by have:=of_decide_eq_true hp; omega
    have hoU:=a3 hi0
    obtain ⟨z,r,hzr⟩:∃ z r,a.oc.l=z::r:=by
     cases hl:a.oc.l with
     | nil=>exact absurd hl (hUne _ hoU)
     | cons z r=>exact ⟨z,r,rfl⟩
    have hz:=hN1 a.oc (zgn _ hoU) (m+5) (by omega) z (by rw [hzr]; exact zgi ..)
    have hfz:facR p i a=sideZ p z:=by
     obtain ⟨j,rfl⟩:∃ j,i=j+1:=⟨i - 1,by omega⟩
     show sideR p ((a.oc.l[0]?).getD 0)=_
     rw [hzr]
     exact (hsR a.oc hoU z (by rw [hzr]; exact zgi ..)).symm
    rw [hfz,decide_eq_true hi0,zhj,if_pos hi0] at hG
    have hio:∀ own,iaddrV own 1 a.oc.v (.int .i64 0)=some (.p,.ptrC (a.oc.l.flatMap intc) (0*1),own):=fun own=>za a.oc (i:=0) (by rw [hzr]; simp)
    have hrz:rdN (a.oc.l.flatMap intc) (0*1) 1=some [.int .i64 z]:=(zb (l:=a.oc.l) (i:=0) (x:=z) zk 0 1 (by rw [hzr]; rfl) (by omega)).trans rfl
    simp only [Pn.c,zf] at hz
    have hdA:∀ (x y w z:IObj),(hide [] (J.length+1+1+1) (x::y::(J++[w,z])))[J.length+1+1]?=some w:=fun x y w z=>by rw [zw]; simp
    cases hf0:(sideZ p z==0)
    ·cases hs:lkM false (seenL fs) (sideZ p z)
     ·have evS:∀ (R:yLO) (C:Call) (n0:Nat) (own:yLO) (t:List IV) (a b:Opd),ρ t a=.mapM (d+1) 1->ρ t b=.int .i64 (sideZ p z)->evOp C (d+1) out2 n0 (.cells [p.ns.v,p.az.v,p.fs.v]::.map (mKs (seenL fs)) (mVs IV.bool (seenL fs)) bs ck::R) own t (.lookup (.bool false) (false,[1]) false a b)=some (.r,.bool (lkM false (seenL fs) (sideZ p z)),own):=fun R C n0 own t a b h1 h2=>YA (bs:=bs) (ck:=ck) false (sideZ p z) rfl h1 h2 (by simp only [look,if_true,zgc,zg8])
      have hcon:fs.contains (sideZ p z)=false:=by rw [← zfs]; exact hs
      have hput:=put_seenL hcon
      rw [hf0,hcon,zhm,if_neg (by decide)] at hG
      obtain ⟨bs',ck',hup⟩:=upd_m (u:=IV.bool) (seenL fs) bs ck (sideZ p z) true
      have hup2:=fun C n0 ownV own t a b c=>hup C (d+1) out2 n0 1 ownV own t a b c
      simp only [V0,sevalprocAttr,hfr,h,za As h,hrd,gt_iff_lt,hp,hio,hrz,hz,hdA,evS,hs,hf0]
      refine ⟨by simp [comm],?_⟩
      simp only [V0,sevalprocAttr,hfr,evS,hs,hf0,hup2]
      refine hT a q (by omega) (by omega) hqc hq2 hqs _ (sideZ p z) i As.l.length J.length lv As.v _ _ xs (hO.more _) (by omega) (by simp) (by simp only [V0,sevalprocAttr,hfr]) (fun t' lv' J' hO' ht hok=>?_) (fun t' O ht hok=>?_)
      ·simp only [V3] at ht
       simp only [V0,sevalprocAttr,ht,hw]
       exact hnA _ (As.l.length - (i+1)) (by omega) ⟨i+1,lv',J',_,bs',ck',_,by omega,by omega,hO',by simp only [zga,zf3,zgb]; omega,⟨fs++[sideZ p z],hput,by rw [if_pos (by rw [← hall (sideZ p z)]; exact hok)] at hG; exact hG⟩,rfl,by simp only [V0,sevalprocAttr,ht,hw]⟩
      ·simp only [V0,sevalprocAttr]
       refine hrA _ ?_
       simp only [V0,sevalprocAttr]
       exact finR _ _ ht (by rw [if_neg (by rw [← hall (sideZ p z),hok]; decide)] at hG; exact hG.symm)
     ·have evS:∀ (R:yLO) (C:Call) (n0:Nat) (own:yLO) (t:List IV) (a b:Opd),ρ t a=.mapM (d+1) 1->ρ t b=.int .i64 (sideZ p z)->evOp C (d+1) out2 n0 (.cells [p.ns.v,p.az.v,p.fs.v]::.map (mKs (seenL fs)) (mVs IV.bool (seenL fs)) bs ck::R) own t (.lookup (.bool false) (false,[1]) false a b)=some (.r,.bool (lkM false (seenL fs) (sideZ p z)),own):=fun R C n0 own t a b h1 h2=>YA (bs:=bs) (ck:=ck) false (sideZ p z) rfl h1 h2 (by simp only [look,if_true,zgc,zg8])
      simp only [V0,sevalprocAttr,hfr,h,za As h,hrd,gt_iff_lt,hp,hio,hrz,hz,hdA,evS,hs,hf0]
      refine ⟨by simp [comm],?_⟩
      simp only [V0,sevalprocAttr,hfr,evS,hs,hf0]
      refine hrA _ ?_
      simp only [V0,sevalprocAttr]
      exact finR _ _ (by simp only [V0,sevalprocAttr,hfr]) (by rw [if_pos (by rw [← zfs,hs,Bool.or_true])] at hG; exact hG.symm)
    ·simp only [V0,sevalprocAttr,hfr,h,za As h,hrd,gt_iff_lt,hp,hio,hrz,hz,hdA,hf0]
     refine ⟨by simp [comm],?_⟩
     simp only [V0,sevalprocAttr,hfr,hf0]
     refine hrA _ ?_
     simp only [V0,sevalprocAttr]
     exact finR _ _ (by simp only [V0,sevalprocAttr,hfr]) (by rw [if_pos (by rw [hf0,zhu])] at hG; exact hG.symm)
  ·simp only [V0,sevalprocAttr,hfr,h]
   refine heA _ _ ?_
   have hlen:∀ (own:yLO),lenV (d+1) out2 (hide [] (J.length+1+1) (.cells [p.ns.v,p.az.v,p.fs.v]::.map (mKs (seenL fs)) (mVs IV.bool (seenL fs)) bs ck::J)) own 2 (.mapM (d+1) 1)=some (.r,.int .i64 ((seenL fs).length:Nat),own):=fun own=>by
    simp [lenV,look,zw,mKs]
   simp only [V0,sevalprocAttr,hfr,hlen]
   refine ⟨by simp [comm],?_⟩
   simp only [V0,sevalprocAttr,hfr]
   rw [List.drop_eq_nil_of_le (by omega)] at hG
   refine fin _ _ _ _ _ _ (((seenL fs).length:Int)==(p.fs.l.length:Int)) hO (by omega) ?_ (by simp only [V0,sevalprocAttr,hfr])
   rw [← hG,seenL_len]
   rfl
 obtain ⟨v,h1,xs,ok,rfl,h2⟩:=main
 exact ⟨xs,ok,h1,h2⟩
end
end
section
theorem lwP_lwr (o a:Pt):lwP o a=lwr o a:=by
 unfold lwP lwr
 rfl
theorem lessP_lss {o p q:Pt} (ho:o.near) (hp:p.near) (hq:q.near) (hpo:p≠o) (hqo:q≠o):lessP o p q=lss o p q:=by
 have n1:ptE p o=false:=Bool.eq_false_iff.2 fun h=>hpo (ZG.1 h)
 have n2:ptE q o=false:=Bool.eq_false_iff.2 fun h=>hqo (ZG.1 h)
 have hall:[o,p,q].all nearP=true:=by
  rw [zhr,zhr,zhr,zG ho,zG hp,zG hq]
  rfl
 unfold lessP lss
 rw [hall,n1,n2,zab (zG ho) (zG hp) (zG hq),← Y0,lwP_lwr,lwP_lwr]
 simp
end
section
section
variable {p:Pn} (h:Good0 p)
include h
theorem Good0.lss_ix {x:Nd} (hx:x∈p.ns.l) {i j:Nat} {a b:Int} (ha:(aroundR p x.id)[i]?=some a) (hb:(aroundR p x.id)[j]?=some b):lss x.at' (h.net.sc a) (h.net.sc b)=true↔i<j:=by
 have hp:=yr.1 (h.around hx).2
 constructor
 ·intro hl
  rcases Nat.lt_trichotomy i j with hij | hij | hij
  ·exact hij
  ·subst hij
   rw [ha] at hb
   cases hb
   rw [lss_irr] at hl
   cases hl
  ·exact (Zg hl (hp j i b a hij hb ha)).elim
 ·intro hij
  exact hp i j a b hij ha hb
theorem Good0.darC_lt {x:Nd} (hx:x∈p.ns.l) {L:List (Int × Pt)} (hL:∀ z∈dartsAt p x.id,lkP L z=secZ p z) {a b:Int} (ha:a∈dartsAt p x.id) (hb:b∈dartsAt p x.id):darC x.at' L a b<0↔lss x.at' (h.net.sc a) (h.net.sc b)=true:=by
 have key:∀ z∈dartsAt p x.id,secZ p z=h.net.sc z/\(secZ p z).near/\secZ p z≠x.at':=fun z hz=>by
  obtain ⟨d1,d2⟩:=(h.at_iff hx).2 hz
  have e:secZ p z=h.net.sc z:=by
   obtain ⟨a,ha,rfl | rfl⟩:=h.dart_iff.1 d1
   ·exact (h.sp_pos ha).2.symm
   ·exact (h.sp_neg ha).2.symm
  have hn:=h.sc_ne d1
  rw [d2] at hn
  exact ⟨e,by rw [e]; exact hn.2,by rw [e]; exact hn.1⟩
 obtain ⟨a1,a2,a3⟩:=key a ha
 obtain ⟨b1,b2,b3⟩:=key b hb
 have ho:=Yb (h.nice.npt x hx)
 unfold darC
 rw [hL a ha,hL b hb,lessP_lss ho a2 b2 a3 b3,lessP_lss ho b2 a2 b3 a3,a1,b1]
 cases lss x.at' (h.net.sc a) (h.net.sc b) <;> cases lss x.at' (h.net.sc b) (h.net.sc a) <;> simp
theorem Good0.darC_orders {x:Nd} (hx:x∈p.ns.l) {L:List (Int × Pt)} (hL:∀ z∈dartsAt p x.id,lkP L z=secZ p z):Orders (fun a b:{ z // z∈dartsAt p x.id }=>darC x.at' L a.1 b.1):=by
 have ix:∀ a:{ z // z∈dartsAt p x.id },∃ i,(aroundR p x.id)[i]?=some a.1:=fun a=>zg7 ((h.around hx).1.mem_iff.2 a.2)
 have lt:∀ (a b:{ z // z∈dartsAt p x.id }) {i j:Nat},(aroundR p x.id)[i]?=some a.1->(aroundR p x.id)[j]?=some b.1->(darC x.at' L a.1 b.1<0↔i<j):=fun a b i j hi hj=>(h.darC_lt hx hL a.2 b.2).trans (h.lss_ix hx hi hj)
 refine ⟨fun a b=>?_,fun a b c h1 h2=>?_⟩
 ·obtain ⟨i,hi⟩:=ix a
  obtain ⟨j,hj⟩:=ix b
  unfold up
  rw [lt b a hj hi,lt a b hi hj]
  omega
 ·obtain ⟨i,hi⟩:=ix a
  obtain ⟨j,hj⟩:=ix b
  obtain ⟨k,hk⟩:=ix c
  unfold up at h1 h2 ⊢
  rw [lt b a hj hi] at h1
  rw [lt c b hk hj] at h2
  rw [lt c a hk hi]
  omega
end
end
section
section
variable {S:ySM}
theorem zc5 (hS:NoS S) {m d:Nat} {out:yLM} (hm:4<=m) (z:Int) (y:Pt) (x0 x2 x3:IObj) (L:List (Int × Pt)) (bs:List Nat) (ck:Nat) (J:yLO) (lv:IV) (xs:List Int) (hO:OwnJ intc 1 d 6 J lv xs) (hx:xs.length<=1000000) (ownV:yLO) :
  ∃ (lv':IV) (J':yLO) (L':List (Int × Pt)) (bs':List Nat) (ck':Nat),(∀ id,callN Ftab S m d out ownV (x0::.cells [lv]::x2::x3::.map (ptKs L) (ptVs L) bs ck::.cells [.mapM d 4]::J) id 151 [.int .i64 z,.agg [.int .i64 y.x,.int .i64 y.y],.ptrM d 1 0,.ptrM d 5 0]=some (.x,.tuple [],x0::.cells [lv']::x2::x3::.map (ptKs L') (ptVs L') bs' ck'::.cells [.mapM d 4]::J'))/\OwnJ intc 1 d 6 J' lv' (xs++[z])/\(∀ k,lkP L' k=if k=z then y else lkP L k)/\∀ (j:Nat) (x:IObj),J[j]?=some x->x≠IObj.cells (xs.flatMap intc)->J'[j]?=some x:=by
 obtain ⟨m,rfl⟩:∃ q,m=q+1:=⟨m - 1,by omega⟩
 obtain ⟨L',bs',ck',hlk,hup⟩:=map_upd L bs ck z y
 obtain ⟨e,lv',J2,happ,hO2,hkeep⟩:=zcc (Pre:=[x0,.cells [lv],x2,x3,.map (ptKs L) (ptVs L) bs ck,.cells [.mapM d 4]]) (n0:=J.length+1+1+1+1+1+1+1) (slot:=0) (k:=1) (out:=out) (R:=[.cells [.int .i64 y.x,.int .i64 y.y],.free]) zk hO (ys:=[z]) (by simp) (by simp only [zf3,zgb]; omega) (by simp only [zf3,zgb]; omega) rfl rfl
 simp only [zgq,zgz,zgj,zh4,intc,zf,zf3,zgb,zhc,zg5] at happ
 obtain ⟨v1,v2⟩:=hO2.one
 have hy:J2[J.length]?=some (.cells [.int .i64 y.x,.int .i64 y.y]):=hkeep J.length _ (by omega) (by simp) (.inl (zf7 _))
 have main:∃ v own',(∀ id,callN Ftab S (m+1) d out ownV (x0::.cells [lv]::x2::x3::.map (ptKs L) (ptVs L) bs ck::.cells [.mapM d 4]::J) id 151 [.int .i64 z,.agg [.int .i64 y.x,.int .i64 y.y],.ptrM d 1 0,.ptrM d 5 0]=some (.x,v,own'))/\(v=.tuple []/\own'=x0::.cells [lv']::x2::x3::.map (ptKs L') (ptVs L') bs' ck'::.cells [.mapM d 4]::J2):=by
  refine yL (i:=i151) (ns hS (by rfl)) rfl rfl (lb rfl) fun t hfr=>?_
  simp only [V2,Xb,i151] at hfr
  have hup2:=fun C n0 ownV own t a b c=>hup C d out n0 4 ownV own t a b c
  simp only [i151,V0,sevalprocAttr,hfr,rep,zt,zJ,zT,yD,happ,v1,v2,hy,hup2,ZC,res0]
  exact ⟨_,rfl,rfl⟩
 obtain ⟨v,own',h1,rfl,rfl⟩:=main
 refine ⟨lv',J2,L',bs',ck',h1,hO2,hlk,fun j x hj hne=>?_⟩
 have hlt:=(zfz.1 hj).1
 exact hkeep j x (by omega) (by rw [zf1 hlt]; exact hj) (.inr hne)
end
end
section
section
variable {S:ySM}
theorem around_p1X (hS:NoS S) (p:Pn) {m D:Nat} {out:yLM} (hm:4<=m) (K:yKM) (t:List IV) (node:Int) (x:Ac) (j i:Nat) (q':SlOf 2 Pt.c) (hq:2<=q'.l.length) (O0 x2 x3:IObj) (lv:IV) (J:yLO) (L:List (Int × Pt)) (bs:List Nat) (ck:Nat) (xs:List Int)
  (hj:J[j]?=some (.cells [.int .i64 x.id,.int .i64 x.fr,.int .i64 x.to,x.via.v,.int .i64 x.l,.int .i64 x.r])) (hO:OwnJ intc 1 D 6 J lv xs) (hx:xs.length<=1000000)
  (hfr:Slots 80 t [(1,.int .i64 node),(2,.ptrM D 0 0),(4,.ptrM D 1 0),(5,.ptrM D 3 0),(7,.ptrM D 5 0),(8,.fn 151 [] [.ptrM D 1 0,.ptrM D 5 0]),(10,.ptrM D (j+1+1+1+1+1+1) 0),(11,q'.v),(24,p.az.v),(25,iv (p.az.l.length:Nat)),(26,iv i)])
  (hK:∀ t' lv J L' bs ck xs',J[j]?=some (.cells [.int .i64 x.id,.int .i64 x.fr,.int .i64 x.to,x.via.v,.int .i64 x.l,.int .i64 x.r])->OwnJ intc 1 D 6 J lv xs'->(xs'=xs++(if (x.fr==node)=true then [x.id] else [])/\∀ k,lkP L' k=if (x.fr==node)=true/\k=x.id then (q'.l[1]?).getD ⟨0,0⟩ else lkP L k)->Slots 80 t' [(1,.int .i64 node),(2,.ptrM D 0 0),(4,.ptrM D 1 0),(5,.ptrM D 3 0),(7,.ptrM D 5 0),(8,.fn 151 [] [.ptrM D 1 0,.ptrM D 5 0]),(10,.ptrM D (j+1+1+1+1+1+1) 0),(11,q'.v),(24,p.az.v),(25,iv (p.az.l.length:Nat)),(26,iv i)]->K .normal ⟨t',O0::.cells [lv]::x2::x3::.map (ptKs L') (ptVs L') bs ck::.cells [.mapM D 4]::J⟩) :
  Ex (callN Ftab S m) D out m (i115.body.sub [1,1,1,1,1,0,1,0,0,1,1,0,0,1,1,1,1,0]) K ⟨t,O0::.cells [lv]::x2::x3::.map (ptKs L) (ptVs L) bs ck::.cells [.mapM D 4]::J⟩:=by
 have hfr0:=hfr
 simp only [V3] at hfr
 cases hf:x.fr==node
 ·simp only [i115,IC.sub,V0,sevalprocAttr,hfr,hj,hf]
  exact hK _ _ _ _ _ _ _ hj hO ⟨by simp [hf],fun k=>by simp [hf]⟩ (by simp only [V0,sevalprocAttr,hfr,zf])
 ·obtain ⟨y,hy⟩:∃ y,q'.l[1]?=some y:=⟨_,zf0 (by omega)⟩
  have hr:rdN (q'.l.flatMap Pt.c) (1*2) 2=some [.int .i64 y.x,.int .i64 y.y]:=(zb Pt.c_len 0 2 hy (by omega)).trans rfl
  have ha:∀ own,iaddrV own 2 q'.v (.int .i64 1)=some (.p,.ptrC (q'.l.flatMap Pt.c) (1*2),own):=fun own=>za q' (i:=1) (by omega)
  have hj2:(J++[IObj.free])[j]?=some (.cells [.int .i64 x.id,.int .i64 x.fr,.int .i64 x.to,x.via.v,.int .i64 x.l,.int .i64 x.r]):=by rw [zf1 (zfz.1 hj).1]; exact hj
  obtain ⟨lv',J',L',bs',ck',hc,hO3,hlk,hkeep⟩:=zc5 (out:=out) hS hm x.id y O0 x2 x3 L bs ck (J++[IObj.free]) lv xs (hO.more _) hx (hide [] (J.length+1+1+1+1+1+1) (O0::.cells [lv]::x2::x3::.map (ptKs L) (ptVs L) bs ck::.cells [.mapM D 4]::(J++[IObj.free])))
  have hh:(hide [] (J.length+1+1+1+1+1+1) (O0::.cells [lv]::x2::x3::.map (ptKs L) (ptVs L) bs ck::.cells [.mapM D 4]::(J++[IObj.free])))[j+1+1+1+1+1+1]?=some (.cells [.int .i64 x.id,.int .i64 x.fr,.int .i64 x.to,x.via.v,.int .i64 x.l,.int .i64 x.r]):=by
   rw [zw]
   simp only [zgc,hj2,zf2]
   have:=(zfz.1 hj).1
   simp only [show j+1+1+1+1+1+1<J.length+1+1+1+1+1+1 by omega,decide_true,zhu,if_true]
  simp only [i115,IC.sub,V0,sevalprocAttr,hfr,hj,hf,ha,hr,hh,hc]
  exact ⟨by simp [comm],hK _ _ _ _ _ _ _ (hkeep j _ hj2 arc_ne) hO3 ⟨by simp [hf],fun k=>by rw [hlk k]; simp [hf,hy]⟩ (by simp only [V0,sevalprocAttr,hfr,zf])⟩
theorem around_p2X (hS:NoS S) (p:Pn) {m D:Nat} {out:yLM} (hm:4<=m) (K:yKM) (t:List IV) (node:Int) (x:Ac) (j i:Nat) (q':SlOf 2 Pt.c) (hq:2<=q'.l.length) (O0 x2 x3:IObj) (lv:IV) (J:yLO) (L:List (Int × Pt)) (bs:List Nat) (ck:Nat) (xs:List Int)
  (hj:J[j]?=some (.cells [.int .i64 x.id,.int .i64 x.fr,.int .i64 x.to,x.via.v,.int .i64 x.l,.int .i64 x.r])) (hO:OwnJ intc 1 D 6 J lv xs) (hx:xs.length<=1000000)
  (hfr:Slots 80 t [(1,.int .i64 node),(2,.ptrM D 0 0),(4,.ptrM D 1 0),(5,.ptrM D 3 0),(7,.ptrM D 5 0),(8,.fn 151 [] [.ptrM D 1 0,.ptrM D 5 0]),(10,.ptrM D (j+1+1+1+1+1+1) 0),(11,q'.v),(24,p.az.v),(25,iv (p.az.l.length:Nat)),(26,iv i)])
  (hK:∀ t' lv J L' bs ck xs',J[j]?=some (.cells [.int .i64 x.id,.int .i64 x.fr,.int .i64 x.to,x.via.v,.int .i64 x.l,.int .i64 x.r])->OwnJ intc 1 D 6 J lv xs'->(xs'=xs++(if (x.to==node)=true then [wrapI .i64 (0 - x.id)] else [])/\∀ k,lkP L' k=if (x.to==node)=true/\k=wrapI .i64 (0 - x.id) then (q'.l[q'.l.length - 2]?).getD ⟨0,0⟩ else lkP L k)->Slots 80 t' [(1,.int .i64 node),(2,.ptrM D 0 0),(4,.ptrM D 1 0),(5,.ptrM D 3 0),(7,.ptrM D 5 0),(8,.fn 151 [] [.ptrM D 1 0,.ptrM D 5 0]),(10,.ptrM D (j+1+1+1+1+1+1) 0),(11,q'.v),(24,p.az.v),(25,iv (p.az.l.length:Nat)),(26,iv i)]->K .normal ⟨t',O0::.cells [lv]::x2::x3::.map (ptKs L') (ptVs L') bs ck::.cells [.mapM D 4]::J⟩) :
  Ex (callN Ftab S m) D out m (i115.body.sub [1,1,1,1,1,0,1,0,0,1,1,0,0,1,1,1,1,1]) K ⟨t,O0::.cells [lv]::x2::x3::.map (ptKs L) (ptVs L) bs ck::.cells [.mapM D 4]::J⟩:=by
 have hfr0:=hfr
 simp only [V3] at hfr
 cases hf:x.to==node
 ·simp only [i115,IC.sub,V0,sevalprocAttr,hfr,hj,hf]
  exact hK _ _ _ _ _ _ _ hj hO ⟨by simp [hf],fun k=>by simp [hf]⟩ (by simp only [V0,sevalprocAttr,hfr,zf])
 ·obtain ⟨y,hy⟩:∃ y,q'.l[q'.l.length - 2]?=some y:=⟨_,zf0 (by omega)⟩
  have hr:rdN (q'.l.flatMap Pt.c) ((q'.l.length - 2)*2) 2=some [.int .i64 y.x,.int .i64 y.y]:=(zb Pt.c_len 0 2 hy (by omega)).trans rfl
  have hql:=q'.few
  have hw:wrapI .i64 ((q'.l.length:Int) - 2)=((q'.l.length - 2:Nat):Int):=we
  have ha:∀ own,iaddrV own 2 q'.v (.int .i64 ((q'.l.length - 2:Nat):Int))=some (.p,.ptrC (q'.l.flatMap Pt.c) ((q'.l.length - 2)*2),own):=fun own=>za q' (i:=q'.l.length - 2) (by omega)
  have hj2:(J++[IObj.free])[j]?=some (.cells [.int .i64 x.id,.int .i64 x.fr,.int .i64 x.to,x.via.v,.int .i64 x.l,.int .i64 x.r]):=by rw [zf1 (zfz.1 hj).1]; exact hj
  obtain ⟨lv',J',L',bs',ck',hc,hO3,hlk,hkeep⟩:=zc5 (out:=out) hS hm (wrapI .i64 (0 - x.id)) y O0 x2 x3 L bs ck (J++[IObj.free]) lv xs (hO.more _) hx (hide [] (J.length+1+1+1+1+1+1) (O0::.cells [lv]::x2::x3::.map (ptKs L) (ptVs L) bs ck::.cells [.mapM D 4]::(J++[IObj.free])))
  have hh:(hide [] (J.length+1+1+1+1+1+1) (O0::.cells [lv]::x2::x3::.map (ptKs L) (ptVs L) bs ck::.cells [.mapM D 4]::(J++[IObj.free])))[j+1+1+1+1+1+1]?=some (.cells [.int .i64 x.id,.int .i64 x.fr,.int .i64 x.to,x.via.v,.int .i64 x.l,.int .i64 x.r]):=by
   rw [zw]
   simp only [zgc,hj2,zf2]
   have:=(zfz.1 hj).1
   simp only [show j+1+1+1+1+1+1<J.length+1+1+1+1+1+1 by omega,decide_true,zhu,if_true]
  simp only [i115,IC.sub,V0,sevalprocAttr,hfr,hj,hf,hw,ha,hr,hh,hc]
  exact ⟨by simp [comm],hK _ _ _ _ _ _ _ (hkeep j _ hj2 arc_ne) hO3 ⟨by simp [hf],fun k=>by rw [hlk k]; simp [hf,hy]⟩ (by simp only [V0,sevalprocAttr,hfr,zf])⟩
end
end
section
section
variable {S:ySM}
theorem around_tailX (hS:NoS S) (p:Pn) {m D:Nat} {out:yLM} (hm:4<=m) (K:yKM) (t:List IV) (node:Int) (x:Ac) (j i:Nat) (q':SlOf 2 Pt.c) (hq:2<=q'.l.length) (O0 x2 x3:IObj) (lv:IV) (J:yLO) (L:List (Int × Pt)) (bs:List Nat) (ck:Nat) (xs:List Int)
  (hj:J[j]?=some (.cells [.int .i64 x.id,.int .i64 x.fr,.int .i64 x.to,x.via.v,.int .i64 x.l,.int .i64 x.r])) (hO:OwnJ intc 1 D 6 J lv xs) (hx:xs.length+1<=1000000)
  (hfr:Slots 80 t [(1,.int .i64 node),(2,.ptrM D 0 0),(4,.ptrM D 1 0),(5,.ptrM D 3 0),(7,.ptrM D 5 0),(8,.fn 151 [] [.ptrM D 1 0,.ptrM D 5 0]),(10,.ptrM D (j+1+1+1+1+1+1) 0),(11,q'.v),(24,p.az.v),(25,iv (p.az.l.length:Nat)),(26,iv i)])
  (hK:∀ t' lv J L' bs ck xs',OwnJ intc 1 D 6 J lv xs'->(xs'=xs++dartsA node x/\∀ k,lkP L' k=if (x.to==node)=true/\k=ngI x.id then (q'.l[q'.l.length - 2]?).getD ⟨0,0⟩ else if (x.fr==node)=true/\k=x.id then (q'.l[1]?).getD ⟨0,0⟩ else lkP L k)->Slots 80 t' [(1,.int .i64 node),(2,.ptrM D 0 0),(4,.ptrM D 1 0),(5,.ptrM D 3 0),(7,.ptrM D 5 0),(8,.fn 151 [] [.ptrM D 1 0,.ptrM D 5 0]),(10,.ptrM D (j+1+1+1+1+1+1) 0),(11,q'.v),(24,p.az.v),(25,iv (p.az.l.length:Nat)),(26,iv i)]->K .normal ⟨t',O0::.cells [lv]::x2::x3::.map (ptKs L') (ptVs L') bs ck::.cells [.mapM D 4]::J⟩) :
  Ex (callN Ftab S m) D out m (i115.body.sub [1,1,1,1,1,0,1,0,0,1,1,0,0,1,1,1,1]) K ⟨t,O0::.cells [lv]::x2::x3::.map (ptKs L) (ptVs L) bs ck::.cells [.mapM D 4]::J⟩:=by
 rw [show i115.body.sub [1,1,1,1,1,0,1,0,0,1,1,0,0,1,1,1,1]=.seq (i115.body.sub [1,1,1,1,1,0,1,0,0,1,1,0,0,1,1,1,1,0]) (i115.body.sub [1,1,1,1,1,0,1,0,0,1,1,0,0,1,1,1,1,1]) from rfl,Ex_seq]
 refine around_p1X hS p hm _ t node x j i q' hq O0 x2 x3 lv J L bs ck xs hj hO (by omega) hfr fun t1 lv1 J1 L1 bs1 ck1 xs1 hj1 hO1 hx1 hfr1=>?_
 rw [yJ]
 obtain ⟨e1,g1⟩:=hx1
 have hl1:xs1.length<=xs.length+1:=by rw [e1,zga]; split <;> simp
 refine around_p2X hS p hm _ t1 node x j i q' hq O0 x2 x3 lv1 J1 L1 bs1 ck1 xs1 hj1 hO1 (by omega) hfr1 fun t2 lv2 J2 L2 bs2 ck2 xs2 hj2 hO2 hx2 hfr2=>?_
 obtain ⟨e2,g2⟩:=hx2
 refine hK _ _ _ _ _ _ _ hO2 ⟨?_,fun k=>?_⟩ hfr2
 ·rw [e2,e1,zgu]
  rfl
 ·rw [g2 k,g1 k]
  rfl
end
structure AroundOK (p:Pn) (node:Int) (L:List (Int × Pt)) (xs:List Int) (i:Nat):Prop where
 list:xs=(p.az.l.take i).flatMap (dartsA node)
 look:∀ a∈p.az.l.take i,∀ z∈dartsA node a,lkP L z=secZ p z
theorem zft {node:Int} {a:Ac} {z:Int}:z∈dartsA node a↔((a.fr==node)=true/\z=a.id)∨((a.to==node)=true/\z=ngI a.id):=by
 unfold dartsA
 cases h1:a.fr==node <;> cases h2:a.to==node <;> simp
theorem dartsA_few {node:Int} (l:List Ac):(l.flatMap (dartsA node)).length<=2*l.length:=by
 induction l with
 | nil=>simp
 | cons a l ih =>
  have:(dartsA node a).length<=2:=by
   unfold dartsA
   cases h1:a.fr==node <;> cases h2:a.to==node <;> simp
  rw [zgj,zga,zf3]
  omega
section
variable {p:Pn} {node:Int} {L:List (Int × Pt)} {xs:List Int} {i:Nat}
theorem AroundOK.zero:AroundOK p node L [] 0:=⟨by rw [zis]; rfl,fun a ha=>by simp at ha⟩
theorem AroundOK.len (h:AroundOK p node L xs i) (hi:i<=p.az.l.length):xs.length<=2*i:=by
 have:=dartsA_few (node:=node) (p.az.l.take i)
 rw [← h.list,zhx,Nat.min_eq_left hi] at this
 exact this
theorem AroundOK.all (h:AroundOK p node L xs i) (hi:p.az.l.length<=i):xs=dartsAt p node/\∀ z∈dartsAt p node,lkP L z=secZ p z:=by
 obtain ⟨h1,h2⟩:=h
 rw [zgg hi] at h1 h2
 refine ⟨h1,fun z hz=>?_⟩
 obtain ⟨a,ha,hz⟩:=zh1.1 hz
 exact h2 a ha z hz
theorem AroundOK.skip (h:AroundOK p node L xs i) {x:Ac} (hx:p.az.l[i]?=some x) (hf:(x.fr==node)=false) (ht:(x.to==node)=false):AroundOK p node L xs (i+1):=by
 have e:dartsA node x=[]:=by unfold dartsA; rw [hf,ht]; rfl
 refine ⟨?_,fun a ha z hz=>?_⟩
 ·rw [zhb,hx,zhq,List.flatMap_append,← h.list,zgj,e]
  simp
 ·rw [zhb,hx,zhq,zhf,zhe] at ha
  rcases ha with ha | rfl
  ·exact h.look a ha z hz
  ·rw [e] at hz
   cases hz
theorem AroundOK.step (h:AroundOK p node L xs i) (h0:Good0 p) {x:Ac} (hx:p.az.l[i]?=some x) (hxm:x∈p.az.l) {q':List Pt} (hq:q'=pathL p x.id) {L':List (Int × Pt)} {xs':List Int} (e1:xs'=xs++dartsA node x) (e2:∀ k,lkP L' k=if (x.to==node)=true/\k=ngI x.id then (q'[q'.length - 2]?).getD ⟨0,0⟩ else if (x.fr==node)=true/\k=x.id then (q'[1]?).getD ⟨0,0⟩ else lkP L k):AroundOK p node L' xs' (i+1):=by
 have hid:=h0.pid x hxm
 have hng:=h0.ng hxm
 have h2:=zF (p:=p) (a:=x)
 have hp:=(h0.nice.path hxm).2
 rw [hp] at hq
 have s1:secZ p x.id=(q'[1]?).getD ⟨0,0⟩:=by
  unfold secZ pathZ
  rw [decide_eq_true (show 0<x.id by omega),cond_true,hp,hq]
 have s2:secZ p (-x.id)=(q'[q'.length - 2]?).getD ⟨0,0⟩:=by
  unfold secZ pathZ
  rw [decide_eq_false (show ¬ 0 < -x.id by omega),cond_false,h0.ng2 hxm,hp,List.getElem?_reverse (by omega),hq]
  rfl
 refine ⟨?_,fun a ha z hz=>?_⟩
 ·rw [zhb,hx,zhq,List.flatMap_append,← h.list,zgj,e1]
  simp
 ·rw [zhb,hx,zhq,zhf,zhe] at ha
  rw [e2 z]
  rcases ha with ha | rfl
  ·obtain ⟨j,hj⟩:=zg7 ha
   have hji:j<i:=by
    have:=(zfz.1 hj).1
    rw [zhx] at this
    omega
   rw [List.getElem?_take_of_lt hji] at hj
   have hlt:a.id<x.id:=by
    have hp:=h0.nice.aid
    rw [zhk] at hp
    exact yr.1 hp j i a x hji hj hx
   have ham:=zgl hj
   have hia:=h0.pid a ham
   have hna:=h0.ng ham
   have hz2:z=a.id∨z=-a.id:=by
    rcases zft.1 hz with ⟨_,e⟩ | ⟨_,e⟩
    ·exact .inl e
    ·exact .inr (by rw [e,hna])
   rw [if_neg (fun e=>by have:=e.2; omega),if_neg (fun e=>by have:=e.2; omega)]
   exact h.look a ha z hz
  ·rcases zft.1 hz with ⟨c,rfl⟩ | ⟨c,rfl⟩
   ·rw [if_neg (fun e=>by have:=e.2; omega),if_pos ⟨c,rfl⟩,s1]
   ·rw [if_pos ⟨c,rfl⟩,hng,s2]
end
section
variable {S:ySM}
theorem around_loopX (hS:NoS S) (p:Pn) (h0:Good0 p) (hfv:FewVia p) (ha:p.az.l.length<=100000):∃ N,∀ m,N<=m->∀ (D:Nat) (out:yLM) (K:yKM) (t:List IV) (node:Int) (x2 x3:IObj) (L:List (Int × Pt)) (bs:List Nat) (ck:Nat),
  Slots 80 t [(1,.int .i64 node),(2,.ptrM D 0 0),(4,.ptrM D 1 0),(5,.ptrM D 3 0),(7,.ptrM D 5 0),(8,.fn 151 [] [.ptrM D 1 0,.ptrM D 5 0])] ->
  (∀ t' lv J L bs ck xs,OwnJ intc 1 D 6 J lv xs->(xs=dartsAt p node/\∀ z∈dartsAt p node,lkP L z=secZ p z)->Slots 80 t' [(1,.int .i64 node),(2,.ptrM D 0 0),(4,.ptrM D 1 0),(5,.ptrM D 3 0),(7,.ptrM D 5 0)]->K .normal ⟨t',.cells [p.ns.v,p.az.v,p.fs.v]::.cells [lv]::x2::x3::.map (ptKs L) (ptVs L) bs ck::.cells [.mapM D 4]::J⟩) ->
  Ex (callN Ftab S m) D out m (i115.body.sub [1,1,1,1,1,0]) K ⟨t,.cells [p.ns.v,p.az.v,p.fs.v]::.cells [.nilsl]::x2::x3::.map (ptKs L) (ptVs L) bs ck::.cells [.mapM D 4]::[]⟩:=by
 have hpath:∀ a∈p.az.l,∃ N,∀ m,N<=m->∃ q':SlOf 2 Pt.c,(pathOk p a.id=true->q'.l=pathL p a.id)/\∀ d out ownV own id,callN Ftab S m d out ownV own id 38 [.agg p.c,iv a.id]=some (.r,.tuple [q'.v,iv (bif pathOk p a.id then 0 else 7)],own):=fun a _=>by
  obtain ⟨q',h1,N,h2⟩:=Zo hS p a.id hfv
  exact ⟨N,fun m hm=>⟨q',h1,h2 m hm⟩⟩
 obtain ⟨Np,hNp⟩:=Yv p.az.l hpath
 refine ⟨Np+p.az.l.length+20,fun m hm D out K t node x2 x3 L bs ck hfr hK=>?_⟩
 simp only [ze,zg] at hfr
 have haf:=p.az.few
 have hT:=fun {D:Nat} {out:yLM} K t node x j i q' hq O0 x2 x3 lv J L bs ck xs=>@around_tailX S hS p m D out (by omega) K t node x j i q' hq O0 x2 x3 lv J L bs ck xs
 rw [show i115.body.sub [1,1,1,1,1,0]=.seq (i115.body.sub [1,1,1,1,1,0,0]) (.block 0 (.loop (.seq (i115.body.sub [1,1,1,1,1,0,1,0,0,0]) (.seq (i115.body.sub [1,1,1,1,1,0,1,0,0,1,0]) (.seq (.block 1 (.seq (i115.body.sub [1,1,1,1,1,0,1,0,0,1,1,0,0,0]) (.seq (i115.body.sub [1,1,1,1,1,0,1,0,0,1,1,0,0,1,0]) (.seq (i115.body.sub [1,1,1,1,1,0,1,0,0,1,1,0,0,1,1,0]) (.seq (i115.body.sub [1,1,1,1,1,0,1,0,0,1,1,0,0,1,1,1,0]) (i115.body.sub [1,1,1,1,1,0,1,0,0,1,1,0,0,1,1,1,1])))))) (i115.body.sub [1,1,1,1,1,0,1,0,0,1,1,1])))))) from rfl]
 generalize i115.body.sub [1,1,1,1,1,0,1,0,0,1,1,0,0,1,1,1,1]=T at hT ⊢
 simp only [i115,IC.sub,V0,sevalprocAttr,hfr]
 refine zd (fun jj st=>∃ (i:Nat) (lv:IV) (J:yLO) (L:List (Int × Pt)) (bs:List Nat) (ck:Nat) (xs:List Int),p.az.l.length - i<=jj/\i<=p.az.l.length/\OwnJ intc 1 D 6 J lv xs/\AroundOK p node L xs i/\st.own=.cells [p.ns.v,p.az.v,p.fs.v]::.cells [lv]::x2::x3::.map (ptKs L) (ptVs L) bs ck::.cells [.mapM D 4]::J/\Slots 80 st.t [(1,.int .i64 node),(2,.ptrM D 0 0),(4,.ptrM D 1 0),(5,.ptrM D 3 0),(7,.ptrM D 5 0),(8,.fn 151 [] [.ptrM D 1 0,.ptrM D 5 0]),(24,p.az.v),(25,iv (p.az.l.length:Nat)),(26,iv i)]) p.az.l.length (by omega) ⟨0,.nilsl,[],L,bs,ck,[],by omega,by omega,.inl ⟨rfl,rfl⟩,AroundOK.zero,rfl,by simp only [V0,sevalprocAttr,hfr,zg4]⟩ ?_
 clear hfr
 rintro jj ⟨t,own⟩ KA ⟨i,lv,J,L,bs,ck,xs,hjj,hi,hO,hD,ho,hfr⟩ hnA heA hrA
 dsimp only at ho hfr
 subst ho
 simp only [V3] at hfr
 by_cases h:i<p.az.l.length
 ·have hx:p.az.l[i]?=some p.az.l[i]:=zf0 h
  have hxm:=zgt h
  have hxl:=hD.len hi
  obtain ⟨q',hq1,hq2⟩:=hNp _ (zgt h) m (by omega)
  generalize p.az.l[i]=x at hx hq1 hq2 hxm
  have hrd:rdN (p.az.l.flatMap Ac.c) (i*6) 6=some [.int .i64 x.id,.int .i64 x.fr,.int .i64 x.to,x.via.v,.int .i64 x.l,.int .i64 x.r]:=(zb Ac.c_len 0 6 hx (by omega)).trans rfl
  have hw:wrapI .i64 ((i:Int)+1)=((i+1:Nat):Int):=we
  have hbne:∀ a b:Int,(a != b)=!(a==b):=fun a b=>rfl
  simp only [zf,Pn.c] at hq2
  have h70:((7:Int)==0)=false:=rfl
  have h00:((0:Int)==0)=true:=rfl
  by_cases hor:(x.fr != node&&x.to != node)=true
  ·have hf:(x.fr==node)=false:=by simpa [bne] using (Bool.and_eq_true_iff.1 hor).1
   have ht:(x.to==node)=false:=by simpa [bne] using (Bool.and_eq_true_iff.1 hor).2
   simp only [V0,sevalprocAttr,hfr,h,za p.az h,hrd,hbne,hf,ht,hw]
   exact hnA _ (p.az.l.length - (i+1)) (by omega) ⟨i+1,lv,_,L,bs,ck,xs,by omega,by omega,hO.more _,hD.skip hx hf ht,rfl,by simp only [V0,sevalprocAttr,hfr,hw,hbne,hf,ht]⟩
  ·have hok:=(h0.nice.path hxm).1
   have hj0:(J++[IObj.cells [.int .i64 x.id,.int .i64 x.fr,.int .i64 x.to,x.via.v,.int .i64 x.l,.int .i64 x.r],.free])[J.length]?=some (.cells [.int .i64 x.id,.int .i64 x.fr,.int .i64 x.to,x.via.v,.int .i64 x.l,.int .i64 x.r]):=by simp
   rw [hok] at hq2
   have hlen:2<=q'.l.length:=by rw [hq1 hok,pathL]; simp
   have hst:=fun L' xs'=>hD.step h0 (L':=L') (xs':=xs') hx hxm (hq1 hok)
   cases hf:x.fr==node
   ·have ht:(x.to==node)=true:=by simpa [bne,hf] using hor
    simp only [V0,sevalprocAttr,hfr,h,za p.az h,hrd,hbne,hf,ht,hq2,hw,cond_true,h00]
    refine hT _ _ node x J.length i q' hlen _ _ _ _ _ _ _ _ xs hj0 (hO.more _) (by omega) (by simp only [V0,sevalprocAttr,hfr,hw,hbne,hf,ht]) fun t' lv' J' L' bs' ck' xs' hO' hm' ht'=>?_
    simp only [V3] at ht'
    simp only [V0,sevalprocAttr,ht',hw]
    exact hnA _ (p.az.l.length - (i+1)) (by omega) ⟨i+1,lv',J',L',bs',ck',xs',by omega,by omega,hO',hst _ _ hm'.1 hm'.2,rfl,by simp only [V0,sevalprocAttr,ht',hw]⟩
   ·simp only [V0,sevalprocAttr,hfr,h,za p.az h,hrd,hbne,hf,hq2,hw,cond_true,h00]
    refine hT _ _ node x J.length i q' hlen _ _ _ _ _ _ _ _ xs hj0 (hO.more _) (by omega) (by simp only [V0,sevalprocAttr,hfr,hw,hbne,hf]) fun t' lv' J' L' bs' ck' xs' hO' hm' ht'=>?_
    simp only [V3] at ht'
    simp only [V0,sevalprocAttr,ht',hw]
    exact hnA _ (p.az.l.length - (i+1)) (by omega) ⟨i+1,lv',J',L',bs',ck',xs',by omega,by omega,hO',hst _ _ hm'.1 hm'.2,rfl,by simp only [V0,sevalprocAttr,ht',hw]⟩
 ·simp only [V0,sevalprocAttr,hfr,h]
  refine heA _ _ ?_
  simp only [V0,sevalprocAttr,hfr]
  exact hK _ _ _ _ _ _ _ hO (hD.all (by omega)) (by simp only [V0,sevalprocAttr,hfr])
end
end
section
section
variable {p:Pn} (h:Good0 p)
include h
theorem Good0.sorted_around {x:Nd} (hx:x∈p.ns.l) {L:List (Int × Pt)} (hL:∀ z∈dartsAt p x.id,lkP L z=secZ p z) {xs:List { z // z∈dartsAt p x.id }} (hp:xs.Perm (dartsAt p x.id).attach) (hs:Srt (fun a b:{ z // z∈dartsAt p x.id }=>darC x.at' L a.1 b.1) xs 0 xs.length):xs.map Subtype.val=aroundR p x.id:=by
 have hpm:=hp.map Subtype.val
 rw [List.attach_map_subtype_val] at hpm
 refine h.around_uniq hx hpm ?_
 rw [zhk]
 refine yr.2 fun i j a b hij ha hb=>?_
 have hj:=(zfz.1 hb).1
 have hu:=hs i j a b (Nat.zero_le _) hij hj ha hb
 unfold up at hu
 rw [h.darC_lt hx hL b.2 a.2] at hu
 obtain ⟨u,hu1⟩:=zg7 ((h.around hx).1.mem_iff.2 a.2)
 obtain ⟨v,hv1⟩:=zg7 ((h.around hx).1.mem_iff.2 b.2)
 rw [h.lss_ix hx hv1 hu1] at hu
 rw [h.lss_ix hx hu1 hv1]
 rcases Nat.lt_trichotomy u v with huv | huv | huv
 ·exact huv
 ·exfalso
  subst huv
  rw [hu1] at hv1
  have hab:a=b:=Subtype.ext (zgy hv1)
  subst hab
  have hnd:xs.Nodup:=by
   have:=hpm.nodup_iff.2 h.at_nodup
   rw [List.Nodup,zhk] at this
   exact this.imp fun {a b} hab e=>hab (by rw [e])
  obtain ⟨l1,e1⟩:=zfz.1 ha
  obtain ⟨l2,e2⟩:=zfz.1 hb
  have:=(List.getElem_inj hnd).1 (e1.trans e2.symm)
  omega
 ·exact absurd huv hu
end
theorem int_eltX {P:Int->Prop}:Elt (fun a:{ z // P z }=>intc a.1) (fun a:{ z // P z }=>.int .i64 a.1) 1 false:=⟨fun _=>rfl,fun _=>rfl,fun _=>rfl,fun _=>rfl⟩
section
variable {S:ySM}
theorem around_runX (hS:NoS S) (p:Pn) (h0:Good0 p) (hfv:FewVia p) (ha:2*p.az.l.length<65536) {x:Nd} (hx:x∈p.ns.l):∃ N,∀ m,N<=m->∀ d out ownV own id,∃ q:SlOf 1 intc,callN Ftab S m d out ownV own id 115 [.agg p.c,.int .i64 x.id]=some (.r,q.v,own)/\q.l=aroundR p x.id:=by
 obtain ⟨Nl0,hloop⟩:=around_loopX hS p h0 hfv (by omega)
 obtain ⟨Nn,hnd⟩:=Z8 hS p x.id
 refine ⟨Nl0+Nn+200000,fun m hm d out ownV own id=>?_⟩
 obtain ⟨m,rfl⟩:∃ q,m=q+2:=⟨m - 2,by omega⟩
 have hfew:=zc4 p x.id
 have harp:=(h0.around hx).1
 have main:∃ r,callN Ftab S (m+1+1) d out ownV own id 115 [.agg p.c,.int .i64 x.id]=some r/\∃ q:SlOf 1 intc,r=(Eff.r,q.v,own)/\q.l=aroundR p x.id:=by
  refine Yy (i:=i115) (ns hS (by rfl)) rfl (by decide) (lb rfl) fun t hfr=>?_
  simp only [V2,Xb,i115,Pn.c] at hfr
  generalize (fun l=>if l=d then ownV else out l:yLM)=out2
  have hnd:=hnd (m+1) (by omega)
  have hL0:=@hloop (m+1) (by omega)
  simp only [zf,Pn.c] at hnd
  have hlv:∀ (o:yLO) (v w:IV),freeze (m+1) (d+1) o v=some w->leave (m+1) d o own id 0 v=some (.r,w,own):=fun o v w h=>by simp [leave,h]
  have fin:∀ t' (O0 x2 x3 x4 x5:IObj) (J:yLO) (lv:IV) (xs:List Int),OwnJ intc 1 (d+1) 6 J lv xs->xs=aroundR p x.id->Slots 80 t' [(4,.ptrM (d+1) 1 0)]->(Out.ret=.normal∨Out.ret=.ret)/\∃ w r,resultI (d+1) out2 ⟨t',O0::.cells [lv]::x2::x3::x4::x5::J⟩ i115.res=some w/\leave (m+1) d (O0::.cells [lv]::x2::x3::x4::x5::J) own id i115.mode w=some r/\∃ q:SlOf 1 intc,r=(Eff.r,q.v,own)/\q.l=aroundR p x.id:=fun t' O0 x2 x3 x4 x5 J lv xs hO hD ht=>by
   simp only [ze,zg] at ht
   have hxl:xs.length<9223372036854775808:=by rw [hD,harp.length_eq]; omega
   have hfz:=za6 (Pre:=[O0,.cells [lv],x2,x3,x4,x5]) (m:=m+1) zk (fun a x hx=>by
    simp only [intc,zgf,zg1,or_false] at hx
    subst hx
    exact zo) (by omega) hxl hO
   refine ⟨.inr rfl,lv,_,?_,hlv _ _ _ hfz,rowQ zk xs hxl,rfl,?_⟩
   ·simp only [i115,V0,sevalprocAttr,ht]
   ·rw [Y5]; exact hD
  suffices hsuf:∀ K:yKM,(∀ t' (O0 x2 x3 x4 x5:IObj) (J:yLO) (lv:IV) (xs:List Int),OwnJ intc 1 (d+1) 6 J lv xs->xs=aroundR p x.id->Slots 80 t' [(4,.ptrM (d+1) 1 0)]->K .ret ⟨t',O0::.cells [lv]::x2::x3::x4::x5::J⟩)->Ex (callN Ftab S (m+1)) (d+1) out2 (m+1) i115.body K ⟨t,[]⟩ from hsuf _ fin
  clear fin
  intro K fin
  rw [show i115.body=.seq (i115.body.sub [0]) (.seq (i115.body.sub [1,0]) (.seq (i115.body.sub [1,1,0]) (.seq (i115.body.sub [1,1,1,0]) (.seq (i115.body.sub [1,1,1,1,0]) (.seq (i115.body.sub [1,1,1,1,1,0]) (.seq (i115.body.sub [1,1,1,1,1,1,0]) (i115.body.sub [1,1,1,1,1,1,1]))))))) from rfl]
  generalize i115.body.sub [1,1,1,1,1,0]=T at hL0 ⊢
  have hf:(p.ns.l.find? fun f=>f.id==x.id)=some x:=yx h0.nice.nid hx
  rw [hf] at hnd
  simp only [zh7,Option.isSome_some,Nd.c,zf] at hnd
  have cmp:∀ a b,(IV.mapM a b).cells=[.mapM a b]:=fun _ _=>rfl
  have smp:∀ a b,(IV.mapM a b).scalar=true:=fun _ _=>rfl
  simp only [i115,IC.sub,V0,sevalprocAttr,cmp,smp,hfr,hnd]
  refine hL0 (d+1) out2 _ _ x.id _ _ [] [] 0 (by simp only [V0,sevalprocAttr,hfr]) fun t' lv J L bs ck xs hO hD ht=>?_
  simp only [ze,zg] at ht
  obtain ⟨rfl,hlk⟩:=hD
  rcases hO with ⟨he,rfl⟩ | ⟨b,hne,rfl,hb⟩
  ·obtain ⟨J',hs⟩:=qsort_nil (d:=d+1) (out:=out2) (ownV:=.cells [p.ns.v,p.az.v,p.fs.v]::.cells [.nilsl]::.free::.cells [.int .i64 x.id,.int .i64 x.at'.x,.int .i64 x.at'.y]::.map (ptKs L) (ptVs L) bs ck::.cells [.mapM (d+1) 4]::(J++[.free])) (own:=.cells [p.ns.v,p.az.v,p.fs.v]::.cells [.nilsl]::.free::.cells [.int .i64 x.id,.int .i64 x.at'.x,.int .i64 x.at'.y]::.map (ptKs L) (ptVs L) bs ck::.cells [.mapM (d+1) 4]::(J++[.free])) (fv:=.fn 153 [] [.ptrM (d+1) 3 0,.ptrM (d+1) 5 0]) hS (m:=m+1) (by omega)
   have e0:aroundR p x.id=[]:=by
    rw [he] at harp
    exact List.perm_nil.1 harp
   simp only [V0,sevalprocAttr,ht,hs]
   exact fin _ _ _ _ _ _ _ _ [] (.inl ⟨rfl,rfl⟩) e0.symm (by simp only [V0,sevalprocAttr,ht])
  ·have hb2:(J++[IObj.free])[b]?=some (.cells ((dartsAt p x.id).flatMap intc)):=by rw [zf1 (zfz.1 hb).1]; exact hb
   have hbl:=(zfz.1 hb).1
   have hat:((dartsAt p x.id).attach.flatMap fun a:{ z // z∈dartsAt p x.id }=>intc a.1)=(dartsAt p x.id).flatMap intc:=by
    conv=>rhs; rw [← List.attach_map_subtype_val (dartsAt p x.id)]
    rw [List.flatMap_map]
   generalize hxn:(dartsAt p x.id).length=n at hfew
   have key:∀ W:yLO,W=(IObj.cells [p.ns.v,p.az.v,p.fs.v]::.cells [.slM (d+1) (6+b) 0 n n 1 false]::.free::.cells [.int .i64 x.id,.int .i64 x.at'.x,.int .i64 x.at'.y]::.map (ptKs L) (ptVs L) bs ck::.cells [.mapM (d+1) 4]::(J++[.free])) ->
     ∃ (J':yLO),(∀ id,callN Ftab S (m+1) (d+1) out2 W W id 152 [.slM (d+1) (6+b) 0 n n 1 false,.fn 153 [] [.ptrM (d+1) 3 0,.ptrM (d+1) 5 0]]=some (.x,.tuple [],.cells [p.ns.v,p.az.v,p.fs.v]::.cells [.slM (d+1) (6+b) 0 n n 1 false]::.free::.cells [.int .i64 x.id,.int .i64 x.at'.x,.int .i64 x.at'.y]::.map (ptKs L) (ptVs L) bs ck::.cells [.mapM (d+1) 4]::J'))/\J'[b]?=some (.cells ((aroundR p x.id).flatMap intc)):=by
    intro W hW
    have hWl:6+b<W.length:=by rw [hW]; simp; omega
    have hWb:W[6+b]?=some (.cells ((dartsAt p x.id).flatMap intc)):=by
     rw [hW,show 6+b=b+1+1+1+1+1+1 by omega]
     simp only [zgc,hb2]
    have hcmp:CmpOK S (12) (d+1) out2 W (6+b) (fun a:{ z // z∈dartsAt p x.id }=>IV.int .i64 a.1) 153 [.ptrM (d+1) 3 0,.ptrM (d+1) 5 0] (fun a b=>darC x.at' L a.1 b.1):=fun m hm ownV own id u v hR=>by
     refine around_cmp hS (by omega) u.1 v.1 x L bs ck ownV own id ?_ ?_ ?_
     ·rw [hR 3 (by omega) (by omega),hW]; rfl
     ·rw [hR 4 (by omega) (by omega),hW]; rfl
     ·rw [hR 5 (by omega) (by omega),hW]; rfl
    obtain ⟨xs',hs,hp,hsr⟩:=q_sortS (d:=d+1) (out:=out2) (cp:=n) (tg:=false) (h0.darC_orders hx hlk) hS hWl int_eltX hcmp (n:=n) (by omega) (fun h=>hne (List.eq_nil_of_length_eq_zero (hxn.trans h))) (m+1) (Nc:=12) (by omega) W (dartsAt p x.id).attach [] (fun _ _ _=>rfl) (by rw [List.length_attach]; exact hxn)
    have hxl:xs'.length=n:=by rw [hp.length_eq,List.length_attach]; exact hxn
    rw [← hxl] at hsr
    have hfin:=h0.sorted_around hx hlk hp hsr
    have hfl:(xs'.flatMap fun a:{ z // z∈dartsAt p x.id }=>intc a.1)=(aroundR p x.id).flatMap intc:=by rw [← hfin,List.flatMap_map]
    rw [hfl,zhc,hat,bk_self hWb] at hs
    refine ⟨(J++[IObj.free]).set b (.cells ((aroundR p x.id).flatMap intc)),fun id=>?_,?_⟩
    ·have hbk:Bk W (6+b) ((aroundR p x.id).flatMap intc)=IObj.cells [p.ns.v,p.az.v,p.fs.v]::.cells [.slM (d+1) (6+b) 0 n n 1 false]::.free::.cells [.int .i64 x.id,.int .i64 x.at'.x,.int .i64 x.at'.y]::.map (ptKs L) (ptVs L) bs ck::.cells [.mapM (d+1) 4]::(J++[IObj.free]).set b (.cells ((aroundR p x.id).flatMap intc)):=by
      generalize IV.slM (d+1) (6+b) 0 n n 1 false=z at hW ⊢
      rw [Bk,hW,show 6+b=b+1+1+1+1+1+1 by omega]
      rfl
     rw [hs id,hbk,zhc]
    ·rw [zg9 (by simp; omega)]
   obtain ⟨J',hs,hb'⟩:=key _ rfl
   simp only [V0,sevalprocAttr,ht,hs]
   have hla:(aroundR p x.id).length=n:=by rw [harp.length_eq]; exact hxn
   refine fin _ _ _ _ _ _ J' _ (aroundR p x.id) (.inr ⟨b,?_,?_,hb'⟩) rfl (by simp only [V0,sevalprocAttr,ht])
   ·intro e
    rw [e] at hla
    exact hne (List.eq_nil_of_length_eq_zero (by rw [hxn]; exact hla.symm))
   ·rw [hla]
 obtain ⟨r,h1,q,rfl,h2⟩:=main
 exact ⟨q,h1,h2⟩
theorem around_givesX (hT:TabCl Ftab) (hSc:SumCl S) (hS:NoS S) (p:Pn) (h0:Good0 p) (hfv:FewVia p) (ha:2*p.az.l.length<65536) {x:Nd} (hx:x∈p.ns.l):∃ q:SlOf 1 intc,q.l=aroundR p x.id/\∃ N,GivesN S N 115 [.agg p.c,.int .i64 x.id] q.v:=by
 obtain ⟨N,hN⟩:=around_runX hS p h0 hfv ha hx
 obtain ⟨q,h1,h2⟩:=hN N (zf7 _) 0 (fun _=>[]) [] [] 0
 refine ⟨q,h2,N,YO hT hSc (ns hS (by rfl)) rfl rfl (fun k=>?_) (YP q 3) h1⟩
 rw [zg3,pn_sh]
 simp [sh]
end
end
section
theorem prec_adj {l:List Int} {z:Int} (hz:z∈l):Adj l (precI l z) z:=by
 unfold precI
 cases hf:l.findIdx? fun x=>z==x with
 | none =>
  have:=zij.1 hf z hz
  simp at this
 | some i =>
  obtain ⟨hi,he,_⟩:=zh0.1 hf
  have he:l[i]=z:=(eq_of_beq he).symm
  show Adj l ((l[(i+l.length - 1) % l.length]?).getD 0) z
  rcases i with - | i
  ·rw [Nat.mod_eq_of_lt (show 0+l.length - 1<l.length by omega),zf0 (show 0+l.length - 1<l.length by omega)]
   cases l with
   | nil=>simp at hi
   | cons y B =>
    have he:y=z:=he
    subst he
    refine .inr ⟨B,rfl,?_⟩
    rw [List.getLast?_eq_getElem?,zf0 (by simp)]
    simp
  ·have e1:(i+1+l.length - 1) % l.length=i:=by
    rw [show i+1+l.length - 1=i+l.length by omega,Nat.add_mod_right]
    exact Nat.mod_eq_of_lt (by omega)
   rw [e1,zf0 (show i<l.length by omega)]
   refine .inl ⟨l.take i,l.drop (i+1+1),?_⟩
   show l=l.take i++l[i]::z::l.drop (i+1+1)
   rw [← he,← List.drop_eq_getElem_cons hi,← List.drop_eq_getElem_cons (show i<l.length by omega),zih]
def NxOK (p:Pn) (nx:List (Int × Int)) (xs:List Int):Prop:=∀ z∈xs,lkM 0 nx (ngI z)=nextR p (ngI z)
theorem NxOK.put {p:Pn} {nx:List (Int × Int)} {xs:List Int} (h:NxOK p nx xs) {z:Int}:NxOK p (putM nx (ngI z) (nextR p (ngI z))) (xs++[z]):=fun y hy=>by
 rw [lkM_put]
 by_cases e:ngI y=ngI z
 ·rw [if_pos e,e]
 ·rw [if_neg e]
  rcases zhf.1 hy with hy | hy
  ·exact h y hy
  ·rw [zhe.1 hy] at e
   exact absurd rfl e
theorem Good0.prec {p:Pn} (h:Good0 p) {x:Nd} (hx:x∈p.ns.l) {z:Int} (hz:z∈aroundR p x.id):precI (aroundR p x.id) z=nextR p (ngI z):=by
 rw [(h.ng_dart (h.of_around hx hz).1).1]
 exact (h.next hx (prec_adj hz)).symm
section
variable {S:ySM}
theorem cy_innerX (hS:NoS S) (p:Pn) (h0:Good0 p) {nd:Nd} (hnd:nd∈p.ns.l) {m D:Nat} {out:yLM} {K:yKM} (t:List IV) (q:SlOf 1 intc) (hql:q.l.length<=1000000) (hm:q.l.length+10<=m) (i:Nat) (x1:IObj) (lv:IV) (J:yLO) (nx:List (Int × Int)) (bs:List Nat) (ck:Nat) (xs:List Int) (hO:OwnJ intc 1 D 4 J lv xs) (hx:xs.length+q.l.length<=1000000) (hn:nx.length<=xs.length) (hqa:q.l=aroundR p nd.id) (hnx:NxOK p nx xs)
  (hfr:Slots 72 t [(1,.ptrM D 0 0),(2,.nilsl),(4,lv),(5,.ptrM D 3 0),(8,q.v),(22,p.ns.v),(23,iv (p.ns.l.length:Nat)),(24,iv i)])
  (hK:∀ t' lv J nx bs ck,OwnJ intc 1 D 4 J lv (xs++q.l)->nx.length<=(xs++q.l).length->NxOK p nx (xs++q.l)->Slots 72 t' [(1,.ptrM D 0 0),(2,.nilsl),(4,lv),(5,.ptrM D 3 0),(8,q.v),(22,p.ns.v),(23,iv (p.ns.l.length:Nat)),(24,iv i)]->K .normal ⟨t',.cells [p.ns.v,p.az.v,p.fs.v]::x1::.map (mKs nx) (mVs (IV.int .i64) nx) bs ck::.cells [.mapM D 2]::J⟩) :
  Ex (callN Ftab S m) D out m (i73.body.sub [1,1,1,1,0,1,0,0,1,1,0,0,1,1]) K ⟨t,.cells [p.ns.v,p.az.v,p.fs.v]::x1::.map (mKs nx) (mVs (IV.int .i64) nx) bs ck::.cells [.mapM D 2]::J⟩:=by
 simp only [V3] at hfr
 have hqf:=q.few
 simp only [i73,IC.sub,V0,Xa,Xb,Xc,Xd,Xe,reduceCtorEq,hfr]
 refine zd (fun jj st=>∃ (k:Nat) (lv:IV) (J:yLO) (nx:List (Int × Int)) (bs:List Nat) (ck:Nat),q.l.length - k<=jj/\k<=q.l.length/\OwnJ intc 1 D 4 J lv (xs++q.l.take k)/\nx.length<=xs.length+k/\NxOK p nx (xs++q.l.take k)/\st.own=.cells [p.ns.v,p.az.v,p.fs.v]::x1::.map (mKs nx) (mVs (IV.int .i64) nx) bs ck::.cells [.mapM D 2]::J/\Slots 72 st.t [(1,.ptrM D 0 0),(2,.nilsl),(4,lv),(5,.ptrM D 3 0),(8,q.v),(22,p.ns.v),(23,iv (p.ns.l.length:Nat)),(24,iv i),(32,q.v),(33,iv (q.l.length:Nat)),(34,iv k)]) q.l.length (by omega) ⟨0,lv,J,nx,bs,ck,by omega,by omega,by rw [zis,zhc]; exact hO,by omega,by rw [zis,zhc]; exact hnx,rfl,by simp only [V0,Xa,Xb,Xc,Xd,Xe,reduceCtorEq,hfr,zg4]⟩ ?_
 clear hfr hO hn hnx
 rintro jj ⟨t,own1⟩ KB ⟨k,lv,J,nx,bs,ck,hjj,hk,hO,hn,hnx,ho,hfr⟩ hnB heB hrB
 dsimp only at ho hfr
 subst ho
 simp only [V3] at hfr
 have htk0:∀ {z:Int},q.l[k]?=some z->xs++q.l.take k++[z]=xs++q.l.take (k+1):=fun {z} hz=>by rw [zhb,hz]; simp
 by_cases h:k<q.l.length
 ·have hx1:q.l[k]?=some q.l[k]:=zf0 h
  have hzm:q.l[k]∈aroundR p nd.id:=by rw [← hqa]; exact zgt h
  generalize q.l[k]=z at hx1 hzm
  have hpr:=h0.prec hnd hzm
  rw [← hqa] at hpr
  have hnx2:=hnx.put (z:=z)
  rw [htk0 hx1,← hpr] at hnx2
  have hnx2:NxOK p (putM nx (wrapI .i64 (0 - z)) (precI q.l z)) (xs++q.l.take (k+1)):=hnx2
  have hrd:rdN (q.l.flatMap intc) (k*1) 1=some [.int .i64 z]:=(zb zk 0 1 hx1 (by omega)).trans rfl
  have hw:wrapI .i64 ((k:Int)+1)=((k+1:Nat):Int):=we
  have htk:xs++q.l.take k++[z]=xs++q.l.take (k+1):=by rw [zhb,hx1]; simp
  have hlt:(xs++q.l.take k).length=xs.length+k:=by rw [zga,zhx,Nat.min_eq_left (by omega)]
  obtain ⟨e,lv',J2,happ,hO2⟩:=za7 (Pre:=[.cells [p.ns.v,p.az.v,p.fs.v],x1,.map (mKs nx) (mVs (IV.int .i64) nx) bs ck,.cells [.mapM D 2]]) (n0:=J.length+1+1+1+1) (slot:=0) (k:=0) (out:=out) (R:=[.free]) zk hO (ys:=[z]) (by simp) (by simp only [hlt,zf3,zgb]; omega) (by simp only [zf3,zgb]; omega) rfl rfl
  simp only [zgq,zgz,zgj,zh4,intc,zf,zf3,zgb,zhc,zg5] at happ
  rw [htk] at hO2
  obtain ⟨bs',ck',hup⟩:=upd_m (u:=IV.int .i64) nx bs ck (wrapI .i64 (0 - z)) (precI q.l z)
  have hup2:=fun C n0 ownV own t a b c=>hup C D out n0 2 ownV own t a b c
  have cp:=at_prec hS q z hql m (by omega)
  simp only [zf] at cp
  simp only [V0,Xa,Xb,Xc,Xd,Xe,reduceCtorEq,hfr,h,za q h,hrd,rep,zt,zJ,zT,yD,happ,cp,hup2]
  refine ⟨by simp [comm],?_⟩
  have hpl:=putM_len nx (wrapI .i64 (0 - z)) (precI q.l z)
  simp only [V0,Xa,Xb,Xc,Xd,Xe,reduceCtorEq,hfr,hw]
  exact hnB _ (q.l.length - (k+1)) (by omega) ⟨k+1,lv',_,_,bs',ck',by omega,by omega,hO2.more _,by omega,hnx2,rfl,by simp only [V0,Xa,Xb,Xc,Xd,Xe,reduceCtorEq,hfr,hw]⟩
 ·simp only [V0,Xa,Xb,Xc,Xd,Xe,reduceCtorEq,hfr,h]
  refine heB _ _ ?_
  simp only [V0,Xa,Xb,Xc,Xd,Xe,reduceCtorEq,hfr]
  have hkl:k=q.l.length:=by omega
  rw [hkl,List.take_length] at hO hnx
  exact hK _ _ _ _ _ _ hO (by rw [zga]; omega) hnx (by simp only [V0,Xa,Xb,Xc,Xd,Xe,reduceCtorEq,hfr])
theorem cy_nodesX (hT:TabCl Ftab) (hSc:SumCl S) (hS:NoS S) (p:Pn) (h0:Good0 p) (hfv:FewVia p) (ha:2*p.az.l.length<65536) (hna:2*p.az.l.length*p.ns.l.length<=900000):∃ N,∀ m,N<=m->∀ (D:Nat) (out:yLM) (K:yKM) (t:List IV) (x1:IObj),
  Slots 72 t [(1,.ptrM D 0 0),(2,.nilsl),(4,.nilsl),(5,.ptrM D 3 0)] ->
  (∀ t' lv J nx bs ck xs,OwnJ intc 1 D 4 J lv xs->xs=folN p->NxOK p nx xs->xs.length<=2*p.az.l.length*p.ns.l.length->nx.length<=xs.length->Slots 72 t' [(1,.ptrM D 0 0),(2,.nilsl),(4,lv),(5,.ptrM D 3 0)]->K .normal ⟨t',.cells [p.ns.v,p.az.v,p.fs.v]::x1::.map (mKs nx) (mVs (IV.int .i64) nx) bs ck::.cells [.mapM D 2]::J⟩) ->
  Ex (callN Ftab S m) D out m (i73.body.sub [1,1,1,1,0]) K ⟨t,.cells [p.ns.v,p.az.v,p.fs.v]::x1::.map [] [] [] 0::.cells [.mapM D 2]::[]⟩:=by
 have har:∀ n∈p.ns.l,∃ N,∀ m,N<=m->∃ q:SlOf 1 intc,q.l=aroundR p n.id/\q.l.length<=2*p.az.l.length/\∀ d out ownV own id,callN Ftab S m d out ownV own id 115 [.agg p.c,.int .i64 n.id]=some (.r,q.v,own):=fun n hn=>by
  obtain ⟨q,h1,N,h3⟩:=around_givesX hT hSc hS p h0 hfv ha hn
  exact ⟨N,fun m hm=>⟨q,h1,by rw [h1,(h0.around hn).1.length_eq]; exact zc4 p n.id,h3 m hm⟩⟩
 obtain ⟨Na,hNa⟩:=Yv p.ns.l har
 refine ⟨Na+p.ns.l.length+200000,fun m hm D out K t x1 hfr hK=>?_⟩
 simp only [ze,zg] at hfr
 have hnf:=p.ns.few
 have hI:=fun {D:Nat} {out:yLM} {K:yKM} {nd:Nd} (hnd:nd∈p.ns.l) t q hql hm i x1 lv J nx bs ck xs=>@cy_innerX S hS p h0 nd hnd m D out K t q hql hm i x1 lv J nx bs ck xs
 rw [show i73.body.sub [1,1,1,1,0]=.seq (i73.body.sub [1,1,1,1,0,0]) (.block 0 (.loop (.seq (i73.body.sub [1,1,1,1,0,1,0,0,0]) (.seq (i73.body.sub [1,1,1,1,0,1,0,0,1,0]) (.seq (.block 1 (.seq (i73.body.sub [1,1,1,1,0,1,0,0,1,1,0,0,0]) (.seq (i73.body.sub [1,1,1,1,0,1,0,0,1,1,0,0,1,0]) (i73.body.sub [1,1,1,1,0,1,0,0,1,1,0,0,1,1])))) (i73.body.sub [1,1,1,1,0,1,0,0,1,1,1])))))) from rfl]
 generalize i73.body.sub [1,1,1,1,0,1,0,0,1,1,0,0,1,1]=T at hI ⊢
 simp only [i73,IC.sub,V0,Xa,Xb,Xc,Xd,Xe,reduceCtorEq,hfr]
 refine zd (fun jj st=>∃ (i:Nat) (lv:IV) (J:yLO) (nx:List (Int × Int)) (bs:List Nat) (ck:Nat) (xs:List Int),p.ns.l.length - i<=jj/\i<=p.ns.l.length/\OwnJ intc 1 D 4 J lv xs/\xs=(p.ns.l.take i).flatMap (fun n=>aroundR p n.id)/\NxOK p nx xs/\xs.length<=2*p.az.l.length*i/\nx.length<=xs.length/\st.own=.cells [p.ns.v,p.az.v,p.fs.v]::x1::.map (mKs nx) (mVs (IV.int .i64) nx) bs ck::.cells [.mapM D 2]::J/\Slots 72 st.t [(1,.ptrM D 0 0),(2,.nilsl),(4,lv),(5,.ptrM D 3 0),(22,p.ns.v),(23,iv (p.ns.l.length:Nat)),(24,iv i)]) p.ns.l.length (by omega) ⟨0,.nilsl,[],[],[],0,[],by omega,by omega,.inl ⟨rfl,rfl⟩,by rw [zis]; rfl,fun _ h=>(by simp at h),by simp,by simp,rfl,by simp only [V0,Xa,Xb,Xc,Xd,Xe,reduceCtorEq,hfr,zg4]⟩ ?_
 clear hfr
 rintro jj ⟨t,own⟩ KA ⟨i,lv,J,nx,bs,ck,xs,hjj,hi,hO,hD,hnx,hxl,hn,ho,hfr⟩ hnA heA hrA
 dsimp only at ho hfr
 subst ho
 simp only [V3] at hfr
 have hmul:2*p.az.l.length*i<=2*p.az.l.length*p.ns.l.length:=Nat.mul_le_mul_left _ hi
 by_cases h:i<p.ns.l.length
 ·have hx:p.ns.l[i]?=some p.ns.l[i]:=zf0 h
  obtain ⟨q,hq1,hq2,hq3⟩:=hNa _ (zgt h) m (by omega)
  have hxm:=zgt h
  generalize p.ns.l[i]=x at hx hq3 hq1 hxm
  have hrd:rdN (p.ns.l.flatMap Nd.c) (i*3) 3=some [.int .i64 x.id,.int .i64 x.at'.x,.int .i64 x.at'.y]:=(zb Nd.c_len 0 3 hx (by omega)).trans rfl
  have hw:wrapI .i64 ((i:Int)+1)=((i+1:Nat):Int):=we
  simp only [Pn.c] at hq3
  have hmul1:2*p.az.l.length*(i+1)=2*p.az.l.length*i+2*p.az.l.length:=Nat.mul_succ _ _
  have hmul2:2*p.az.l.length*(i+1)<=2*p.az.l.length*p.ns.l.length:=Nat.mul_le_mul_left _ h
  simp only [V0,Xa,Xb,Xc,Xd,Xe,reduceCtorEq,hfr,h,za p.ns h,hrd,hq3]
  refine hI hxm _ q (by omega) (by omega) i x1 lv _ nx bs ck xs (hO.more _) (by omega) hn hq1 hnx (by simp only [V0,Xa,Xb,Xc,Xd,Xe,reduceCtorEq,hfr]) fun t' lv' J' nx' bs' ck' hO' hn' hnx' ht'=>?_
  simp only [V3] at ht'
  simp only [V0,Xa,Xb,Xc,Xd,Xe,reduceCtorEq,ht',hw]
  rw [zga] at hn'
  exact hnA _ (p.ns.l.length - (i+1)) (by omega) ⟨i+1,lv',J',nx',bs',ck',xs++q.l,by omega,by omega,hO',by rw [hD,hq1,zhb,hx,zhq,List.flatMap_append,zgj,zh4,zhc],hnx',by rw [zga]; omega,by rw [zga]; omega,rfl,by simp only [V0,Xa,Xb,Xc,Xd,Xe,reduceCtorEq,ht',hw]⟩
 ·simp only [V0,Xa,Xb,Xc,Xd,Xe,reduceCtorEq,hfr,h]
  refine heA _ _ ?_
  simp only [V0,Xa,Xb,Xc,Xd,Xe,reduceCtorEq,hfr]
  rw [zgg (by omega)] at hD
  exact hK _ _ _ _ _ _ _ hO hD hnx (by omega) hn (by simp only [V0,Xa,Xb,Xc,Xd,Xe,reduceCtorEq,hfr])
theorem follow_runX (hS:NoS S) {m D:Nat} {out:yLM} {fn:Int->Int} {D0 c:List Int} {z:Int} (hc:Orb fn D0 z c) (hcl:fn (lastI c)=z) (hm:c.length+9<=m) (hU:c.length<=1000000) (P J0:yLO) (nx:List (Int × Int)) (nbs:List Nat) (nck:Nat) (hP2:P[2]?=some (.map (mKs nx) (mVs (IV.int .i64) nx) nbs nck)) (hP3:P[3]?=some (.cells [.mapM D 2])) (hnx:∀ k∈c,lkM 0 nx k=fn k) (sn:List (Int × Bool)) (hsn:∀ k∈c,lkM false sn k=false) (bs:List Nat) (ck:Nat) (ownV:yLO) :
  ∃ lv' J' sn' bs' ck',(∀ id,callN Ftab S m D out ownV (P++.map (mKs sn) (mVs IV.bool sn) bs ck::.cells [.mapM D P.length]::J0) id 118 [.int .i64 z,.ptrM D (P.length+1) 0,.ptrM D 3 0]=some (.x,lv',P++.map (mKs sn') (mVs IV.bool sn') bs' ck'::.cells [.mapM D P.length]::J'))/\OwnB intc 1 D (P.length+2) J0.length J' lv' c/\(∀ j,j<J0.length->J'[j]?=J0[j]?)/\J0.length<=J'.length/\(∀ k,lkM false sn' k=(c.contains k||lkM false sn k)):=by
 obtain ⟨m,rfl⟩:∃ q,m=q+1:=⟨m - 1,by omega⟩
 have f0:∀ x R,(P++x::R)[P.length]?=some x:=fun x R=>by rw [zf4 (zf7 _),zit]; rfl
 have f1:∀ x y R,(P++x::y::R)[P.length+1]?=some y:=fun x y R=>by rw [zf4 (by omega),zhw]; rfl
 have hPl:3<P.length:=(zfz.1 hP3).1
 have f2:∀ R,(P++R)[2]?=some (.map (mKs nx) (mVs (IV.int .i64) nx) nbs nck):=fun R=>by rw [zf1 (by omega)]; exact hP2
 have f3:∀ R,(P++R)[3]?=some (.cells [.mapM D 2]):=fun R=>by rw [zf1 (by omega)]; exact hP3
 have s0:∀ x y R,(P++x::R).set P.length y=P++y::R:=fun x y R=>by rw [zie _ _ (zf7 _),zit]; rfl
 have main:∃ v own',(∀ id,callN Ftab S (m+1) D out ownV (P++.map (mKs sn) (mVs IV.bool sn) bs ck::.cells [.mapM D P.length]::J0) id 118 [.int .i64 z,.ptrM D (P.length+1) 0,.ptrM D 3 0]=some (.x,v,own'))/\(∃ J' sn' bs' ck',own'=P++.map (mKs sn') (mVs IV.bool sn') bs' ck'::.cells [.mapM D P.length]::J'/\OwnB intc 1 D (P.length+2) J0.length J' v c/\(∀ j,j<J0.length->J'[j]?=J0[j]?)/\J0.length<=J'.length/\(∀ k,lkM false sn' k=(c.contains k||lkM false sn k))):=by
  refine yL (i:=i118) (ns hS (by rfl)) rfl rfl (lb rfl) fun t hfr=>?_
  simp only [V2,Xb,i118] at hfr
  simp only [i118,V0,sevalprocAttr,hfr]
  refine zd (fun jj st=>∃ (i:Nat) (z1:Int) (J:yLO) (s1:List (Int × Bool)) (bs:List Nat) (ck:Nat) (lv:IV),c.length - i<=jj/\i<=c.length/\c[i]?.getD z=z1/\OwnB intc 1 D (P.length+2) J0.length J lv (c.take i)/\(∀ j,j<J0.length->J[j]?=J0[j]?)/\J0.length<=J.length/\(∀ k,lkM false s1 k=((c.take i).contains k||lkM false sn k))/\st.own=P++.map (mKs s1) (mVs IV.bool s1) bs ck::.cells [.mapM D P.length]::J/\Slots 19 st.t [(0,.int .i64 z1),(1,.ptrM D (P.length+1) 0),(2,.ptrM D 3 0),(4,lv)]) c.length (by omega) ⟨0,z,J0,sn,bs,ck,.nilsl,by omega,Nat.zero_le _,by rw [hc.head]; rfl,.inl ⟨by rw [zis],rfl⟩,fun _ _=>rfl,zf7 _,fun k=>by rw [zis]; rfl,rfl,by simp only [V0,sevalprocAttr,hfr]⟩ ?_
  clear hfr
  rintro jj ⟨t,own⟩ KA ⟨i,z1,J,s1,bs,ck,lv,hjj,hi,hz1,hO,hk,hlJ,hx,ho,hfr⟩ hnA heA hrA
  dsimp only at ho hfr
  subst ho
  simp only [V3] at hfr
  have evS:∀ (R:yLO) (C:Call) (n0:Nat) (own:yLO) (t:List IV) (a b:Opd),ρ t a=.mapM D P.length->ρ t b=.int .i64 z1->evOp C D out n0 (P++.map (mKs s1) (mVs IV.bool s1) bs ck::R) own t (.lookup (.bool false) (false,[1]) false a b)=some (.r,.bool (lkM false s1 z1),own):=fun R C n0 own t a b h1 h2=>YA (bs:=bs) (ck:=ck) false z1 rfl h1 h2 (by simp only [look,if_true,f0])
  have evN:∀ (R:yLO) (C:Call) (n0:Nat) (own:yLO) (t:List IV) (a b:Opd),ρ t a=.mapM D 2->ρ t b=.int .i64 z1->evOp C D out n0 (P++R) own t (.lookup (.int .i64 0) (false,[1]) false a b)=some (.r,.int .i64 (lkM 0 nx z1),own):=fun R C n0 own t a b h1 h2=>YA (u:=IV.int .i64) (bs:=nbs) (ck:=nck) 0 z1 rfl h1 h2 (by simp only [look,if_true,f2])
  by_cases hil:i<c.length
  ·have hci:c[i]?=some c[i]:=zf0 hil
   have hz1m:c[i]=z1:=by rw [hci] at hz1; exact hz1
   rw [hz1m] at hci
   have hmem:z1∈c:=by rw [← hz1m]; exact zgt hil
   have hnot:(c.take i).contains z1=false:=by
    rw [Bool.eq_false_iff]
    intro e
    obtain ⟨j,hj⟩:=zg7 (zgh.1 e)
    have hji:j<i:=by
     have:=(zfz.1 hj).1
     rw [zhx] at this
     omega
    rw [List.getElem?_take_of_lt hji] at hj
    obtain ⟨l1,e1⟩:=zfz.1 hj
    have:=(List.getElem_inj hc.nodup).1 (e1.trans hz1m.symm)
    omega
   have hs:lkM false s1 z1=false:=by rw [hx,hnot,hsn z1 hmem]; rfl
   have htk:c.take i++[z1]=c.take (i+1):=by rw [zhb,hci]; rfl
   have hlt:(c.take i).length=i:=by rw [zhx]; omega
   have hnext:c[i+1]?.getD z=lkM 0 nx z1:=by
    rw [hnx z1 hmem]
    by_cases hl:i+1<c.length
    ·rw [hc.step i z1 hci hl]
     rfl
    ·have e:i=c.length - 1:=by omega
     rw [zig (by omega)]
     have hla:=hc.last
     rw [← e,hci] at hla
     rw [zgy hla,hcl]
     rfl
   obtain ⟨bs',ck',hup⟩:=upd_m (u:=IV.bool) s1 bs ck z1 true
   obtain ⟨e,lv',J2,happ,hO2,hk2,hl2⟩:=ownB_app1 (Pre:=P++[.map (mKs (putM s1 z1 true)) (mVs IV.bool (putM s1 z1 true)) bs' ck',.cells [.mapM D P.length]]) (n0:=P.length+(J.length+1+1)) (slot:=0) (k:=0) (out:=out) (R:=[.free]) zk (by simp) hO hlJ (ys:=[z1]) (by simp) (by rw [hlt]; simp only [zf3,zgb]; omega) (by omega) rfl rfl
   simp only [zgu,zgq,zgz,zgj,zh4,intc,zf,zf3,zgb,zhc,zg5] at happ
   have hup2:=fun C n0 ownV own t a b c=>hup C D out n0 P.length ownV own t a b c
   rw [htk] at hO2
   simp only [V0,sevalprocAttr,hfr,f0,f1,f3,evS,evN,hs,hup2,s0,rep,zt,zJ,zT,yD,happ]
   refine hnA _ (c.length - (i+1)) (by omega) ⟨i+1,lkM 0 nx z1,J2,putM s1 z1 true,bs',ck',lv',by omega,by omega,hnext,hO2,fun j hj=>?_,by rw [hl2,zga]; omega,fun k=>?_,rfl,by simp only [V0,sevalprocAttr,hfr]⟩
   ·rw [hk2 j hj,zf1 (by omega)]
    exact hk j hj
   ·rw [lkM_put,← htk,hx k]
    by_cases e:k=z1
    ·subst e
     rw [if_pos rfl,zgh.2 (List.mem_append_right _ (zhe.2 rfl))]
     rfl
    ·rw [if_neg e]
     congr 1
     rw [zhi,zgh,zgh,zhf,zhe]
     exact ⟨.inl,fun h=>h.resolve_right e⟩
  ·have hie:i=c.length:=by omega
   have hz1z:z1=z:=by rw [← hz1,zig (by omega)]; rfl
   rw [hie,List.take_length] at hO hx
   have hs:lkM false s1 z1=true:=by rw [hx,hz1z,zgh.2 (zgl hc.head)]; rfl
   simp only [V0,sevalprocAttr,hfr,f0,f1,f3,evS,hs]
   refine heA _ _ ?_
   simp only [V0,sevalprocAttr,hfr,yw,zdc]
   exact ⟨_,rfl,J,s1,bs,ck,rfl,hO,hk,hlJ,hx⟩
 obtain ⟨v,own',h1,J',sn',bs',ck',rfl,h2,h3,h4,h5⟩:=main
 exact ⟨v,J',sn',bs',ck',h1,h2,h3,h4,h5⟩
end
end
section
structure CyGo (p:Pn) (xs:List Int) (i:Nat) (sn:List (Int × Bool)) (o:List (List Int)):Prop where
 ex:∃ met,cysGo (cycR (folD p) (folN p)) id (xs.drop i) met o=cysGo (cycR (folD p) (folN p)) id xs [] []/\(∀ k,lkM false sn k=met.contains k)/\∀ k∈met,∃ w∈dartsR p,k∈cycR (folD p) (folN p) w/\∀ x∈cycR (folD p) (folN p) w,x∈met
section
variable {p:Pn} {xs:List Int} {i:Nat} {sn:List (Int × Bool)} {o:List (List Int)}
theorem CyGo.zero:CyGo p xs 0 [] []:=⟨[],by rw [List.drop_zero],fun _=>rfl,fun _ h=>absurd h zg1⟩
theorem CyGo.done (h:CyGo p xs i sn o) (hi:xs.length<=i):o=cysGo (cycR (folD p) (folN p)) id xs [] []:=by
 obtain ⟨met,h1,_⟩:=h.ex
 rw [List.drop_eq_nil_of_le hi] at h1
 exact h1
theorem CyGo.old (h:CyGo p xs i sn o) {z:Int} (hz:xs[i]?=some z) (hs:lkM false sn z=true):CyGo p xs (i+1) sn o:=by
 obtain ⟨met,h1,h2,h3⟩:=h.ex
 obtain ⟨hl,he⟩:=zfz.1 hz
 rw [List.drop_eq_getElem_cons hl,he] at h1
 rw [cysGo] at h1
 rw [if_pos (by rw [← h2]; exact hs)] at h1
 exact ⟨met,h1,h2,h3⟩
theorem CyGo.free (h:CyGo p xs i sn o) (h0:Good0 p) {z:Int} (hz:z∈dartsR p) (hs:lkM false sn z=false):∀ k∈cycR (folD p) (folN p) z,lkM false sn k=false:=fun k hk=>by
 obtain ⟨met,h1,h2,h3⟩:=h.ex
 rw [h2] at hs ⊢
 rw [Bool.eq_false_iff]
 intro e
 obtain ⟨w,hw,hkw,hall⟩:=h3 k (zgh.1 e)
 have:=hall z ((h0.cycle_same hz hw hk hkw z).1 (h0.self_mem hz))
 rw [zgh.2 this] at hs
 cases hs
theorem CyGo.new (h:CyGo p xs i sn o) (h0:Good0 p) {z:Int} (hx:xs[i]?=some z) (hz:z∈dartsR p) (hs:lkM false sn z=false) (sn':List (Int × Bool)) (hsn:∀ k,lkM false sn' k=((cycR (folD p) (folN p) z).contains k||lkM false sn k)):CyGo p xs (i+1) sn' (o++[cycR (folD p) (folN p) z]):=by
 obtain ⟨met,h1,h2,h3⟩:=h.ex
 obtain ⟨hl,he⟩:=zfz.1 hx
 rw [List.drop_eq_getElem_cons hl,he] at h1
 rw [cysGo] at h1
 rw [if_neg (by rw [← h2,hs]; decide)] at h1
 refine ⟨met++id (cycR (folD p) (folN p) z),?_,fun k=>?_,fun k hk=>?_⟩
 ·exact h1
 ·rw [hsn,h2,zhi,zha,zgh,zgh,zgh,zhf]
  exact Or.comm
 ·rcases zhf.1 hk with hk | hk
  ·obtain ⟨w,hw,hkw,hall⟩:=h3 k hk
   exact ⟨w,hw,hkw,fun x hx=>zil _ (hall x hx)⟩
  ·exact ⟨z,hz,hk,fun x hx=>List.mem_append_right _ hx⟩
end
section
variable {S:ySM}
theorem cy_loopX (hS:NoS S) {p:Pn} (h0:Good0 p) {m D:Nat} {out:yLM} {K:yKM} (B:Nat) (xs:List Int) (hm:B+xs.length+10<=m) (hU:B<=1000000) (hB:∀ z∈dartsR p,(cycR (folD p) (folN p) z).length<=B) (hxl:xs.length<=1000000) (P:yLO) (nx:List (Int × Int)) (nbs:List Nat) (nck:Nat) (hP2:P[2]?=some (.map (mKs nx) (mVs (IV.int .i64) nx) nbs nck)) (hP3:P[3]?=some (.cells [.mapM D 2])) (hnx:∀ k∈dartsR p,lkM 0 nx k=nextR p k) (hxU:∀ z∈xs,z∈dartsR p)
  (dv:IV) (hdv:(xs=[]/\dv=.nilsl)∨∃ b,dv=.slM D b 0 xs.length xs.length 1 false/\P[b]?=some (.cells (xs.flatMap intc))) (t:List IV) (hfr:Slots 72 t [(2,.nilsl),(4,dv),(11,.ptrM D (P.length+1) 0),(12,.fn 118 [] [.ptrM D (P.length+1) 0,.ptrM D 3 0])])
  (hK:∀ t' lv sn bs ck J L,OwnJ cyP 1 D (P.length+2) J lv L->CyOK D (P.length+2) B xs J L->L.map Prod.snd=cysGo (cycR (folD p) (folN p)) id xs [] []->L.length<=xs.length->Slots 72 t' [(2,lv)]->K .normal ⟨t',P++.map (mKs sn) (mVs IV.bool sn) bs ck::.cells [.mapM D P.length]::J⟩) :
  Ex (callN Ftab S m) D out m (i73.body.sub [1,1,1,1,1,1,1,1,0]) K ⟨t,P++.map [] [] [] 0::.cells [.mapM D P.length]::[]⟩:=by
 simp only [V3] at hfr
 have hlen:∀ ownV own,lenV D out ownV own 1 dv=some (.p,.int .i64 (xs.length:Nat),own):=fun ownV own=>by
  rcases hdv with ⟨rfl,rfl⟩ | ⟨b,rfl,_⟩ <;> rfl
 have f0:∀ x R,(P++x::R)[P.length]?=some x:=fun x R=>by rw [zf4 (zf7 _),zit]; rfl
 have f1:∀ x y R,(P++x::y::R)[P.length+1]?=some y:=fun x y R=>by rw [zf4 (by omega),zhw]; rfl
 simp only [i73,IC.sub,V0,sevalprocAttr,hfr,hlen]
 refine zd (fun jj st=>∃ (i:Nat) (lv:IV) (J:yLO) (sn:List (Int × Bool)) (bs:List Nat) (ck:Nat) (L:List (IV × List Int)),xs.length - i<=jj/\i<=xs.length/\OwnJ cyP 1 D (P.length+2) J lv L/\CyOK D (P.length+2) B xs J L/\CyGo p xs i sn (L.map Prod.snd)/\L.length<=i/\st.own=P++.map (mKs sn) (mVs IV.bool sn) bs ck::.cells [.mapM D P.length]::J/\Slots 72 st.t [(2,lv),(4,dv),(11,.ptrM D (P.length+1) 0),(12,.fn 118 [] [.ptrM D (P.length+1) 0,.ptrM D 3 0]),(54,dv),(55,iv (xs.length:Nat)),(56,iv i)]) xs.length (by omega) ⟨0,.nilsl,[],[],[],0,[],by omega,by omega,.inl ⟨rfl,rfl⟩,fun _ h=>(by simp at h),CyGo.zero,by simp,rfl,by simp only [V0,sevalprocAttr,hfr,zg4]⟩ ?_
 clear hfr
 rintro jj ⟨t,own⟩ KA ⟨i,lv,J,sn,bs,ck,L,hjj,hi,hO,hL,hG,hLl,ho,hfr⟩ hnA heA hrA
 dsimp only at ho hfr
 subst ho
 simp only [V3] at hfr
 by_cases h:i<xs.length
 ·have hx1:xs[i]?=some xs[i]:=zf0 h
  have hz:xs[i]∈xs:=zgt h
  generalize xs[i]=z at hx1 hz
  obtain ⟨b,rfl,hb⟩:∃ b,dv=.slM D b 0 xs.length xs.length 1 false/\P[b]?=some (.cells (xs.flatMap intc)):=by
   rcases hdv with ⟨rfl,_⟩ | h
   ·simp at h
   ·exact h
  have hbl:b<P.length:=(zfz.1 hb).1
  have fb:∀ R,(P++R)[b]?=some (.cells (xs.flatMap intc)):=fun R=>by rw [zf1 hbl]; exact hb
  have hrd:rdN (xs.flatMap intc) (i*1) 1=some [.int .i64 z]:=(zb zk 0 1 hx1 (by omega)).trans rfl
  have hia:∀ own,iaddrV own 1 (.slM D b 0 xs.length xs.length 1 false) (.int .i64 (i:Int))=some (.p,.ptrM D b (0+i*1),own):=fun own=>zK h
  simp only [zg5] at hia
  have hw:wrapI .i64 ((i:Int)+1)=((i+1:Nat):Int):=we
  have evS:∀ (R:yLO) (C:Call) (n0:Nat) (own:yLO) (t:List IV) (a b:Opd),ρ t a=.mapM D P.length->ρ t b=.int .i64 z->evOp C D out n0 (P++.map (mKs sn) (mVs IV.bool sn) bs ck::R) own t (.lookup (.bool false) (false,[1]) false a b)=some (.r,.bool (lkM false sn z),own):=fun R C n0 own t a b h1 h2=>YA (bs:=bs) (ck:=ck) false z rfl h1 h2 (by simp only [look,if_true,f0])
  cases hs:lkM false sn z
  ·have hzD:=hxU z hz
   obtain ⟨hcyc,hcl⟩:=h0.cycle hzD
   have hcB:=hB z hzD
   have hG2:=hG.new h0 hx1 hzD hs
   have hfree:=hG.free h0 hzD hs
   obtain ⟨r,hr⟩:∃ r,cycR (folD p) (folN p) z=z::r:=by
    have:=hcyc.head
    cases hcc:cycR (folD p) (folN p) z with
    | nil=>rw [hcc] at this; simp at this
    | cons y r=>rw [hcc] at this; exact ⟨r,by rw [zgy this]⟩
   obtain ⟨lv',J',sn',bs',ck',hc,hOB,hkeep,hJl,hsn'⟩:=follow_runX (out:=out) hS (m:=m) hcyc hcl (by omega) (by omega) P (J++[.free,.free]) nx nbs nck hP2 hP3 (fun k hk=>hnx k (hcyc.sub k hk)) sn hfree bs ck (P++.map (mKs sn) (mVs IV.bool sn) bs ck::.cells [.mapM D P.length]::(J++[.free,.free]))
   rw [hr] at hOB hcB
   obtain ⟨R',rfl⟩:=pre_split hkeep hJl
   obtain ⟨b2,hb2,_,rfl,hget2⟩:∃ b,(J++[IObj.free,.free]).length<=b/\(z::r)≠[]/\lv'=.slM D (P.length+2+b) 0 (z::r).length (z::r).length 1 false/\(J++[.free,.free]++R')[b]?=some (.cells ((z::r).flatMap intc)):=by
    rcases hOB with ⟨h,_⟩ | h
    ·cases h
    ·exact h
   obtain ⟨e,lv2,J2,happ,hO2,hk2,hl2⟩:=ownJ_app3 (Pre:=P++[.map (mKs sn') (mVs IV.bool sn') bs' ck',.cells [.mapM D P.length]]) (n0:=P.length+(J.length+1+1)) (slot:=1) (k:=1) (out:=out) (R:=.free::.free::R') cyP_len (by simp) hO (ys:=[(.slM D (P.length+2+b2) 0 (z::r).length (z::r).length 1 false,z::r)]) (by simp) (by simp only [zf3,zgb]; omega) (by omega) rfl rfl
   simp only [zgu,zgq,zgz,zgj,zh4,cyP,zf,zf3,zgb,zhc,zg5] at happ
   simp only [zgu,zgq,zgz] at hc hget2
   simp only [zga,zf3,zgb] at hb2
   generalize hv:(IV.slM D (P.length+2+b2) 0 (r.length+1) (r.length+1) 1 false)=lv' at happ
   have hv':(IV.slM D (P.length+2+b2) 0 (z::r).length (z::r).length 1 false)=lv':=by rw [← hv,zf3]
   rw [hv'] at hc
   have sc:lv'.scalar=true:=by rw [← hv]; rfl
   have cl:lv'.cells=[lv']:=by rw [← hv]; rfl
   simp only [V0,sevalprocAttr,hfr,h,hia,fb,hrd,f0,f1,evS,hs,hc,rep,zt,zJ,zT,sc,cl,zch,happ,hw]
   refine hnA _ (xs.length - (i+1)) (by omega) ⟨i+1,lv2,J2,sn',bs',ck',_,by omega,by omega,hO2,fun y hy=>?_,by rw [zir,zg3,zh9,← hr]; exact hG2 sn' hsn',by simp only [zga,zf3,zgb]; omega,rfl,by simp only [V0,sevalprocAttr,hfr,hw]⟩
   rcases zhf.1 hy with hy | hy
   ·obtain ⟨⟨b,h1,h2⟩,⟨h',r',h3,h4⟩,h5⟩:=hL y hy
    have hbJ:=(zfz.1 h2).1
    refine ⟨⟨b,h1,hk2 b _ (by omega) (by rw [zf1 hbJ]; exact h2) ?_⟩,⟨h',r',h3,h4⟩,h5⟩
    rw [h3]
    exact cy_ne hL
   ·obtain rfl:=zhe.1 hy
    refine ⟨⟨b2,rfl,hk2 b2 _ (by omega) hget2 (cy_ne hL)⟩,⟨z,r,rfl,hz⟩,hcB⟩
  ·simp only [V0,sevalprocAttr,hfr,h,hia,fb,hrd,f0,f1,evS,hs,hw]
   exact hnA _ (xs.length - (i+1)) (by omega) ⟨i+1,lv,J,sn,bs,ck,L,by omega,by omega,hO,hL,hG.old hx1 hs,by omega,rfl,by simp only [V0,sevalprocAttr,hfr,hw]⟩
 ·simp only [V0,sevalprocAttr,hfr,h]
  refine heA _ _ ?_
  simp only [V0,sevalprocAttr,hfr]
  exact hK _ _ _ _ _ _ _ hO hL (hG.done (by omega)) (by omega) (by simp only [V0,sevalprocAttr,hfr])
end
end
section
theorem zco {p:Pn}:(dartsR p).length=2*p.az.l.length:=by
 unfold dartsR
 rw [zga,zgw,zgw,List.length_reverse]
 omega
theorem Good0.darts_asc {p:Pn} (h:Good0 p):(dartsR p).Pairwise (·<·):=by
 have hpid:=h.nice.aid
 rw [zhk] at hpid
 unfold dartsR
 rw [List.pairwise_append]
 refine ⟨?_,?_,fun a ha b hb=>?_⟩
 ·rw [zhk,List.pairwise_reverse]
  refine hpid.imp_of_mem fun {a b} ha hb hab=>?_
  rw [h.ng ha,h.ng hb]
  omega
 ·rw [zhk]
  exact hpid
 ·obtain ⟨x,hx,rfl⟩:=zgx.1 ha
  obtain ⟨y,hy,rfl⟩:=zgx.1 hb
  rw [List.mem_reverse] at hx
  rw [h.ng hx]
  have:=h.pid x hx
  have:=h.pid y hy
  omega
theorem Good0.fol_perm {p:Pn} (h:Good0 p):(folN p).Perm (dartsR p):=by
 refine (List.perm_ext_iff_of_nodup ?_ h.darts_nodup).2 fun y=>?_
 ·unfold folN
  rw [List.Nodup,List.pairwise_flatMap]
  constructor
  ·intro x hx
   exact (h.around hx).1.nodup_iff.2 h.at_nodup
  ·have hpn:=h.nice.nid
   rw [zhk] at hpn
   refine hpn.imp_of_mem fun {x y} hx hy hxy u hu v hv e=>?_
   subst e
   obtain ⟨_,a2⟩:=h.of_around hx hu
   obtain ⟨_,b2⟩:=h.of_around hy hv
   have:=zbm h.pts hx hy (by rw [← a2,← b2]) (by rw [← a2,← b2])
   omega
 ·rw [h.darts]
  constructor
  ·intro hy
   obtain ⟨x,hx,hy⟩:=zh1.1 hy
   exact (h.of_around hx hy).1
  ·intro hy
   obtain ⟨x,hx,_,hm⟩:=h.node hy
   exact zh1.2 ⟨x,hx,hm⟩
theorem Good0.sorted_darts {p:Pn} (h:Good0 p) {xs:List Int} (hp:xs.Perm (folN p)) (hs:xs.Pairwise (·<=·)):xs=dartsR p:=by
 have hpd:=hp.trans h.fol_perm
 have hlt:xs.Pairwise (·<·):=(hs.and (hpd.nodup_iff.2 h.darts_nodup)).imp fun {a b} hab=>by
  have:=hab.1
  have:=hab.2
  omega
 exact asc_ext hlt h.darts_asc fun y=>hpd.mem_iff
section
variable {S:ySM}
theorem cycles_runX (hT:TabCl Ftab) (hSc:SumCl S) (hS:NoS S) (hSp:∀ args,S 36 args=none) (p:Pn) (h0:Good0 p) (hal:p.az.l.length<=200) (h1:p.ns.l.length<=1000000) (hfv:FewVia p) (ha:2*p.az.l.length<65536) (hna:2*p.az.l.length*p.ns.l.length<=900000)
  (hp:∃ Np,GivesN S Np 36 [.agg p.c] (.int .i64 0)):∃ (N:Nat),∀ m,N<=m->∀ d out ownV own id,∃ cs:SlOf 1 cyG,callN Ftab S m d out ownV own id 73 [.agg p.c]=some (.r,.tuple [cs.v,.int .i64 0],own)/\cs.l.map (·.l)=cyclesR p:=by
 obtain ⟨Np,hp⟩:=hp
 obtain ⟨Nn,hN0⟩:=cy_nodesX hT hSc hS p h0 hfv ha hna
 refine ⟨Np+Nn+600000,fun m hm d out ownV own id=>?_⟩
 obtain ⟨m,rfl⟩:∃ q,m=q+2:=⟨m - 2,by omega⟩
 have main:∃ r,callN Ftab S (m+1+1) d out ownV own id 73 [.agg p.c]=some r/\∃ cs:SlOf 1 cyG,r=(Eff.r,.tuple [cs.v,.int .i64 0],own)/\cs.l.map (·.l)=cyclesR p:=by
  refine Yy (i:=i73) (ns hS (by rfl)) rfl (by decide) (lb rfl) fun t hfr=>?_
  simp only [V2,Xb,i73,Pn.c] at hfr
  generalize (fun l=>if l=d then ownV else out l:yLM)=out2
  have cp:=fun dd oo ownV own id=>hp (m+1) (by omega) dd oo ownV own id
  have hL0:=@hN0 (m+1) (by omega)
  simp only [Pn.c] at cp
  have hlv:∀ (o:yLO) (v w:IV),freeze (m+1) (d+1) o v=some w->leave (m+1) d o own id 0 v=some (.r,w,own):=fun o v w h=>by simp [leave,h]
  have fin:∀ t' (O:yLO) (lv:IV) (cs:SlOf 1 cyG),freeze m (d+1) O lv=some cs.v->cs.l.map (·.l)=cyclesR p->Slots 72 t' [(2,lv),(3,.int .i64 0)]->(Out.ret=.normal∨Out.ret=.ret)/\∃ w r,resultI (d+1) out2 ⟨t',O⟩ i73.res=some w/\leave (m+1) d O own id i73.mode w=some r/\∃ cs:SlOf 1 cyG,r=(Eff.r,.tuple [cs.v,.int .i64 0],own)/\cs.l.map (·.l)=cyclesR p:=fun t' O lv cs hf hc ht=>by
   simp only [ze,zg] at ht
   obtain ⟨m,rfl⟩:∃ q,m=q+1:=⟨m - 1,by omega⟩
   have hfz:freeze (m+1+1) (d+1) O (.tuple [lv,.int .i64 0])=some (.tuple [cs.v,.int .i64 0]):=by
    have h2:freeze (m+1) (d+1) O (.int .i64 0)=some (.int .i64 0):=rfl
    simp only [freeze,zhy,List.mapM_nil,h2,zio,zia,zge,zf2] at hf ⊢
    rw [hf]
    rfl
   refine ⟨.inr rfl,.tuple [lv,.int .i64 0],_,?_,hlv _ _ _ hfz,cs,rfl,hc⟩
   simp only [i73,V0,sevalprocAttr,ht]
  suffices hsuf:∀ K:yKM,(∀ t' (O:yLO) (lv:IV) (cs:SlOf 1 cyG),freeze m (d+1) O lv=some cs.v->cs.l.map (·.l)=cyclesR p->Slots 72 t' [(2,lv),(3,.int .i64 0)]->K .ret ⟨t',O⟩)->Ex (callN Ftab S (m+1)) (d+1) out2 (m+1) i73.body K ⟨t,[]⟩ from hsuf _ fin
  clear fin
  intro K fin
  rw [show i73.body=.seq (i73.body.sub [0]) (.seq (.seq (i73.body.sub [1,0,0]) (.seq (i73.body.sub [1,0,1,0]) (i73.body.sub [1,0,1,1]))) (.seq (i73.body.sub [1,1,0]) (.seq (i73.body.sub [1,1,1,0]) (.seq (i73.body.sub [1,1,1,1,0]) (.seq (i73.body.sub [1,1,1,1,1,0]) (.seq (i73.body.sub [1,1,1,1,1,1,0]) (.seq (i73.body.sub [1,1,1,1,1,1,1,0]) (.seq (i73.body.sub [1,1,1,1,1,1,1,1,0]) (i73.body.sub [1,1,1,1,1,1,1,1,1]))))))))) from rfl]
  have hLp:=fun {K:yKM} B xs hm hU hB hxl P nx nbs nck hP2 hP3 hnx hxU dv hdv t hfr hK=>@cy_loopX S hS p h0 (m+1) (d+1) out2 K B xs hm hU hB hxl P nx nbs nck hP2 hP3 hnx hxU dv hdv t hfr hK
  generalize i73.body.sub [1,1,1,1,0]=T at hL0 ⊢
  generalize i73.body.sub [1,1,1,1,1,1,1,1,0]=T2 at hLp ⊢
  have cmp:∀ a b,(IV.mapM a b).cells=[.mapM a b]:=fun _ _=>rfl
  have smp:∀ a b,(IV.mapM a b).scalar=true:=fun _ _=>rfl
  have he:((0:Int) != 0)=false:=rfl
  simp only [i73,IC.sub,V0,sevalprocAttr,cmp,smp,hfr,cp,he]
  refine hL0 (d+1) out2 _ _ _ (by simp only [V0,sevalprocAttr,hfr]) fun t' lv J nx bs ck xs hO hD hnx hl hnl ht=>?_
  clear hfr
  simp only [ze,zg] at ht
  have hxl:xs.length<65536:=by rw [hD,h0.fol_perm.length_eq,zco]; omega
  have key:∀ W:yLO,W=(IObj.cells [p.ns.v,p.az.v,p.fs.v]::.free::.map (mKs nx) (mVs (IV.int .i64) nx) bs ck::.cells [.mapM (d+1) 2]::(J++[.free]))->∃ (xs':List Int) (J':yLO),(xs'.Perm xs/\xs'.Pairwise (·<=·))/\(∀ id,callN Ftab S (m+1) (d+1) out2 W W id 117 [lv]=some (.x,.tuple [],.cells [p.ns.v,p.az.v,p.fs.v]::.free::.map (mKs nx) (mVs (IV.int .i64) nx) bs ck::.cells [.mapM (d+1) 2]::J'))/\((xs'=[]/\lv=.nilsl)∨∃ b,lv=.slM (d+1) (b+1+1+1+1) 0 xs'.length xs'.length 1 false/\J'[b]?=some (.cells (xs'.flatMap intc))):=by
   intro W hW
   rcases hO with ⟨rfl,rfl⟩ | ⟨b,hne,rfl,hb⟩
   ·obtain ⟨J',hs⟩:=osort_nil (d:=d+1) (out:=out2) (ownV:=W) (own:=W) hS (m:=m+1) (by omega)
    refine ⟨[],J++[.free]++J',⟨List.Perm.refl _,List.Pairwise.nil⟩,fun id=>?_,.inl ⟨rfl,rfl⟩⟩
    rw [hs id,hW]
    rfl
   ·have hb2:(J++[IObj.free])[b]?=some (.cells (xs.flatMap intc)):=by rw [zf1 (zfz.1 hb).1]; exact hb
    have hbl:=(zfz.1 hb).1
    have hWl:4+b<W.length:=by rw [hW]; simp; omega
    have hWb:W[4+b]?=some (.cells (xs.flatMap intc)):=by
     rw [hW,show 4+b=b+1+1+1+1 by omega]
     simp only [zgc,hb2]
    have hs:=fun id=>o_sortS (d:=d+1) (out:=out2) (cp:=xs.length) (tg:=false) hS hWl xs (by omega) (fun h=>hne (List.eq_nil_of_length_eq_zero h)) (m:=m+1) (by omega) W [] id
    rw [zhc,bk_self hWb] at hs
    have hp:=Zl xs
    refine ⟨sortZ xs,(J++[IObj.free]).set b (.cells ((sortZ xs).flatMap intc)),⟨hp,zb3 xs⟩,fun id=>?_,.inr ⟨b,by rw [hp.length_eq,show 4+b=b+1+1+1+1 by omega],?_⟩⟩
    ·have hbk:Bk W (4+b) ((sortZ xs).flatMap intc)=IObj.cells [p.ns.v,p.az.v,p.fs.v]::.free::.map (mKs nx) (mVs (IV.int .i64) nx) bs ck::.cells [.mapM (d+1) 2]::(J++[IObj.free]).set b (.cells ((sortZ xs).flatMap intc)):=by
      rw [Bk,hW,show 4+b=b+1+1+1+1 by omega]
      rfl
     rw [hs id,hbk,zhc]
    ·rw [zg9 (by simp; omega)]
  obtain ⟨xs',J',hperm,hs,hdv⟩:=key _ rfl
  obtain ⟨hperm,hsorted⟩:=hperm
  have hxR:xs'=dartsR p:=h0.sorted_darts (hD ▸ hperm) hsorted
  have hnx2:∀ k∈dartsR p,lkM 0 nx k=nextR p k:=fun k hk=>by
   obtain ⟨e1,hd1⟩:=h0.ng_dart (h0.darts.1 hk)
   have hm1:ngI k∈xs:=hperm.mem_iff.1 (by rw [hxR,e1]; exact h0.darts.2 hd1)
   have:=hnx _ hm1
   rw [e1,(h0.ng_dart hd1).1,ziv] at this
   exact this
  have hlx:xs'.length=xs.length:=hperm.length_eq
  clear key
  simp only [V0,sevalprocAttr,cmp,smp,ht,hs]
  have e0:∀ R:yLO,(IObj.cells [p.ns.v,p.az.v,p.fs.v]::.free::.map (mKs nx) (mVs (IV.int .i64) nx) bs ck::.cells [.mapM (d+1) 2]::(J'++R))=(IObj.cells [p.ns.v,p.az.v,p.fs.v]::.free::.map (mKs nx) (mVs (IV.int .i64) nx) bs ck::.cells [.mapM (d+1) 2]::J')++R:=fun R=>rfl
  generalize hP:(IObj.cells [p.ns.v,p.az.v,p.fs.v]::.free::.map (mKs nx) (mVs (IV.int .i64) nx) bs ck::.cells [.mapM (d+1) 2]::J')=P at e0
  have hPl:P.length=J'.length+1+1+1+1:=by rw [← hP]; simp
  rw [e0,← hPl]
  refine hLp 512 xs' (by omega) (by omega) (fun z hz=>by
   obtain ⟨hcyc,_⟩:=h0.cycle hz
   have h2:=hcyc.nodup.length_le_of_subset fun x hx=>hcyc.sub x hx
   have h3:(dartsR p).length=2*p.az.l.length:=by unfold dartsR; rw [zga,zgw,zgw,List.length_reverse]; omega
   omega) (by omega) P nx bs ck (by rw [← hP]; rfl) (by rw [← hP]; rfl) hnx2 (fun z hz=>by rw [← hxR]; exact hz) lv ?_ _ (by simp only [V0,sevalprocAttr,ht]) fun t2 lv2 sn bs2 ck2 J2 L hO2 hL2 hG2 hLl ht2=>?_
  ·rcases hdv with h | ⟨b,h1,h2⟩
   ·exact .inl h
   ·refine .inr ⟨b+1+1+1+1,h1,?_⟩
    rw [← hP]
    exact h2
  ·clear ht
   simp only [ze,zg] at ht2
   obtain ⟨m,rfl⟩:∃ q,m=q+1:=⟨m - 1,by omega⟩
   have hgetJ:∀ (b:Nat) (x y z:IObj),J2[b]?=some z->(P++x::y::J2)[P.length+2+b]?=some z:=fun b x y z h=>by
    rw [zf4 (by omega),show P.length+2+b - P.length=b+1+1 by omega]
    exact h
   obtain ⟨cs,hcs1,hcs2⟩:=cys_fz (n:=m) (D:=d+1) (own:=P++.map (mKs sn) (mVs IV.bool sn) bs2 ck2::.cells [.mapM (d+1) P.length]::J2) (by omega) (L:=L) fun z hz=>by
    obtain ⟨⟨b,h1,h2⟩,⟨h',r',h3,h4⟩,h5⟩:=hL2 z hz
    exact ⟨⟨_,h1,hgetJ b _ _ _ h2⟩,by omega,by rw [h3]; simp⟩
   have hcl:cs.length=L.length:=by
    have:=congrArg List.length hcs1
    simpa using this
   simp only [i73,IC.sub,V0,sevalprocAttr,ht2]
   refine fin _ _ lv2 (rowQ yM cs (by omega)) ?_ (by rw [Y5,hcs1,hG2,hxR]; rfl) (by simp only [V0,sevalprocAttr,ht2])
   rcases hO2 with ⟨rfl,rfl⟩ | ⟨b,hne,rfl,hb⟩
   ·have:cs=[]:=by
     cases cs with
     | nil=>rfl
     | cons _ _=>simp at hcl
    subst this
    exact ZQ _ (by omega) _ _
   ·rw [frz_slM (hgetJ b _ _ _ hb) (zq cyP_len |>.trans (by omega)) hcs2]
    cases cs with
    | nil=>simp at hcl; exact absurd (zhd.1 hcl.symm) hne
    | cons c cs=>rw [← hcl]; rfl
 obtain ⟨r,h1,cs,rfl,h2⟩:=main
 exact ⟨cs,h1,h2⟩
theorem cycles_givesX (hT:TabCl Ftab) (hSc:SumCl S) (hS:NoS S) (hSp:∀ args,S 36 args=none) (p:Pn) (h0:Good0 p) (hal:p.az.l.length<=200) (h1:p.ns.l.length<=1000000) (hfv:FewVia p) (ha:2*p.az.l.length<65536) (hna:2*p.az.l.length*p.ns.l.length<=900000)
  (hp:∃ Np,GivesN S Np 36 [.agg p.c] (.int .i64 0)):∃ cs:SlOf 1 cyG,cs.l.map (·.l)=cyclesR p/\∃ N,GivesN S N 73 [.agg p.c] (.tuple [cs.v,.int .i64 0]):=by
 obtain ⟨N,hN⟩:=cycles_runX hT hSc hS hSp p h0 hal h1 hfv ha hna hp
 obtain ⟨cs,h1,h2⟩:=hN N (zf7 _) 0 (fun _=>[]) [] [] 0
 refine ⟨cs,h2,N,YO hT hSc (ns hS (by rfl)) rfl rfl (fun k=>?_) ?_ h1⟩
 ·rw [zg3,pn_sh,zh9]
 ·show clF 5 _=true
  simp only [clF,zhr,List.all_nil,Bool.and_true]
  exact cyc_cl cs 1
end
end
section
noncomputable def osP (p:Pn):List (List Int):=(cyclesR p).filter fun c=>decide (0<twR p c)
theorem Good0.side_same {p:Pn} (h:Good0 p) {z:Int} (hz:z∈dartsR p):sideZ p z=sideR p z:=by
 obtain ⟨a,ha,hab,hsg,hok,_⟩:=h.dart_arc hz
 unfold sideZ sideR
 rw [hok,cond_true,hab]
 rcases hsg with ⟨e,hp⟩ | ⟨e,hp⟩
 ·rw [decide_eq_true hp,cond_true,cond_true,e]
 ·have hid:=h.pid a ha
  have hng:ngI z=a.id:=by rw [e]; exact h.ng2 ha
  rw [decide_eq_false (show ¬ 0<z by omega),cond_false,cond_false,hng,decide_eq_true (show 0<a.id by omega),cond_true]
theorem ic_allX {p:Pn} {os:List (List Int)} {a:Ar} {i:Nat} {f:Int} (h:a.ic.l.map (·.l)=(cyclesR p).filter fun c=>decide (twR p c<=0)&&regR p os (startF p c)==i):(a.ic.l.all fun c=>sidesR p c.l f)=true↔∀ c∈cyclesR p,twR p c<=0->regR p os (startF p c)=i->sidesR p c f=true:=by
 rw [zhg]
 constructor
 ·intro hc c hm h1 h2
  have:c∈a.ic.l.map (·.l):=by
   rw [h]
   exact zif.2 ⟨hm,by rw [decide_eq_true h1,h2]; simp⟩
  obtain ⟨x,hx,rfl⟩:=zgx.1 this
  exact hc x hx
 ·intro hc x hx
  have:x.l∈a.ic.l.map (·.l):=List.mem_map_of_mem hx
  rw [h] at this
  obtain ⟨h1,h2⟩:=zif.1 this
  rw [zf6,decide_eq_true_eq,beq_iff_eq] at h2
  exact hc _ h1 h2.1 h2.2
theorem fcP_spec {p:Pn} {As:List Ar} (hR:RegsX p As):fcP p (facedGo p 0 As [])=true↔SpecP p (osP p):=by
 cases As with
 | nil=>have:=hR.len; simp at this
 | cons a0 l =>
  have hlen:l.length=(osP p).length:=by
   have:=hR.len
   rw [zf3] at this
   unfold osP
   omega
  obtain ⟨t0,o0,i0⟩:=hR.el 0 a0 rfl
  have t0:=t0 rfl
  have hel:∀ (k:Nat) (a:Ar),l[k]?=some a->a.oc.l=((osP p)[k]?).getD []/\a.ic.l.map (·.l)=((cyclesR p).filter fun c=>decide (twR p c<=0)&&regR p (osP p) (startF p c)==k+1):=fun k a ha=>by
   obtain ⟨_,e2,e3⟩:=hR.el (k+1) a (by rw [zgc]; exact ha)
   exact ⟨e2,e3⟩
  have hget:∀ k,k<l.length->∃ a c,l[k]?=some a/\(osP p)[k]?=some c/\a.oc.l=c:=fun k hk=>by
   have h1:=zf0 hk
   have h2:(osP p)[k]?=some (osP p)[k]:=zf0 (by omega)
   refine ⟨_,_,h1,h2,?_⟩
   rw [(hel k _ h1).1,h2]
   rfl
  have hfo:∀ a:Ar,facO p a=fcC p a.oc.l:=fun _=>rfl
  have hmap:l.map (facO p)=(osP p).map (fcC p):=by
   refine ziu fun k=>?_
   rw [zgd,zgd]
   by_cases hk:k<l.length
   ·obtain ⟨a,c,h1,h2,h3⟩:=hget k hk
    rw [h1,h2,zf2,zf2,hfo,h3]
   ·rw [zig (by omega),zig (by omega)]
    rfl
  have hok0:okReg p { a0 with tw:=facR p 0 a0 }=true↔∀ c∈cyclesR p,twR p c<=0->regR p (osP p) (startF p c)=0->sidesR p c 0=true:=by
   have e0:facR p 0 a0=0:=t0
   rw [e0]
   unfold okReg
   show (sidesR p a0.oc.l 0&&a0.ic.l.all fun c=>sidesR p c.l 0)=true↔_
   rw [o0]
   show (true&&_)=true↔_
   rw [zhj]
   exact ic_allX i0
  have hokk:∀ k a c,l[k]?=some a->(osP p)[k]?=some c->a.oc.l=c->(okO p a=true↔sidesR p c (fcC p c)=true/\∀ d∈cyclesR p,twR p d<=0->regR p (osP p) (startF p d)=k+1->sidesR p d (fcC p c)=true):=fun k a c h1 h2 h3=>by
   unfold okO okReg
   rw [zf6]
   show sidesR p a.oc.l (facO p a)=true/\_↔_
   rw [ic_allX (a:={ a with tw:=facO p a }) (hel k a h1).2]
   show sidesR p a.oc.l (facO p a)=true/\(∀ d∈cyclesR p,twR p d<=0->regR p (osP p) (startF p d)=k+1->sidesR p d (facO p a)=true)↔_
   rw [hfo,h3]
  have hfirst:facedGo p 0 (a0::l) []=if okReg p { a0 with tw:=facR p 0 a0 }=true then facedGo p 1 l [] else none:=by
   rw [Yh]
   rfl
  rw [hfirst]
  constructor
  ·intro hf
   by_cases c0:okReg p { a0 with tw:=facR p 0 a0 }=true
   ·rw [if_pos c0] at hf
    cases hg:facedGo p 1 l [] with
    | none=>rw [hg] at hf; cases hf
    | some r =>
     rw [hg] at hf
     obtain ⟨e,h2,h3⟩:=(YD (p:=p) (by omega)).1 hg
     rw [zgz] at e
     subst e
     have hnum:(l.map (facO p)).length=p.fs.l.length:=by
      have hf:(((l.map (facO p)).length:Int)==(p.fs.l.length:Int))=true:=hf
      have:=eq_of_beq hf
      omega
     rw [zgw] at hnum
     rw [hmap] at h3
     refine ⟨fun c hc=>?_,h3,by omega,fun c hc ht=>?_⟩
     ·obtain ⟨k,hk⟩:=zg7 hc
      obtain ⟨a,c',e1,e2,e3⟩:=hget k (by rw [hlen]; exact (zfz.1 hk).1)
      rw [hk] at e2
      cases e2
      obtain ⟨d1,d2,_⟩:=h2 a (zgl e1)
      rw [hfo,e3] at d1
      exact ⟨d1,((hokk k a c e1 hk e3).1 d2).1⟩
     ·have hle:=regR_le p (osP p) (startF p c)
      unfold faceOf
      cases hr:regR p (osP p) (startF p c) with
      | zero=>exact hok0.1 c0 c hc ht hr
      | succ k =>
       obtain ⟨a,c',e1,e2,e3⟩:=hget k (by omega)
       obtain ⟨_,d2,_⟩:=h2 a (zgl e1)
       show sidesR p c (fcC p (((osP p)[k]?).getD []))=true
       rw [e2]
       exact ((hokk k a c' e1 e2 e3).1 d2).2 c hc ht hr
   ·rw [if_neg c0] at hf
    cases hf
  ·intro hs
   have c0:=hok0.2 fun c hc ht hr=>by
    have:=hs.inner c hc ht
    unfold faceOf at this
    rw [hr] at this
    exact this
   rw [if_pos c0,(YD (p:=p) (l:=l) (i:=1) (fs:=[]) (r:=l.map (facO p)) (by omega)).2 ⟨rfl,fun a ha=>?_,by rw [hmap]; exact hs.dist⟩]
   ·show (((l.map (facO p)).length:Int)==(p.fs.l.length:Int))=true
    rw [zgw,hlen,hs.num]
    simp
   ·obtain ⟨k,hk⟩:=zg7 ha
    obtain ⟨a',c,e1,e2,e3⟩:=hget k (zfz.1 hk).1
    rw [hk] at e1
    cases e1
    obtain ⟨d1,d2⟩:=hs.outer c (zgl e2)
    refine ⟨by rw [hfo,e3]; exact d1,(hokk k a c hk e2 e3).2 ⟨d2,fun d hd ht hr=>?_⟩,by simp⟩
    have:=hs.inner d hd ht
    unfold faceOf at this
    rw [hr] at this
    have this:sidesR p d (fcC p (((osP p)[k]?).getD []))=true:=this
    rw [e2] at this
    exact this
theorem lim_facts {p:Pn} (h:refE p=0):(∀ a∈p.az.l,a.via.l.length<=900)/\p.fs.l.Pairwise (·<·):=by
 unfold refE at h
 cases h1:(limI p||limV p)
 rotate_left
 ·rw [h1] at h; simp at h
 rw [h1,cond_false] at h
 cases h2:ordB p
 ·rw [h2] at h; simp at h
 rw [zhz] at h1
 unfold ordB at h2
 simp only [zf6] at h2
 refine ⟨fun a ha=>?_,yF.1 h2.2.2⟩
 have:=zhv.1 h1.2 a ha
 rw [decide_eq_true_eq] at this
 omega
section
variable {S:ySM}
theorem pcheckX (hT:TabCl Ftab) (hSc:SumCl S) (hS:NoS S) (hSp:∀ args,S 36 args=none) (p:Pn) (h1:p.ns.l.length<=1000000) (h2:p.az.l.length<=1000000) (hfv:FewVia p):∃ Np,GivesN S Np 36 [.agg p.c] (.int .i64 (refE p)):=by
 obtain ⟨v,N,h4,h5⟩:=ze7 hT hSc hS hSp p h1 h2 (fun a h=>by have:=hfv a h; omega)
 exact ⟨N,by rw [← zfm h4]; exact h5⟩
theorem cycles_err (hS:NoS S) (p:Pn) {e:Int} (he:e≠0) {Np:Nat} (hp:GivesN S Np 36 [.agg p.c] (.int .i64 e)):∃ N,GivesN S N 73 [.agg p.c] (.tuple [.nilsl,.int .i64 e]):=by
 refine ⟨Np+10+1,yg (i:=i73) (ns hS (by rfl)) rfl rfl (lb rfl) (Np+10) fun m hm d out t hfr=>?_⟩
 simp only [V2,Xb,i73,Pn.c] at hfr
 have c0:=fun dd oo ownV own id=>hp m (by omega) dd oo ownV own id
 simp only [Pn.c] at c0
 have hb:(e != 0)=true:=by simp [bne,he]
 simp only [i73,V0,sevalprocAttr,hfr,c0,hb]
 exact ⟨_,rfl,zbi (n:=2) rfl m (by omega) _ _⟩
theorem read_err (hS:NoS S) (p:Pn) {e:Int} (he:e≠0) {N1:Nat} (hN1:GivesN S N1 73 [.agg p.c] (.tuple [.nilsl,.int .i64 e])):∃ N,GivesN S N 47 [.agg p.c] (.tuple [.nilsl,.nilsl,.nilmap,.int .i64 e]):=by
 refine ⟨N1+10+1,yg (i:=i47) (ns hS (by rfl)) rfl rfl (lb rfl) (N1+10) fun m hm d out t hfr=>?_⟩
 simp only [V2,Xb,i47,Pn.c] at hfr
 have c0:=fun dd oo ownV own id=>hN1 m (by omega) dd oo ownV own id
 simp only [Pn.c] at c0
 have hb:(e != 0)=true:=by simp [bne,he]
 simp only [i47,V0,sevalprocAttr,hfr,c0,hb]
 refine ⟨_,by simp only [resultI,zhy,List.mapM_nil,Ys,V0,sevalprocAttr,hfr,zio,zia,zge]; rfl,?_⟩
 exact zbi (n:=2) rfl m (by omega) _ _
theorem read_givesX (hT:TabCl Ftab) (hSc:SumCl S) (hS:NoS S) (hSp:∀ args,S 36 args=none) (p:Pn) (hn:p.ns.l.length<=200) (hal:p.az.l.length<=200) (hfv:FewVia p) (hE:refE p=0) :
  ∃ (a b c:IV) (e:Int) (N:Nat),GivesN S N 47 [.agg p.c] (.tuple [a,b,c,.int .i64 e])/\((e=0/\Spec16 p)∨(e=12/\¬ Spec16 p)):=by
 have h0:=good0 hE
 obtain ⟨hv,hfs⟩:=lim_facts hE
 have hmul:2*p.az.l.length*p.ns.l.length<=400*200:=Nat.mul_le_mul (by omega) hn
 have hpc:=pcheckX hT hSc hS hSp p (by omega) (by omega) hfv
 rw [hE] at hpc
 obtain ⟨cs,hcs,N1,hN1⟩:=cycles_givesX hT hSc hS hSp p h0 hal (by omega) hfv (by omega) (by omega) hpc
 obtain ⟨L,hL,N2,hN2⟩:=paths_givesX hT hSc hS p h0 hfv
 obtain ⟨As,⟨hA,hR⟩,N3,hN3⟩:=divide_givesX hT hSc hS p h0 hv hfv hal (by omega) cs hcs L hL
 have hcm:∀ c∈cs.l,c.l∈cyclesR p:=fun c hc=>by rw [← hcs]; exact List.mem_map_of_mem hc
 have hcl:cs.l.length<=65536:=by
  have h1:cs.l.length=(cyclesR p).length:=by rw [← hcs,zgw]
  have h2:=YR (cycR (folD p) (folN p)) id (dartsR p) [] []
  rw [h1]
  unfold cyclesR
  rw [zco] at h2
  simp only [zgb] at h2
  omega
 obtain ⟨N4,hN4⟩:=faces_runX hS p hfv cs.l hcl (fun c hc=>by have:=(h0.cycles hal c.l (hcm c hc)).1; omega) (fun c hc=>(h0.cycles hal c.l (hcm c hc)).2.1) As hA (fun a ha=>(hR.el 0 a ha).1 rfl) (fun c hc z hz=>h0.side_same (h0.cyc_sub (hcm c hc) z hz))
 obtain ⟨xs,ok,hf,hok⟩:=hN4 N4 (zf7 _) 0 (fun _=>[]) [] [] 0
 have hsp:=(fcP_spec hR).trans (h0.spec hv hal hfs (List.Perm.refl _))
 rw [← hok] at hsp
 have hf:=YO hT hSc (ns hS (by rfl)) rfl rfl (fun k=>by
  simp only [zg3,zh9,pn_sh,clF_sh (ze9 As 2)]) (by
  show clF 5 _=true
  simp only [clF,zhr,List.all_nil,Bool.and_true]
  exact YP xs 2) hf
 have he:((0:Int) != 0)=false:=rfl
 have smp:(IV.mapC (mKs L) (mVs plV L)).scalar=true:=rfl
 have cmp:(IV.mapC (mKs L) (mVs plV L)).cells=[.mapC (mKs L) (mVs plV L)]:=rfl
 cases ok
 ·refine ⟨.nilsl,.nilsl,.nilmap,12,N1+N2+N3+N4+10+1,yg (i:=i47) (ns hS (by rfl)) rfl rfl (lb rfl) (N1+N2+N3+N4+10) fun m hm d out t hfr=>?_,.inr ⟨rfl,fun h=>by have:=hsp.2 h; cases this⟩⟩
  simp only [V2,Xb,i47,Pn.c] at hfr
  have c0:=fun dd oo ownV own id=>hN1 m (by omega) dd oo ownV own id
  have c1:=fun dd oo ownV own id=>hN2 m (by omega) dd oo ownV own id
  have c2:=fun dd oo ownV own id=>hN3 m (by omega) dd oo ownV own id
  have c3:=fun dd oo ownV own id=>hf m (by omega) dd oo ownV own id
  simp only [Pn.c] at c0 c1 c2 c3
  simp only [i47,V0,sevalprocAttr,smp,cmp,hfr,c0,he,c1,c2,c3]
  refine ⟨_,by simp only [resultI,zhy,List.mapM_nil,Ys,V0,sevalprocAttr,hfr,zio,zia,zge]; rfl,?_⟩
  exact zbi (n:=2) rfl m (by omega) _ _
 ·refine ⟨As.v,xs.v,.mapC (mKs L) (mVs plV L),0,N1+N2+N3+N4+10+1,yg (i:=i47) (ns hS (by rfl)) rfl rfl (lb rfl) (N1+N2+N3+N4+10) fun m hm d out t hfr=>?_,.inl ⟨rfl,hsp.1 rfl⟩⟩
  simp only [V2,Xb,i47,Pn.c] at hfr
  have c0:=fun dd oo ownV own id=>hN1 m (by omega) dd oo ownV own id
  have c1:=fun dd oo ownV own id=>hN2 m (by omega) dd oo ownV own id
  have c2:=fun dd oo ownV own id=>hN3 m (by omega) dd oo ownV own id
  have c3:=fun dd oo ownV own id=>hf m (by omega) dd oo ownV own id
  simp only [Pn.c] at c0 c1 c2 c3
  simp only [i47,V0,sevalprocAttr,smp,cmp,hfr,c0,he,c1,c2,c3]
  refine ⟨_,by simp only [resultI,zhy,List.mapM_nil,Ys,V0,sevalprocAttr,hfr,zio,zia,zge]; rfl,?_⟩
  refine zbi (n:=5) ?_ m (by omega) _ _
  have q1:=ze9 As 0
  have q2:=YP xs 2
  have q3:=ze8 L 1
  rw [clF]
  simp only [zhr,List.all_nil,Bool.and_true,q1,q2,q3,Bool.and_self,zhj]
  rfl
structure RgnX (p:Pn) (z:Int):Prop where
 bad:refE p≠0->z=refE p
 good:refE p=0->(z=0/\Spec16 p)∨(z=12/\¬ Spec16 p)
theorem region_givesX (hT:TabCl Ftab) (hSc:SumCl S) (hS:NoS S) (hSp:∀ args,S 36 args=none) (hSg:∀ args,S 20 args=none) (p:Pn) (hn:p.ns.l.length<=200) (hal:p.az.l.length<=200) (hfv:FewVia p) :
  ∃ (e:Int),RgnX p e/\∃ (N:Nat),GivesN S N 20 [.agg p.c] (.int .i64 e):=by
 have key:∃ (a b c:IV) (e:Int) (N:Nat),GivesN S N 47 [.agg p.c] (.tuple [a,b,c,.int .i64 e])/\RgnX p e:=by
  by_cases hE:refE p=0
  ·obtain ⟨a,b,c,e,N,hN,h⟩:=read_givesX hT hSc hS hSp p hn hal hfv hE
   exact ⟨a,b,c,e,N,hN,fun h=>absurd hE h,fun _=>h⟩
  ·obtain ⟨Np,hp⟩:=pcheckX hT hSc hS hSp p (by omega) (by omega) hfv
   obtain ⟨N1,hN1⟩:=cycles_err hS p hE hp
   obtain ⟨N,hN⟩:=read_err hS p hE hN1
   exact ⟨_,_,_,_,N,hN,fun _=>rfl,fun h=>absurd h hE⟩
 obtain ⟨a,b,c,e,N,hN,hX⟩:=key
 refine ⟨e,hX,N+10+1,zh (i:=i20) (hSg _) rfl rfl (lb rfl) (N+10) (by omega) zo fun m hm d out t hfr=>?_⟩
 simp only [V2,Xb,i20,Pn.c] at hfr
 have c0:=fun dd oo ownV own id=>hN m (by omega) dd oo ownV own id
 simp only [Pn.c] at c0
 simp only [i20,V0,sevalprocAttr,hfr,c0]
end
end
section
theorem plan_okV {p:Pn} {v:Bool} (h:planE p v=0):∀ a∈p.az.l,pathOk p a.id=true:=fun a ha=>by
 obtain ⟨_,_,_,_,hc,_⟩:=plan_zero h
 unfold connE at hc
 cases h1:dupPt p.ns.l
 rotate_left
 ·rw [h1] at hc; simp at hc
 rw [h1] at hc
 cases h2:p.az.l.any (loose (p.ns.l.map Nd.id))
 rotate_left
 ·rw [h2] at hc; simp at hc
 rw [zhv] at h2
 have hso:(arcF p a.id).isSome=true:=by
  unfold arcF
  rw [List.find?_isSome]
  exact ⟨a,ha,by simp⟩
 obtain ⟨b,hb⟩:=Option.isSome_iff_exists.1 hso
 have hbm:b∈p.az.l:=List.mem_of_find?_eq_some hb
 have hl:=h2 b hbm
 simp only [loose,zha,not_or,zh8,Bool.not_eq_false'] at hl
 have hd:arcD p a.id=b:=by
  unfold arcD
  rw [hb]
  rfl
 unfold pathOk
 rw [hso,hd,node_some hl.1,node_some hl.2]
 rfl
noncomputable def areaV (s:Sv) (id:Int) (e:Int):Int:=bif findOk s id&&(shapeI (findD s id).kind==3&&e==0) then wrapI .i64 (areaS s.pl (findD s id).parts.l s.pl.az.l) else 0
section
variable {S:ySM}
theorem at_areaV (hS:NoS S) (s:Sv) (id:Int) {e:Int} {v:Bool} (he:e=planE s.pl v) {Np:Nat} (hpc:GivesN S Np 36 [.agg s.pl.c] (.int .i64 e)) (hfv:FewVia s.pl) (hpa:∀ g∈s.ft.l,g.parts.l.length<=1000):∃ N,GivesN S N 10 [.agg s.c,iv id] (.int .i64 (areaV s id e)):=by
 by_cases hall:findOk s id=true/\shapeI (findD s id).kind=3/\e=0
 ·obtain ⟨h1,h2,h3⟩:=hall
  subst h3
  have hval:areaV s id 0=wrapI .i64 (areaS s.pl (findD s id).parts.l s.pl.az.l):=by
   unfold areaV
   rw [h1,h2]
   rfl
  rw [hval]
  exact at_areaP hS s id (findD s id) rfl h1 h2 hpc (plan_okV he.symm) hfv hpa
 ·have hval:areaV s id e=0:=by
   unfold areaV
   cases h1:findOk s id
   ·rfl
   ·cases h2:shapeI (findD s id).kind==3
    ·rfl
    ·cases h3:e==0
     ·rfl
     ·exact absurd ⟨h1,by simpa using h2,by simpa using h3⟩ hall
  obtain ⟨q,hq,N1,hN1⟩:=zes hS s id (fun g hg=>by have:=hpa g hg; omega)
  have e1:((s.ft.l.find? fun f=>f.id==id).getD zFt)=findD s id:=rfl
  have e2:(s.ft.l.find? fun f=>f.id==id).isSome=findOk s id:=rfl
  rw [e1,e2] at hN1
  rw [hval]
  refine ⟨N1+Np+10,zh (i:=i10) (ns hS (by rfl)) rfl rfl (lb rfl) (N1+Np+9) (by omega) zo fun m hm d out t hfr=>?_⟩
  simp only [V2,Xb,i10,Sv.c,zf] at hfr
  have c1:=hN1 m (by omega)
  have c2:=fun d out ownV own i=>Zu hS (findD s id).kind m (by omega) d out ownV own i
  have c3:=hpc m (by omega)
  simp only [Sv.c,Pn.c,Ft.c,zf] at c1 c2 c3
  have hb3:∀ z:Int,(z != 3)=!(z==3):=fun z=>rfl
  have hb0:∀ z:Int,(z != 0)=!(z==0):=fun z=>rfl
  cases h1:findOk s id
  ·simp only [i10,V0,Xa,Xb,Xc,Xd,Xe,reduceCtorEq,hfr,c1,h1]
  ·cases h2:shapeI (findD s id).kind==3
   ·simp only [i10,V0,Xa,Xb,Xc,Xd,Xe,reduceCtorEq,hfr,c1,c2,hb3,h1,h2,zh6]
   ·cases h3:e==0
    ·simp only [i10,V0,Xa,Xb,Xc,Xd,Xe,reduceCtorEq,hfr,c1,c2,c3,hb3,hb0,h1,h2,h3,zh6,zh2]
    ·exact absurd ⟨h1,by simpa using h2,by simpa using h3⟩ hall
end
end
end Go.Proofs.YtdacpmgnhkmnkaaGreatDoor
end
