/-
  A part of the proof: the small machine, its simulation and its walks.
-/
import Derived.Test.YtiiofgieclfikaaGreatDoorXb
import Derived.Test.YtiiofgieclfikaaGreatDoorXc
set_option linter.unusedVariables false
set_option linter.unusedSimpArgs false
set_option maxRecDepth 1000000
set_option maxHeartbeats 3200000
section
namespace Go.Proofs.YtiiofgieclfikaaGreatDoor
open Go Go.RowKit
section
def NoS (S:ySM):Prop:=∀ f args,f≠24->f≠5->f≠37->f≠18->S f args=none
def sf (f:FuncId):Bool:=!(Nat.beq f 24)&&!(Nat.beq f 5)&&!(Nat.beq f 37)&&!(Nat.beq f 18)
theorem ns {S:ySM} (hS:NoS S) {f:FuncId} {args:List IV} (h:sf f=true):S f args=none:=by
 simp only [sf,zcm,Bool.not_eq_true'] at h
 obtain ⟨⟨⟨h1,h2⟩,h3⟩,h4⟩:=h
 exact hS f args (fun e=>by subst e; simp at h1) (fun e=>by subst e; simp at h2) (fun e=>by subst e; simp at h3) (fun e=>by subst e; simp at h4)
theorem lb {a b:Nat} (h:Nat.ble a b=true):a<=b:=Nat.le_of_ble_eq_true h
theorem contains_app {l:List Int} {x n:Int}:(l++[x]).contains n=(l.contains n||x==n):=by
 rw [Bool.eq_iff_iff]
 simp only [List.contains_iff_mem,zd4,zd8,Bool.or_eq_true,beq_iff_eq]
 exact ⟨fun h=>h.imp id Eq.symm,fun h=>h.imp id Eq.symm⟩
theorem contains_at {l:List Int} {x n:Int} {i:Nat} (hx:l[i]?=some x) (hb:(x==n)=true):l.contains n=true:=by
 have:=List.mem_of_getElem? hx
 have h2:x=n:=by simpa using hb
 subst h2
 exact List.contains_iff_mem.2 this
end
section
section
variable {S:ySM}
theorem mkv_ff {x:IV}:mkv false [x]=some x:=zck rfl rfl
theorem mkv_tt {l:List IV}:mkv true l=some (.agg l):=by cases l with
 | nil=>rfl
 | cons x l=>cases l <;> rfl
theorem sh_shl:isShift .shl=true:=zck rfl rfl
theorem sh_shr:isShift .shr=true:=zck rfl rfl
theorem sh_add:isShift .add=false:=zck rfl rfl
theorem sh_sub:isShift .sub=false:=zck rfl rfl
theorem sh_mul:isShift .mul=false:=zck rfl rfl
theorem sh_quo:isShift .quo=false:=zck rfl rfl
theorem sh_rem:isShift .rem=false:=zck rfl rfl
theorem sh_and:isShift .and=false:=zck rfl rfl
theorem sh_or:isShift .or=false:=zck rfl rfl
theorem sh_xor:isShift .xor=false:=zck rfl rfl
theorem sh_eql:isShift .eql=false:=zck rfl rfl
theorem sh_neq:isShift .neq=false:=zck rfl rfl
theorem sh_lss:isShift .lss=false:=zck rfl rfl
theorem sh_leq:isShift .leq=false:=zck rfl rfl
theorem sh_gtr:isShift .gtr=false:=zck rfl rfl
theorem sh_geq:isShift .geq=false:=zck rfl rfl
theorem repl_0 {x:IObj}:List.replicate 0 x=[]:=zck rfl rfl
theorem repl_1 {x:IObj}:List.replicate 1 x=[x]:=zck rfl rfl
theorem repl_2 {x:IObj}:List.replicate 2 x=[x,x]:=zck rfl rfl
theorem repl_3 {x:IObj}:List.replicate 3 x=[x,x,x]:=zck rfl rfl
theorem repl_4 {x:IObj}:List.replicate 4 x=[x,x,x,x]:=zck rfl rfl
theorem repl_5 {x:IObj}:List.replicate 5 x=[x,x,x,x,x]:=zck rfl rfl
theorem repl_6 {x:IObj}:List.replicate 6 x=[x,x,x,x,x,x]:=zck rfl rfl
theorem W0:(type_of% @Wall)/\(type_of% @zcu.{0})/\(type_of% @zc4.{0})/\(type_of% @zda.{0})/\(type_of% @zd9.{0})/\(type_of% @List.all_nil.{0})/\(type_of% @Bool.and_self)/\(type_of% @Bool.and_true)/\(type_of% @zds)/\(type_of% @if_true.{1})/\(type_of% @zci.{0})/\(type_of% @zcc.{0})/\(type_of% @zcq)/\(type_of% @Nat.add_zero)/\(type_of% @zcf)/\(type_of% @and_self)/\(type_of% @and_true)/\(type_of% @true_and)/\(type_of% @zc2.{0})/\(type_of% @zcg.{0})/\(type_of% @zb9.{0,0})/\(type_of% @zcz.{0,0})/\(type_of% @zch.{0,0})/\(type_of% @zco)/\(type_of% @if_false.{1})/\(type_of% @zdc.{0,0})/\(type_of% @zd5.{0,0})/\(type_of% @Int.ofNat_lt)/\(type_of% @decide_true)/\(type_of% @decide_false)/\(type_of% @beq_iff_eq.{0})/\(type_of% @zcy.{0})/\(type_of% @zce.{0})/\(type_of% @zd7)/\(type_of% @zdw)/\(type_of% @mkAt.eq_1)/\(type_of% @Go.Proofs.YtiiofgieclfikaaGreatDoor.look.eq_1)/\(type_of% @mkv_ff)/\(type_of% @mkv_tt)/\(type_of% @binI.eq_1)/\(type_of% @binI.eq_2)/\(type_of% @intBin.eq_1)/\(type_of% @intBin.eq_2)/\(type_of% @intBin.eq_3)/\(type_of% @intBin.eq_4)/\(type_of% @intBin.eq_5)/\(type_of% @intBin.eq_6)/\(type_of% @intBin.eq_7)/\(type_of% @intBin.eq_8)/\(type_of% @intBin.eq_9)/\(type_of% @intBin.eq_10)/\(type_of% @intBin.eq_11)/\(type_of% @intBin.eq_12)/\(type_of% @intBin.eq_13)/\(type_of% @intBin.eq_14)/\(type_of% @sh_shl)/\(type_of% @sh_shr)/\(type_of% @sh_add)/\(type_of% @sh_sub)/\(type_of% @sh_mul)/\(type_of% @sh_quo)/\(type_of% @sh_rem)/\(type_of% @sh_and)/\(type_of% @sh_or)/\(type_of% @sh_xor)/\(type_of% @sh_eql)/\(type_of% @sh_neq)/\(type_of% @sh_lss)/\(type_of% @sh_leq)/\(type_of% @sh_gtr)/\(type_of% @sh_geq)/\(type_of% @unI.eq_1)/\(type_of% @unI.eq_2)/\(type_of% @fillI.eq_1)/\(type_of% @fillI.eq_2)/\(type_of% @cellV.eq_1)/\(type_of% @e_nilchk.eq_1)/\(type_of% @e_pick.eq_1)/\(type_of% @e_box.eq_1)/\(type_of% @e_bslice.eq_1)/\(type_of% @e_load.eq_1)/\(type_of% @e_store.eq_1)/\(type_of% @e_eqb.eq_1)/\(type_of% @e_eqp.eq_1)/\(type_of% @e_eqs.eq_1)/\(type_of% @e_eqagg.eq_1)/\(type_of% @e_conv.eq_1)/\(type_of% @e_faddr.eq_1)/\(type_of% @e_field.eq_1)/\(type_of% @e_extract.eq_1)/\(type_of% @e_call.eq_1)/\(type_of% @e_mx.eq_1)/\(type_of% @repl_0)/\(type_of% @repl_1)/\(type_of% @repl_2)/\(type_of% @repl_3)/\(type_of% @repl_4)/\(type_of% @repl_5)/\(type_of% @repl_6) :=
 ⟨@Wall,@zcu.{0},@zc4.{0},@zda.{0},@zd9.{0},@List.all_nil.{0},@Bool.and_self,@Bool.and_true,@zds,@if_true.{1},@zci.{0},@zcc.{0},@zcq,@Nat.add_zero,@zcf,@and_self,@and_true,@true_and,@zc2.{0},@zcg.{0},@zb9.{0,0},@zcz.{0,0},@zch.{0,0},@zco,@if_false.{1},@zdc.{0,0},@zd5.{0,0},@Int.ofNat_lt,@decide_true,@decide_false,@beq_iff_eq.{0},@zcy.{0},@zce.{0},@zd7,@zdw,@mkAt.eq_1,@Go.Proofs.YtiiofgieclfikaaGreatDoor.look.eq_1,@mkv_ff,@mkv_tt,@binI.eq_1,@binI.eq_2,@intBin.eq_1,@intBin.eq_2,@intBin.eq_3,@intBin.eq_4,@intBin.eq_5,@intBin.eq_6,@intBin.eq_7,@intBin.eq_8,@intBin.eq_9,@intBin.eq_10,@intBin.eq_11,@intBin.eq_12,@intBin.eq_13,@intBin.eq_14,@sh_shl,@sh_shr,@sh_add,@sh_sub,@sh_mul,@sh_quo,@sh_rem,@sh_and,@sh_or,@sh_xor,@sh_eql,@sh_neq,@sh_lss,@sh_leq,@sh_gtr,@sh_geq,@unI.eq_1,@unI.eq_2,@fillI.eq_1,@fillI.eq_2,@cellV.eq_1,@e_nilchk.eq_1,@e_pick.eq_1,@e_box.eq_1,@e_bslice.eq_1,@e_load.eq_1,@e_store.eq_1,@e_eqb.eq_1,@e_eqp.eq_1,@e_eqs.eq_1,@e_eqagg.eq_1,@e_conv.eq_1,@e_faddr.eq_1,@e_field.eq_1,@e_extract.eq_1,@e_call.eq_1,@e_mx.eq_1,@repl_0,@repl_1,@repl_2,@repl_3,@repl_4,@repl_5,@repl_6⟩
theorem gives_index (hS:NoS S) (l:SlOf 1 intc) (n:Int):∃ r:Int,Gives Ftab S 53 [l.v,iv n] (iv r)/\decide (r≥0)=l.l.contains n:=by
 have key:∀ r:Int,(∀ i:Nat,(i<l.l.length->(l.l.take i).contains n=false->∀ x,l.l[i]?=some x->(n==x)=true->r=i))->(l.l.contains n=false->r=-1)->Gives Ftab S 53 [l.v,iv n] (iv r):=by
  intro r h1 h2
  refine zM (i:=i53) (k:=1) (ns hS (by rfl)) rfl rfl zy (l.l.length+2) (by omega) fun m hm d out=>?_
  simp only [i53,W0,sevalprocAttr]
  refine zb (fun j st=>∃ i,j=l.l.length - i/\i<=l.l.length/\(l.l.take i).contains n=false/\∃ a2 a3 a4 a5 a9 a10 a11 a12 a13 a14 a15 a16 a17 a18,st=⟨[l.v,iv n,a2,a3,a4,a5,l.v,iv (l.l.length:Nat),iv i,a9,a10,a11,a12,a13,a14,a15,a16,a17,a18],[]⟩) l.l.length (by omega) ⟨0,by omega,by omega,by simp,_,_,_,_,_,_,_,_,_,_,_,_,_,_,rfl⟩ ?_
  rintro j st K ⟨i,rfl,hi,hc,a2,a3,a4,a5,a9,a10,a11,a12,a13,a14,a15,a16,a17,a18,rfl⟩ hn he hr
  by_cases h:i<l.l.length
  ·have hx:l.l[i]?=some l.l[i]:=zb7 h
   generalize l.l[i]=x at hx
   have hrd:rdN (l.l.flatMap intc) (i*1) 1=some [iv x]:=zc zi 0 1 hx (by omega)
   have hw:wrapI .i64 ((i:Int)+1)=((i+1:Nat):Int):=yF (by have:=l.few; omega)
   cases hb:n==x
   ·simp only [W0,sevalprocAttr,h,za l h,hrd,hb,hw]
    refine hn _ (l.l.length - (i+1)) (by omega) ⟨i+1,rfl,by omega,?_,_,_,_,_,_,_,_,_,_,_,_,_,_,_,rfl⟩
    rw [zd1,hx,Option.toList_some,contains_app,hc,Bool.beq_comm,hb]
    rfl
   ·simp only [W0,sevalprocAttr,h,za l h,hrd,hb]
    refine hr _ ?_
    simp only [W0,sevalprocAttr]
    rw [h1 i h hc x hx hb]
  ·simp only [W0,sevalprocAttr,h]
   refine he _ _ ?_
   simp only [W0,sevalprocAttr]
   rw [h2 (by rw [← hc,zcr (by omega)])]
 cases hc:l.l.contains n
 ·refine ⟨-1,key _ (fun i hi _ x hx hb=>?_) (fun _=>rfl),by simp⟩
  rw [contains_at hx (by rw [Bool.beq_comm]; exact hb)] at hc
  simp at hc
 ·have hm:n∈l.l:=List.contains_iff_mem.1 hc
  refine ⟨(l.l.idxOf n:Nat),key _ (fun i hi ht x hx hb=>?_) (fun h=>by rw [h] at hc; simp at hc),by simp⟩
  have hxn:n=x:=by simpa using hb
  subst hxn
  have h1:l.l=l.l.take i++n::l.l.drop (i+1):=by
   conv=>lhs; rw [← List.take_append_drop i l.l]
   congr 1
   rw [List.drop_eq_getElem_cons hi]
   congr 1
   have:=zb7 hi
   rw [hx] at this
   exact (zdr this).symm
  have h2:n ∉ l.l.take i:=fun h=>by rw [List.contains_iff_mem.2 h] at ht; simp at ht
  rw [h1,List.idxOf_append,if_neg h2,List.idxOf_cons_self,zd2,zcq,Nat.min_eq_left (by omega)]
theorem zbd (hS:NoS S) (l:SlOf 1 intc) (n:Int):Gives Ftab S 34 [l.v,iv n] (.bool (l.l.contains n)):=by
 obtain ⟨r,⟨N,hN⟩,hr⟩:=gives_index hS l n
 refine zM (i:=i34) (k:=1) (ns hS (by rfl)) rfl rfl zx (N+1) (by omega) fun m hm d out=>?_
 have hcall:=hN m (by omega)
 simp only [zg] at hcall
 simp only [i34,W0,sevalprocAttr,hcall]
 rw [hr]
end
end
section
def shapeI (k:Int):Int:=bif k==1||k==2||k==8 then 1 else bif k==3||k==4 then 2 else bif k==5||k==6||k==7 then 3 else 0
theorem ptc_fz:∀ a:Pt,∀ x∈a.c,Fz 1 x:=fun a x hx=>by
 simp only [Pt.c,zcx,zc1,or_false] at hx
 rcases hx with rfl | rfl <;> exact zy
section
variable {C:Call} {d:Nat} {out:yLM} {n0:Nat} {own ownV:yLO} {t:List IV}
noncomputable def appV (d n0:Nat) (lk:Nat->Nat->Option IObj) (own:yLO) (sz:Nat) (s:IV) (slot:Nat) (r:Option (List IV × Nat)):Res:=match r with
 | some (new,n)=>appendI d n0 lk own sz s new n slot
 | none=>none
theorem zF {z:List IV} {sz:Nat} {s x:Opd} {slot:Nat}:e_append d out n0 ownV own t z sz false s x slot=appV d n0 (look d out ownV) own sz (ρ t s) slot (cellsI (look d out ownV) sz (ρ t x)):=zck rfl rfl
theorem zJ {lk:Nat->Nat->Option IObj} {sz slot n:Nat} {s:IV} {new:List IV}:appV d n0 lk own sz s slot (some (new,n))=appendI d n0 lk own sz s new n slot:=zck rfl rfl
theorem ZU {lk:Nat->Nat->Option IObj} {sz slot n:Nat} {new:List IV} (h:n≠0) (hb:0+n<=1073741824):appendI d n0 lk own sz (.slC [] 0 sz true) new n slot=mkAt own (n0+slot) (.cells new) (.slM d (n0+slot) 0 n n sz false):=by
 unfold appendI
 rw [if_neg h]
 simp only
 rw [if_pos ⟨by unfold bound; omega,trivial⟩]
 simp [seg,zf]
theorem eqs_tt:(false != true)=true:=zck rfl rfl
theorem eqs_tf:(false != false)=false:=zck rfl rfl
end
section
variable {S:ySM}
theorem gives_cloneP (hS:NoS S) (q:SlOf 2 Pt.c) (hq:q.l.length<=1073741824):∃ q':SlOf 2 Pt.c,q'.l=q.l/\Gives Ftab S 72 [q.v] q'.v:=by
 obtain ⟨l,v,ok,few⟩:=q
 dsimp only at hq ⊢
 have key:∀ (cs:List IV) (n:Nat),Sl 2 cs n v->cs=l.flatMap Pt.c->n=l.length->∃ q':SlOf 2 Pt.c,q'.l=l/\Gives Ftab S 72 [v] q'.v:=by
  intro cs n h hcs hn
  cases h with
  | nil =>
   have hl:l=[]:=zcv.1 hn.symm
   refine ⟨⟨[],.nilsl,.nil,by simp⟩,hl.symm,?_⟩
   refine zM (i:=i72) (k:=1) (ns hS (by rfl)) rfl rfl y3 1 (by omega) fun m hm d out=>?_
   simp only [i72,W0,sevalprocAttr,eqsI,eqs_tt]
  | row _ _ tight h =>
   subst hcs hn
   by_cases h0:l.length=0
   ·have hl:l=[]:=zcv.1 h0
    subst hl
    refine ⟨⟨[],.slC [] 0 2 true,.row _ _ _ rfl,by simp⟩,rfl,?_⟩
    refine zM (i:=i72) (k:=1+1) (ns hS (by rfl)) rfl rfl (fz_slC fun x hx=>by simp at hx) 2 (by omega) fun m hm d out=>?_
    have hc:cellsI (fun l i=>if l=d then (([]++[IObj.free]:yLO))[i]? else if l<d then (out l)[i]? else none) 2 (IV.slC [] 0 2 tight)=some ([],0):=by
     simp [cellsI,seg,zf]
    simp only [i72,W0,sevalprocAttr,eqsI,eqs_tf,zw,zF,appendI,rep,zdo,zci]
    simp only [cellsI,seg,zf,zdf,Nat.add_zero,zci,zcf,if_true,List.drop_zero,List.take_zero,zb9,zJ,appendI,W0,sevalprocAttr]
   ·refine ⟨⟨l,.slC (l.flatMap Pt.c) l.length 2 (false&&true),.row _ _ _ h,few⟩,rfl,?_⟩
    refine gives_fr (i:=i72) (ns hS (by rfl)) rfl rfl 3 fun m hm d out=>?_
    have hc:∀ lk,cellsI lk 2 (IV.slC (l.flatMap Pt.c) l.length 2 tight)=some (l.flatMap Pt.c,l.length):=fun lk=>zT ⟨l,_,.row _ _ tight h,few⟩
    simp only [i72,W0,sevalprocAttr,eqsI,eqs_tf,zw,zF,rep,hc,zJ]
    simp only [ZU h0 (show 0+l.length<=1073741824 by omega),W0,sevalprocAttr]
    refine ⟨_,rfl,?_⟩
    exact y4 (k:=1) ptc_fz (by omega) rfl Pt.c_len rfl
 exact key _ _ ok rfl rfl
end
end
section
theorem ZK {α:Type} {p:α->Bool} {l:List α} {i:Nat} {x:α} (h:(l.take i).find? p=none) (hx:l[i]?=some x) (hp:p x=true):l.find? p=some x:=by
 have hi:=(zb6.1 hx).1
 have h1:l=l.take i++x::l.drop (i+1):=by
  conv=>lhs; rw [← List.take_append_drop i l]
  congr 1
  rw [List.drop_eq_getElem_cons hi]
  congr 1
  rw [zb7 hi] at hx
  exact zdr hx
 rw [h1,List.find?_append,h,Option.none_or,List.find?_cons,hp]
theorem Zo {α:Type} {p:α->Bool} {l:List α} {i:Nat} {x:α} (h:(l.take i).find? p=none) (hx:l[i]?=some x) (hp:p x=false):(l.take (i+1)).find? p=none:=by
 rw [zd1,hx,Option.toList_some,List.find?_append,h,Option.none_or,List.find?_cons,hp]
 rfl
theorem Yx {α:Type} {p:α->Bool} {l:List α} {i:Nat} (h:(l.take i).find? p=none) (hi:¬ i<l.length):l.find? p=none:=by
 rwa [zcr (by omega)] at h
def nilS (sz:Nat) {α:Type} (g:α->List IV):SlOf sz g:=⟨[],.nilsl,.nil,by simp⟩
def zAc:Ac:=⟨0,0,0,nilS 2 Pt.c,0,0⟩
def zNd:Nd:=⟨0,⟨0,0⟩⟩
theorem zAc_c:zAc.c=[.int .i64 0,.int .i64 0,.int .i64 0,.nilsl,.int .i64 0,.int .i64 0]:=rfl
theorem zNd_c:zNd.c=[.int .i64 0,.int .i64 0,.int .i64 0]:=rfl
section
variable {S:ySM}
theorem yJ {α:Type} {g:α->List IV} {sz:Nat} (hg:∀ a,∀ x∈g a,Fz 1 x) (q:SlOf sz g):Fz (1+1+1) q.v:=by
 obtain ⟨l,v,ok,few⟩:=q
 have key:∀ (cs:List IV) (n:Nat) (v:IV),Sl sz cs n v->cs=l.flatMap g->Fz (1+1+1) v:=fun cs n v h hcs=>by
  cases h with
  | nil=>exact y3.le (by omega)
  | row _ _ tight h=>subst hcs; exact (sl_fz (k:=1) hg).le (by omega)
 exact key _ _ _ ok rfl
theorem gives_arc_fz0:Fz (1+1+1) (.tuple [.agg ({ (none:Option Ac).getD zAc with via:=nilS _ _ }:Ac).c,.bool (none:Option Ac).isSome]):=fun m hm lv own=>by
 obtain ⟨m,rfl⟩:∃ q,m=q+3:=⟨m - 3,by omega⟩
 rfl
theorem gives_arc_fz1 (f0:Ac) (q:SlOf 2 Pt.c):Fz (1+1+1+1+1) (.tuple [.agg ({ (some f0).getD zAc with via:=q }:Ac).c,.bool (some f0).isSome]):=by
 refine fz_tuple fun x hx=>?_
 simp only [zcx,zc1,or_false] at hx
 rcases hx with rfl | rfl
 ·refine fz_agg fun x hx=>?_
  simp only [Ac.c,zcx,zc1,or_false,zdx] at hx
  rcases hx with rfl | rfl | rfl | rfl | rfl | rfl
  all_goals first | exact zy.le (by omega) | exact fz_str.le (by omega) | exact yJ ptc_fz q
 ·exact zx.le (by omega)
theorem YZ (hS:NoS S) (p:Pn) (id:Int) (hsm:∀ f∈p.as.l,f.via.l.length<=1073741824):∃ q',q'.l=((p.as.l.find? fun f=>f.id==id).getD zAc).via.l /\
  Gives Ftab S 48 [.agg p.c,iv id] (.tuple [.agg ({ (p.as.l.find? fun f=>f.id==id).getD zAc with via:=q' }:Ac).c,.bool (p.as.l.find? fun f=>f.id==id).isSome]):=by
 cases hf:p.as.l.find? fun f=>f.id==id with
 | none =>
  refine ⟨nilS _ _,rfl,?_⟩
  refine zM (i:=i48) (k:=1+1+1) (ns hS (by rfl)) rfl rfl gives_arc_fz0 (p.as.l.length+5) (by omega) fun m hm d out=>?_
  simp only [i48,W0,sevalprocAttr,Pn.c]
  refine zb (fun j st=>∃ i,j=p.as.l.length - i/\i<=p.as.l.length/\((p.as.l.take i).find? fun f=>f.id==id)=none/\∃ J a3 a6 a7 a8 a12 a13 a14 a15 a16 a17 a18 a19 a20 a21 a22 a23 a24 a25,st=⟨[.agg p.c,iv id,.ptrM d 0 0,a3,.ptrM d 1 0,.bool false,a6,a7,a8,p.as.v,iv (p.as.l.length:Nat),iv i,a12,a13,a14,a15,a16,a17,a18,a19,a20,a21,a22,a23,a24,a25],.cells [p.ns.v,p.as.v,p.fs.v]::.cells zAc.c::J⟩) p.as.l.length (by omega) ⟨0,by omega,by omega,by simp,[],_,_,_,_,_,_,_,_,_,_,_,_,_,_,_,_,_,_,rfl⟩ ?_
  rintro j st K ⟨i,rfl,hi,hc,J,a3,a6,a7,a8,a12,a13,a14,a15,a16,a17,a18,a19,a20,a21,a22,a23,a24,a25,rfl⟩ hn he hr
  by_cases h:i<p.as.l.length
  ·have hx:p.as.l[i]?=some p.as.l[i]:=zb7 h
   generalize p.as.l[i]=x at hx
   have hrd:rdN (p.as.l.flatMap Ac.c) (i*6) 6=some x.c:=(zc Ac.c_len 0 6 hx (by omega)).trans rfl
   have hw:wrapI .i64 ((i:Int)+1)=((i+1:Nat):Int):=yF (by have:=p.as.few; omega)
   cases hb:x.id==id
   ·simp only [W0,sevalprocAttr,h,za p.as h,hrd,hb,hw,Ac.c,zAc_c]
    refine hn _ (p.as.l.length - (i+1)) (by omega) ⟨i+1,rfl,by omega,Zo hc hx hb,_,_,_,_,_,_,_,_,_,_,_,_,_,_,_,_,_,_,_,rfl⟩
   ·have hxf:=ZK (p:=fun f=>f.id==id) hc hx hb
    rw [hf] at hxf
    simp at hxf
  ·have hxf:=Yx hc h
   rw [hf] at hxf
   simp only [W0,sevalprocAttr,h,zAc_c]
   refine he _ _ ?_
   simp only [W0,sevalprocAttr,zAc_c]
   rfl
 | some f0 =>
  obtain ⟨q',hq,N,hN⟩:=gives_cloneP hS f0.via (hsm f0 (List.mem_of_find?_eq_some hf))
  refine ⟨q',hq,?_⟩
  refine zM (i:=i48) (k:=1+1+1+1+1) (ns hS (by rfl)) rfl rfl (gives_arc_fz1 f0 q') (N+p.as.l.length+8) (by omega) fun m hm d out=>?_
  have hcall:=hN m (by omega)
  simp only [i48,W0,sevalprocAttr,Pn.c]
  refine zb (fun j st=>∃ i,j=p.as.l.length - i/\i<=p.as.l.length/\((p.as.l.take i).find? fun f=>f.id==id)=none/\∃ J a3 a6 a7 a8 a12 a13 a14 a15 a16 a17 a18 a19 a20 a21 a22 a23 a24 a25,st=⟨[.agg p.c,iv id,.ptrM d 0 0,a3,.ptrM d 1 0,.bool false,a6,a7,a8,p.as.v,iv (p.as.l.length:Nat),iv i,a12,a13,a14,a15,a16,a17,a18,a19,a20,a21,a22,a23,a24,a25],.cells [p.ns.v,p.as.v,p.fs.v]::.cells zAc.c::J⟩) p.as.l.length (by omega) ⟨0,by omega,by omega,by simp,[],_,_,_,_,_,_,_,_,_,_,_,_,_,_,_,_,_,_,rfl⟩ ?_
  rintro j st K ⟨i,rfl,hi,hc,J,a3,a6,a7,a8,a12,a13,a14,a15,a16,a17,a18,a19,a20,a21,a22,a23,a24,a25,rfl⟩ hn he hr
  by_cases h:i<p.as.l.length
  ·have hx:p.as.l[i]?=some p.as.l[i]:=zb7 h
   generalize p.as.l[i]=x at hx
   have hrd:rdN (p.as.l.flatMap Ac.c) (i*6) 6=some x.c:=(zc Ac.c_len 0 6 hx (by omega)).trans rfl
   have hw:wrapI .i64 ((i:Int)+1)=((i+1:Nat):Int):=yF (by have:=p.as.few; omega)
   cases hb:x.id==id
   ·simp only [W0,sevalprocAttr,h,za p.as h,hrd,hb,hw,Ac.c,zAc_c]
    refine hn _ (p.as.l.length - (i+1)) (by omega) ⟨i+1,rfl,by omega,Zo hc hx hb,_,_,_,_,_,_,_,_,_,_,_,_,_,_,_,_,_,_,_,rfl⟩
   ·have hxf:=ZK (p:=fun f=>f.id==id) hc hx hb
    rw [hf] at hxf
    obtain rfl:=zdr hxf
    simp only [W0,sevalprocAttr,h,za p.as h,hrd,hb,Ac.c,zAc_c,hcall]
    refine hr _ ?_
    simp only [W0,sevalprocAttr,zAc_c,hcall]
    rfl
  ·have hxf:=Yx hc h
   rw [hf] at hxf
   simp at hxf
theorem zbe (f0:Nd):Fz (1+1+1) (.tuple [.agg ((some f0).getD zNd).c,.bool (some f0).isSome]):=fun m hm lv own=>by
 obtain ⟨m,rfl⟩:∃ q,m=q+3:=⟨m - 3,by omega⟩
 rfl
theorem zbf:Fz (1+1+1) (.tuple [.agg ((none:Option Nd).getD zNd).c,.bool (none:Option Nd).isSome]):=fun m hm lv own=>by
 obtain ⟨m,rfl⟩:∃ q,m=q+3:=⟨m - 3,by omega⟩
 rfl
theorem Zz (hS:NoS S) (p:Pn) (id:Int):Gives Ftab S 33 [.agg p.c,iv id] (.tuple [.agg ((p.ns.l.find? fun f=>f.id==id).getD zNd).c,.bool (p.ns.l.find? fun f=>f.id==id).isSome]):=by
 cases hf:p.ns.l.find? fun f=>f.id==id with
 | none =>
  refine zM (i:=i33) (k:=1+1+1) (ns hS (by rfl)) rfl rfl zbf (p.ns.l.length+5) (by omega) fun m hm d out=>?_
  simp only [i33,W0,sevalprocAttr,Pn.c]
  refine zb (fun j st=>∃ i,j=p.ns.l.length - i/\i<=p.ns.l.length/\((p.ns.l.take i).find? fun f=>f.id==id)=none/\∃ J a3 a6 a7 a8 a12 a13 a14 a15 a16 a17 a18 a19 a20 a21,st=⟨[.agg p.c,iv id,.ptrM d 0 0,a3,.ptrM d 1 0,.bool false,a6,a7,a8,p.ns.v,iv (p.ns.l.length:Nat),iv i,a12,a13,a14,a15,a16,a17,a18,a19,a20,a21],.cells [p.ns.v,p.as.v,p.fs.v]::.cells zNd.c::J⟩) p.ns.l.length (by omega) ⟨0,by omega,by omega,by simp,[],_,_,_,_,_,_,_,_,_,_,_,_,_,_,rfl⟩ ?_
  rintro j st K ⟨i,rfl,hi,hc,J,a3,a6,a7,a8,a12,a13,a14,a15,a16,a17,a18,a19,a20,a21,rfl⟩ hn he hr
  by_cases h:i<p.ns.l.length
  ·have hx:p.ns.l[i]?=some p.ns.l[i]:=zb7 h
   generalize p.ns.l[i]=x at hx
   have hrd:rdN (p.ns.l.flatMap Nd.c) (i*3) 3=some x.c:=(zc Nd.c_len 0 3 hx (by omega)).trans rfl
   have hw:wrapI .i64 ((i:Int)+1)=((i+1:Nat):Int):=yF (by have:=p.ns.few; omega)
   cases hb:x.id==id
   ·simp only [W0,sevalprocAttr,h,za p.ns h,hrd,hb,hw,Nd.c,zNd_c]
    refine hn _ (p.ns.l.length - (i+1)) (by omega) ⟨i+1,rfl,by omega,Zo hc hx hb,_,_,_,_,_,_,_,_,_,_,_,_,_,_,_,rfl⟩
   ·have hxf:=ZK (p:=fun f=>f.id==id) hc hx hb
    rw [hf] at hxf
    simp at hxf
  ·have hxf:=Yx hc h
   rw [hf] at hxf
   simp only [W0,sevalprocAttr,h,zNd_c]
   refine he _ _ ?_
   simp only [W0,sevalprocAttr,zNd_c]
   rfl
 | some f0 =>
  refine zM (i:=i33) (k:=1+1+1) (ns hS (by rfl)) rfl rfl (zbe f0) (p.ns.l.length+8) (by omega) fun m hm d out=>?_
  simp only [i33,W0,sevalprocAttr,Pn.c]
  refine zb (fun j st=>∃ i,j=p.ns.l.length - i/\i<=p.ns.l.length/\((p.ns.l.take i).find? fun f=>f.id==id)=none/\∃ J a3 a6 a7 a8 a12 a13 a14 a15 a16 a17 a18 a19 a20 a21,st=⟨[.agg p.c,iv id,.ptrM d 0 0,a3,.ptrM d 1 0,.bool false,a6,a7,a8,p.ns.v,iv (p.ns.l.length:Nat),iv i,a12,a13,a14,a15,a16,a17,a18,a19,a20,a21],.cells [p.ns.v,p.as.v,p.fs.v]::.cells zNd.c::J⟩) p.ns.l.length (by omega) ⟨0,by omega,by omega,by simp,[],_,_,_,_,_,_,_,_,_,_,_,_,_,_,rfl⟩ ?_
  rintro j st K ⟨i,rfl,hi,hc,J,a3,a6,a7,a8,a12,a13,a14,a15,a16,a17,a18,a19,a20,a21,rfl⟩ hn he hr
  by_cases h:i<p.ns.l.length
  ·have hx:p.ns.l[i]?=some p.ns.l[i]:=zb7 h
   generalize p.ns.l[i]=x at hx
   have hrd:rdN (p.ns.l.flatMap Nd.c) (i*3) 3=some x.c:=(zc Nd.c_len 0 3 hx (by omega)).trans rfl
   have hw:wrapI .i64 ((i:Int)+1)=((i+1:Nat):Int):=yF (by have:=p.ns.few; omega)
   cases hb:x.id==id
   ·simp only [W0,sevalprocAttr,h,za p.ns h,hrd,hb,hw,Nd.c,zNd_c]
    refine hn _ (p.ns.l.length - (i+1)) (by omega) ⟨i+1,rfl,by omega,Zo hc hx hb,_,_,_,_,_,_,_,_,_,_,_,_,_,_,_,rfl⟩
   ·have hxf:=ZK (p:=fun f=>f.id==id) hc hx hb
    rw [hf] at hxf
    obtain rfl:=zdr hxf
    simp only [W0,sevalprocAttr,h,za p.ns h,hrd,hb,Nd.c,zNd_c]
    refine hr _ ?_
    simp only [W0,sevalprocAttr,zNd_c]
    rfl
  ·have hxf:=Yx hc h
   rw [hf] at hxf
   simp at hxf
end
end
section
section
variable {d k n0:Nat} {lk:Nat->Nat->Option IObj} {own:yLO} {p p':IV}
theorem zbg {sz z len slot:Nat} {cs new:List IV} {tight:Bool}:appendI d n0 lk own sz (.slC cs len z tight) new 0 slot=some (.r,.slC cs len z tight,own):=by
 unfold appendI
 rw [if_pos rfl]
theorem yS {f:IV->Option IV} {x y:IV} {l l':List IV} (h:f x=some y) (h2:l.mapM f=some l'):(x::l).mapM f=some (y::l'):=by
 rw [zdg,h,h2]
 rfl
theorem mapM_n {f:IV->Option IV}:([]:List IV).mapM f=some []:=rfl
theorem Ya {cs cs':List IV} (h:cs.mapM (freeze k d own)=some cs'):freeze (k+1) d own (.agg cs)=some (.agg cs'):=by simp only [freeze,h,zb9]
end
end
section
section
variable {C:Call} {d:Nat} {out:yLM} {n j:Nat} {st:St} {K:yKM} {a:IC}
def Lp (C:Call) (d:Nat) (out:yLM) (n j:Nat) (a:IC) (K:yKM) (st:St):Prop:=∃ o st',iter (exec C d out n a) j st=some (o,st')/\K o st'
theorem Ex_loop:Ex C d out n (.loop a) K st=Lp C d out n n a K st:=by
 unfold Ex Lp
 simp only [exec]
theorem Lp_succ:Lp C d out n (j+1) a K st=Ex C d out n a (andThen (Lp C d out n j a K) K) st:=by
 refine propext ⟨fun ⟨o,st',h,hk⟩=>?_,fun ⟨o,st1,h1,h2⟩=>?_⟩
 ·simp only [iter] at h
  split at h
  ·rename_i st1 he
   exact ⟨.normal,st1,he,o,st',h,hk⟩
  ·rename_i hne
   refine ⟨o,st',h,?_⟩
   cases o with
   | normal=>exact absurd h (hne _)
   | exit id=>exact hk
   | ret=>exact hk
 ·cases o with
  | normal =>
   obtain ⟨o2,st2,h3,h4⟩:=h2
   exact ⟨o2,st2,by simp only [iter,h1,h3],h4⟩
  | exit id=>exact ⟨_,st1,by simp only [iter,h1],h2⟩
  | ret=>exact ⟨_,st1,by simp only [iter,h1],h2⟩
end
section
variable {F:FuncId->Option IFn} {S:ySM}
def FinO (d:Nat) (out:yLM) (rs:List IRes) (c:List IV) (len cap sz:Nat) (tight:Bool) (o:Out) (st:St):Prop:=(o=.normal∨o=.ret)/\∃ j,resultI d out st rs=some (.slM d j 0 len cap sz tight)/\st.own[j]?=some (.cells c)
theorem own_of {f:FuncId} {i:IFn} {args:List IV} {c:List IV} {len cap sz k:Nat} {tight:Bool} (hS:S f args=none) (hi:F f=some i) (hm:i.mode=1) (N:Nat) (hfz:∀ x∈c,Fz k x) (hk:k<=N) (hc:c.length=cap*sz)
  (h:∀ m,N<=m->∀ d out,Ex (callN F S m) d out m i.body (FinO d out i.res c len cap sz tight) ⟨args++List.replicate (i.ntmps - args.length) (.tuple []),[]⟩) :
  ∃ N',∀ m,N'<=m->∀ d out ownV own id,own[id]?=some .free->callN F S m d out ownV own id f args=some (.a,.slM d id 0 len cap sz tight,own.set id (.cells c)):=by
 refine ⟨N+1,fun m hN d out ownV own id hf=>?_⟩
 obtain ⟨m,rfl⟩:∃ q,m=q+1:=⟨m - 1,by omega⟩
 obtain ⟨o,st,h1,h2,j,h3,h4⟩:=h m (by omega) (d+1) (fun l=>if l=d then ownV else out l)
 have hm2:¬ i.mode=2:=by omega
 have hm3:¬ i.mode=3:=by omega
 have hseg:seg c 0 (cap*sz)=some c:=by
  unfold seg
  rw [if_pos (by omega),zf,List.drop_zero,zcr (by omega)]
 have hmap:c.mapM (freeze m (d+1) (st.own.set j .gone))=some c:=zG fun x hx=>hfz x hx m (by omega) _ _
 simp only [callN,hS,hi,if_neg hm2,if_neg hm3,zf,h1]
 rcases h2 with rfl | rfl <;> simp only [ended,h3,zch,leave,hm,if_true,handed,h4,hseg,hmap,mkAt,hf,zf]
variable {d:Nat} {out:yLM} {rs:List IRes} {c:List IV} {len cap sz:Nat} {tight:Bool} {st:St}
theorem FinO_ret:FinO d out rs c len cap sz tight .ret st=∃ j,resultI d out st rs=some (.slM d j 0 len cap sz tight)/\st.own[j]?=some (.cells c):=propext ⟨fun h=>h.2,fun h=>⟨.inr rfl,h⟩⟩
end
theorem rep_fz {z:List IV} {k:Nat} (h:∀ x∈z,Fz k x):∀ {n:Nat},∀ x∈rep z n,Fz k x
 | 0,x,hx=>by simp [rep] at hx
 | n+1,x,hx=>by
  simp only [rep,zd4] at hx
  exact hx.elim (h x) (rep_fz h x)
section
variable {C:Call} {d n0:Nat} {out:yLM} {lk:Nat->Nat->Option IObj} {own ownV:yLO} {t:List IV}
theorem natI_0 {k:IntKind}:natI (.int k 0)=some 0:=zck rfl rfl
theorem app_src0 {z:List IV} {sz:Nat} {s x:Opd} {slot:Nat}:e_append d out n0 ownV own t z sz true s x slot=appV d n0 (look d out ownV) own sz (ρ t s) slot ((natI (ρ t x)).bind fun n=>if n<=bound then some (rep z n,n) else none):=zck rfl rfl
theorem ZV {sz slot n:Nat} {new:List IV} (h:n≠0) (hb:n<=bound):appendI d n0 lk own sz .nilsl new n slot=mkAt own (n0+slot) (.cells new) (.slM d (n0+slot) 0 n n sz false):=by
 unfold appendI
 rw [if_neg h]
 simp only
 rw [if_pos hb]
end
theorem wrap_lit0:wrapI .i64 (0 - 0)=0:=by rw [zC]; decide
theorem wrap_sub0 {n:Nat} (h:n<=1073741824):wrapI .i64 ((n:Int) - 0)=(n:Int):=by
 rw [zC,IntWalk.i64_in _ (by omega)]
 omega
section
variable {S:ySM}
theorem grow_at (hS:NoS S) (n:Nat) (h0:0<n) (hn:n<=1073741824):∃ N,∀ m,N<=m->∀ d out ownV own id,own[id]?=some .free->callN Ftab S m d out ownV own id 73 [.nilsl,iv n]=some (.a,.slM d id 0 0 n 2 false,own.set id (.cells (rep [.int .i64 0,.int .i64 0] n))):=by
 refine own_of (i:=i73) (ns hS (by rfl)) rfl rfl 2 (k:=1) (rep_fz fun x hx=>?_) (by omega) ?_ fun m hm d out=>?_
 ·simp only [zcx,zc1,or_false] at hx
  rcases hx with rfl | rfl <;> exact zy
 ·rw [Zb]
  rfl
 ·have d1:decide ((n:Int)<0)=false:=by simp
  have d2:decide ((n:Int) > 0)=true:=by simp; omega
  have hb:n<=bound:=by unfold bound; omega
  have hb2:0+n<=bound:=by unfold bound; omega
  have hne:n≠0:=by omega
  simp only [i73,W0,e_nilchk,e_pick,e_box,e_bslice,e_load,e_store,e_eqb,e_eqp,e_eqs,e_eqagg,e_conv,e_faddr,e_field,e_extract,e_call,e_mx,mkAt,List.replicate,look,mkv,binI,intBin,isShift,unI,fillI,cellV,Nat.reduceAdd,Nat.reduceMul,Nat.reduceLeDiff,reduceCtorEq,Nat.reduceEqDiff,d1,ev_cap,e_cap,wrap_lit0,wrap_sub0 hn,d2,ym,sliceI,optI,natI_0,z8,zw,app_src0,if_pos hb,zJ,ZV hne hb,Nat.zero_le,zdf,Nat.sub_zero,zea,Option.isSome_none,Bool.or_self,FinO_ret]
  exact ⟨0,rfl,rfl⟩
end
end
section
theorem wr_fill:∀ {B A R:List IV},B.length<=R.length->wrN (A++R) A.length B=A++B++R.drop B.length
 | [],A,R,_=>by simp [wrN]
 | b::B,A,R,h=>by
  cases R with
  | nil=>simp at h
  | cons r R =>
   simp only [wrN]
   rw [zam]
   have h2:=wr_fill (B:=B) (A:=A++[b]) (R:=R) (by simpa using h)
   rw [zce,zcy] at h2
   simp only [zcu,zc4,zcc,zci,zcq] at h2
   rw [h2]
   simp
theorem ZL {B A R:List IV} {k:Nat} (hk:k=A.length) (h:B.length<=R.length):wrN (A++R) k B=A++B++R.drop B.length:=by rw [hk,wr_fill h]
theorem Yy {d n0 sz len cap n slot:Nat} {out:yLM} {c new:List IV} {J:yLO} {tight:Bool} (h:n≠0) (hb:len+n<=1073741824) (hc:len+n<=cap) (hfit:0+(len+n)*sz<=c.length) (hs:new.all IV.scalar=true) :
  appendI d n0 (look d out (.cells c::J)) (.cells c::J) sz (.slM d 0 0 len cap sz tight) new n slot=some (.x,.slM d 0 0 (len+n) cap sz tight,.cells (wrN c (0+len*sz) new)::J):=by
 unfold appendI
 rw [if_neg h]
 simp only
 rw [if_pos ⟨by unfold bound; omega,trivial⟩]
 simp only [look,if_true,zc2]
 rw [if_pos hc,if_pos ⟨trivial,hfit,hs⟩]
 simp only [zf,List.set_cons_zero]
theorem zbh {d n0 sz slot l i off len cap z:Nat} {lk:Nat->Nat->Option IObj} {own:yLO} {new:List IV} {tight:Bool}:appendI d n0 lk own sz (.slM l i off len cap z tight) new 0 slot=some (.r,.slM l i off len cap z tight,own):=by
 unfold appendI
 rw [if_pos rfl]
theorem app_same0 {d n0 sz slot l i off len cap z n:Nat} (h:n=0) {lk:Nat->Nat->Option IObj} {own:yLO} {new:List IV} {tight:Bool}:appendI d n0 lk own sz (.slM l i off len cap z tight) new n slot=some (.r,.slM l i off len cap z tight,own):=by
 subst h
 exact zbh
theorem pts_scal {l:List Pt}:(l.flatMap Pt.c).all IV.scalar=true:=by
 rw [zdh]
 intro x hx
 obtain ⟨a,_,h⟩:=zdy.1 hx
 simp only [Pt.c,zcx,zc1,or_false] at h
 rcases h with rfl | rfl <;> rfl
theorem cellsI_pt {lk:Nat->Nat->Option IObj} {x y:Int} {tight:Bool}:cellsI lk 2 (.slC [.int .i64 x,.int .i64 y] 1 2 tight)=some ([.int .i64 x,.int .i64 y],1):=by
 simp [cellsI,seg,zf]
theorem iaddr0 {own:yLO} {z n sz:Nat} {cs:List IV} {tight:Bool} {k:IntKind} (h:0<n):iaddrV own z (.slC cs n sz tight) (.int k 0)=some (.p,.ptrC cs (0*z),own):=z7 (i:=0) h
theorem iaddr1 {own:yLO} {z n sz:Nat} {cs:List IV} {tight:Bool} {k:IntKind} (h:1<n):iaddrV own z (.slC cs n sz tight) (.int k 1)=some (.p,.ptrC cs (1*z),own):=z7 (i:=1) h
theorem iaddr2 {own:yLO} {z n sz:Nat} {cs:List IV} {tight:Bool} {k:IntKind} (h:2<n):iaddrV own z (.slC cs n sz tight) (.int k 2)=some (.p,.ptrC cs (2*z),own):=z7 (i:=2) h
theorem wrap_0_1:wrapI .i64 (0+1)=1:=by rw [zC]; decide
theorem wrap_1_1:wrapI .i64 (1+1)=2:=by rw [zC]; decide
theorem wrap_2_1:wrapI .i64 (2+1)=3:=by rw [zC]; decide
theorem lt03:decide ((0:Int)<((3:Nat):Int))=true:=by decide
theorem lt13:decide ((1:Int)<((3:Nat):Int))=true:=by decide
theorem lt23:decide ((2:Int)<((3:Nat):Int))=true:=by decide
theorem lt33:decide ((3:Int)<((3:Nat):Int))=false:=by decide
theorem Yz {a b:Nat} (h:a+b<9223372036854775808):wrapI .i64 ((a:Int)+(b:Int))=((a+b:Nat):Int):=by
 rw [zC,IntWalk.i64_in _ (by omega)]
 rfl
theorem wrap_z1:wrapI .i64 (0+((1:Nat):Int))=((1:Nat):Int):=by rw [zC]; decide
theorem nlt {a:Nat}:decide ((a:Int)<0)=false:=by simp
def mkRow {α:Type} {g:α->List IV} {sz:Nat} (hs:∀ a,(g a).length=sz) (l:List α) (n:Nat) (tight:Bool) (h:l.length=n) (hf:n<9223372036854775808):SlOf sz g :=
 ⟨l,.slC (l.flatMap g) n sz tight,by subst h; exact .row _ _ _ (zu hs),by omega⟩
theorem filled {A B D R:List IV} {n:Nat} (hA:A.length=2) (hD:D.length=2) (hB:B.length=n*2) (hR:R.length=(1+n+1)*2):wrN (wrN (wrN R 0 A) 2 B) ((1+n)*2) D=A++(B++D):=by
 have h1:wrN R 0 A=A++R.drop 2:=by
  have:=ZL (B:=A) (A:=[]) (R:=R) (k:=0) rfl (by omega)
  simpa [hA] using this
 rw [h1,ZL (k:=2) hA.symm (by rw [List.length_drop]; omega),ZL (k:=(1+n)*2) (by rw [zce,hA,hB]; omega) (by simp only [List.length_drop]; omega),zcy,zcy]
 rw [List.drop_eq_nil_of_le (by simp only [List.length_drop]; omega),zda]
theorem filled0 {A D R:List IV} (hA:A.length=2) (hD:D.length=2) (hR:R.length=4):wrN (wrN R 0 A) 2 D=A++D:=by
 have h1:wrN R 0 A=A++R.drop 2:=by
  have:=ZL (B:=A) (A:=[]) (R:=R) (k:=0) rfl (by omega)
  simpa [hA] using this
 rw [h1,ZL (k:=2) hA.symm (by rw [List.length_drop]; omega),List.drop_eq_nil_of_le (by simp only [List.length_drop]; omega),zda]
section
variable {S:ySM}
theorem gives_concat (hS:NoS S) (p1 p2:Pt) (q:SlOf 2 Pt.c) (hq:q.l.length<=1000000):∃ q':SlOf 2 Pt.c,q'.l=p1::(q.l++[p2])/\Gives Ftab S 52 [.slC [.slC [iv p1.x,iv p1.y] 1 2 true,q.v,.slC [iv p2.x,iv p2.y] 1 2 true] 3 1 true] q'.v:=by
 obtain ⟨N,hN⟩:=grow_at hS (1+q.l.length+1) (by omega) (by omega)
 have hlen:(p1::(q.l++[p2])).length=1+q.l.length+1:=by simp; omega
 refine ⟨mkRow Pt.c_len (p1::(q.l++[p2])) (1+q.l.length+1) false hlen (by omega),rfl,?_⟩
 refine gives_fr (i:=i52) (ns hS (by rfl)) rfl rfl (N+5) fun m hm d out=>?_
 have hg:=hN m (by omega) d out [.free] [.free] 0 rfl
 have hfr:∀ own:yLO,own[0]?=some (.cells ((p1::(q.l++[p2])).flatMap Pt.c))->freeze m d own (.slM d 0 0 (1+q.l.length+1) (1+q.l.length+1) 2 false)=some (mkRow Pt.c_len (p1::(q.l++[p2])) (1+q.l.length+1) false hlen (by omega)).v:=fun own ho=>y4 (k:=1) ptc_fz (by omega) hlen Pt.c_len ho
 have w1:wrapI .i64 (((1:Nat):Int)+(q.l.length:Int))=((1+q.l.length:Nat):Int):=Yz (by omega)
 have w2:wrapI .i64 (((1+q.l.length:Nat):Int)+((1:Nat):Int))=((1+q.l.length+1:Nat):Int):=Yz (by omega)
 obtain ⟨k,rfl⟩:∃ k,m=k+1+1+1+1:=⟨m - 4,by omega⟩
 simp only [zg] at hg
 have hr0:(rep [.int .i64 0,.int .i64 0] (1+q.l.length+1)).length=(1+q.l.length+1)*2:=by rw [Zb]; rfl
 generalize rep [.int .i64 0,.int .i64 0] (1+q.l.length+1)=R at hg hr0
 by_cases h0:q.l.length=0
 ·have hl:q.l=[]:=zcv.1 h0
  have a1:=fun n0 slot=>Yy (d:=d) (n0:=n0) (sz:=2) (len:=0) (cap:=1+q.l.length+1) (n:=1) (slot:=slot) (out:=out) (c:=R) (new:=[.int .i64 p1.x,.int .i64 p1.y]) (J:=[.free]) (tight:=false) (by omega) (by omega) (by omega) (by omega) rfl
  have a3:=fun n0 slot=>Yy (d:=d) (n0:=n0) (sz:=2) (len:=1) (cap:=1+q.l.length+1) (n:=1) (slot:=slot) (out:=out) (c:=wrN R 0 [.int .i64 p1.x,.int .i64 p1.y]) (new:=[.int .i64 p2.x,.int .i64 p2.y]) (J:=[.free,.free,.free]) (tight:=false) (by omega) (by omega) (by omega) (by rw [Yo]; omega) rfl
  simp only [zcq,Nat.add_zero,zdf,zdu] at a1 a3
  simp only [i52,W0,e_nilchk,e_pick,e_box,e_bslice,e_load,e_store,e_eqb,e_eqp,e_eqs,e_eqagg,e_conv,e_faddr,e_field,e_extract,e_call,e_mx,mkAt,List.replicate,look,mkv,binI,intBin,isShift,unI,fillI,cellV,Nat.reduceAdd,Nat.reduceMul,Nat.reduceLeDiff,reduceCtorEq,Nat.reduceEqDiff,Ex_loop,Lp_succ,lt03,lt13,lt23,lt33,iaddr0 (show 0<3 by omega),iaddr1 (show 1<3 by omega),iaddr2 (show 2<3 by omega),wrap_0_1,wrap_1_1,wrap_2_1,wrap_z1,w1,w2,nlt,hg,zw,zF,zJ,zT,cellsI_pt,a1,app_same0 h0,a3,zdf,zdu]
  refine ⟨_,rfl,?_⟩
  have e:(2:Nat)=1+q.l.length+1:=by omega
  have h2:=hfr [IObj.cells (wrN (wrN R 0 [.int .i64 p1.x,.int .i64 p1.y]) 2 [.int .i64 p2.x,.int .i64 p2.y]),IObj.free,IObj.free,IObj.free] (by
   rw [zc2,filled0 rfl rfl (by rw [hr0,h0]),hl]
   simp [Pt.c,zg])
  rw [show (IV.slM d 0 0 (1+q.l.length+1) (1+q.l.length+1) 2 false)=.slM d 0 0 2 (1+q.l.length+1) 2 false by rw [← e]] at h2
  exact h2
 ·have a1:=fun n0 slot=>Yy (d:=d) (n0:=n0) (sz:=2) (len:=0) (cap:=1+q.l.length+1) (n:=1) (slot:=slot) (out:=out) (c:=R) (new:=[.int .i64 p1.x,.int .i64 p1.y]) (J:=[.free]) (tight:=false) (by omega) (by omega) (by omega) (by omega) rfl
  have a2:=fun n0 slot=>Yy (d:=d) (n0:=n0) (sz:=2) (len:=1) (cap:=1+q.l.length+1) (n:=q.l.length) (slot:=slot) (out:=out) (c:=wrN R 0 [.int .i64 p1.x,.int .i64 p1.y]) (new:=q.l.flatMap Pt.c) (J:=[.free,.free]) (tight:=false) h0 (by omega) (by omega) (by rw [Yo]; omega) pts_scal
  have a3:=fun n0 slot=>Yy (d:=d) (n0:=n0) (sz:=2) (len:=1+q.l.length) (cap:=1+q.l.length+1) (n:=1) (slot:=slot) (out:=out) (c:=wrN (wrN R 0 [.int .i64 p1.x,.int .i64 p1.y]) 2 (q.l.flatMap Pt.c)) (new:=[.int .i64 p2.x,.int .i64 p2.y]) (J:=[.free,.free,.free]) (tight:=false) (by omega) (by omega) (by omega) (by rw [Yo,Yo]; omega) rfl
  simp only [zcq,Nat.add_zero,zdf,zdu] at a1 a2 a3
  simp only [i52,W0,e_nilchk,e_pick,e_box,e_bslice,e_load,e_store,e_eqb,e_eqp,e_eqs,e_eqagg,e_conv,e_faddr,e_field,e_extract,e_call,e_mx,mkAt,List.replicate,look,mkv,binI,intBin,isShift,unI,fillI,cellV,Nat.reduceAdd,Nat.reduceMul,Nat.reduceLeDiff,reduceCtorEq,Nat.reduceEqDiff,Ex_loop,Lp_succ,lt03,lt13,lt23,lt33,iaddr0 (show 0<3 by omega),iaddr1 (show 1<3 by omega),iaddr2 (show 2<3 by omega),wrap_0_1,wrap_1_1,wrap_2_1,wrap_z1,w1,w2,nlt,hg,zw,zF,zJ,zT,cellsI_pt,a1,a2,a3,zdf,zdu]
  refine ⟨_,rfl,hfr _ ?_⟩
  rw [zc2,filled (n:=q.l.length) rfl rfl (zu Pt.c_len) hr0]
  simp [Pt.c,zg]
end
end
section
def arcF (p:Pn) (id:Int):Option Ac:=p.as.l.find? fun f=>f.id==id
def nodeF (p:Pn) (id:Int):Option Nd:=p.ns.l.find? fun f=>f.id==id
def arcD (p:Pn) (id:Int):Ac:=(arcF p id).getD zAc
def nodeD (p:Pn) (id:Int):Nd:=(nodeF p id).getD zNd
def pathOk (p:Pn) (id:Int):Bool:=(arcF p id).isSome&&((nodeF p (arcD p id).fr).isSome&&(nodeF p (arcD p id).to).isSome)
def pathL (p:Pn) (id:Int):List Pt:=(nodeD p (arcD p id).fr).at'::((arcD p id).via.l++[(nodeD p (arcD p id).to).at'])
def FewVia (p:Pn):Prop:=∀ f∈p.as.l,f.via.l.length<=100000
theorem fewD {p:Pn} (h:FewVia p) (id:Int):(arcD p id).via.l.length<=100000:=by
 unfold arcD
 cases hf:arcF p id with
 | none=>simp [zAc,nilS]
 | some a=>exact h a (List.mem_of_find?_eq_some hf)
theorem YA (q:SlOf 2 Pt.c) (e:Int):Fz (1+1+1+1) (.tuple [q.v,.int .i64 e]):=by
 refine fz_tuple fun x hx=>?_
 simp only [zcx,zc1,or_false] at hx
 rcases hx with rfl | rfl
 ·exact yJ ptc_fz q
 ·exact zy.le (by omega)
section
variable {S:ySM}
theorem ZA (hS:NoS S) (p:Pn) (id:Int) (hv:FewVia p):∃ q':SlOf 2 Pt.c,(pathOk p id=true->q'.l=pathL p id)/\Gives Ftab S 32 [.agg p.c,iv id] (.tuple [q'.v,iv (bif pathOk p id then 0 else 7)]):=by
 obtain ⟨q1,hq1,N1,h1⟩:=YZ hS p id (fun f hf=>by have:=hv f hf; omega)
 have hq1':q1.l=(arcD p id).via.l:=hq1
 have hlen:q1.l.length<=100000:=by rw [hq1']; exact fewD hv id
 obtain ⟨N2,h2⟩:=Zz hS p (arcD p id).fr
 obtain ⟨N3,h3⟩:=Zz hS p (arcD p id).to
 obtain ⟨q',hq',N4,h4⟩:=gives_concat hS (nodeD p (arcD p id).fr).at' (nodeD p (arcD p id).to).at' q1 (by omega)
 have c1:=fun m (hm:N1+N2+N3+N4+5<=m) d out ownV own i=>h1 m (by omega) d out ownV own i
 have c2:=fun m (hm:N1+N2+N3+N4+5<=m) d out ownV own i=>h2 m (by omega) d out ownV own i
 have c3:=fun m (hm:N1+N2+N3+N4+5<=m) d out ownV own i=>h3 m (by omega) d out ownV own i
 have c4:=fun m (hm:N1+N2+N3+N4+5<=m) d out ownV own i=>h4 m (by omega) d out ownV own i
 have e1:(p.as.l.find? fun f=>f.id==id)=arcF p id:=rfl
 have e2:((arcF p id).getD zAc)=arcD p id:=rfl
 have e3:∀ k:Int,(p.ns.l.find? fun f=>f.id==k)=nodeF p k:=fun k=>rfl
 have e4:∀ k:Int,((nodeF p k).getD zNd)=nodeD p k:=fun k=>rfl
 simp only [e1,e2,e3,e4,zg,Pn.c,Ac.c,Nd.c] at c1 c2 c3 c4
 cases b1:(arcF p id).isSome
 ·refine ⟨nilS _ _,by simp [pathOk,b1],?_⟩
  refine zM (i:=i32) (ns hS (by rfl)) rfl rfl (YA _ _) (N1+N2+N3+N4+5) (by omega) fun m hm d out=>?_
  simp only [b1] at c1
  simp only [i32,W0,sevalprocAttr,Pn.c,c1 m hm,c2 m hm,c3 m hm,pathOk,b1,zcw,cond_false]
  rfl
 ·cases b2:(nodeF p (arcD p id).fr).isSome
  ·refine ⟨nilS _ _,by simp [pathOk,b2],?_⟩
   refine zM (i:=i32) (ns hS (by rfl)) rfl rfl (YA _ _) (N1+N2+N3+N4+5) (by omega) fun m hm d out=>?_
   simp only [b1] at c1
   simp only [b2] at c2
   simp only [i32,W0,sevalprocAttr,Pn.c,c1 m hm,c2 m hm,c3 m hm,pathOk,b1,b2,zcw,zdt,cond_false]
   rfl
  ·cases b3:(nodeF p (arcD p id).to).isSome
   ·refine ⟨nilS _ _,by simp [pathOk,b3],?_⟩
    refine zM (i:=i32) (ns hS (by rfl)) rfl rfl (YA _ _) (N1+N2+N3+N4+5) (by omega) fun m hm d out=>?_
    simp only [b1] at c1
    simp only [b2] at c2
    simp only [b3] at c3
    simp only [i32,W0,sevalprocAttr,Pn.c,c1 m hm,c2 m hm,c3 m hm,pathOk,b1,b2,b3,zcw,zdt,cond_false]
    rfl
   ·refine ⟨q',fun _=>by rw [hq',hq1']; rfl,?_⟩
    refine zM (i:=i32) (ns hS (by rfl)) rfl rfl (YA _ _) (N1+N2+N3+N4+5) (by omega) fun m hm d out=>?_
    simp only [b1] at c1
    simp only [b2] at c2
    simp only [b3] at c3
    simp only [i32,W0,sevalprocAttr,Pn.c,rep,c1 m hm,c2 m hm,c3 m hm,c4 m hm,pathOk,b1,b2,b3,cond_true]
end
end
section
theorem y5 {d n0 sz len slot n i:Nat} (h:n≠0) {lk:Nat->Nat->Option IObj} {own:yLO} {c new:List IV} (hb:len+n<=1073741824) (hc:c.length=len*sz) (hs:new.all IV.scalar=true) (hl:lk d i=some (.cells c)) :
  appendI d n0 lk own sz (.slM d i 0 len len sz false) new n slot=killAt own i (n0+slot) (.cells (c++new)) (.slM d (n0+slot) 0 (len+n) (len+n) sz false):=by
 unfold appendI
 rw [if_neg h]
 simp only
 rw [if_pos ⟨by unfold bound; omega,trivial⟩]
 have hseg:seg c 0 (len*sz)=some c:=by
  unfold seg
  rw [if_pos (by omega),zf,List.drop_zero,zcr (by omega)]
 simp only [hl,hseg,zf]
 rw [if_neg (by omega)]
 simp only [zco,if_false]
 rw [if_pos ⟨trivial,hs⟩]
end
section
def OwnI (d:Nat) (J:yLO) (lv:IV) (xs:List Int):Prop:=(xs=[]/\lv=.nilsl)∨∃ b,xs≠[]/\lv=.slM d (b+1) 0 xs.length xs.length 1 false/\J[b]?=some (.cells (xs.flatMap intc))
theorem OwnI.more {d:Nat} {J:yLO} {lv:IV} {xs:List Int} (h:OwnI d J lv xs) (r:yLO):OwnI d (J++r) lv xs:=by
 rcases h with h | ⟨b,hne,h1,h2⟩
 ·exact .inl h
 ·exact .inr ⟨b,hne,h1,by rw [zb8 (zb6.1 h2).1]; exact h2⟩
section
variable {S:ySM}
theorem yG {lk:Nat->Nat->Option IObj} {x:Int} {tight:Bool}:cellsI lk 1 (.slC [.int .i64 x] 1 1 tight)=some ([.int .i64 x],1):=by
 simp [cellsI,seg,zf]
end
end
section
structure Bx where
 a:Int
 b:Int
 c:Int
 e:Int
def Bx.r (x:Bx):List IV:=[.int .i64 x.a,.int .i64 x.b,.int .i64 x.c,.int .i64 x.e]
end
section
section
variable {α:Type} {g:α->List IV} {sz:Nat}
def OwnJ (g:α->List IV) (sz d k0:Nat) (J:yLO) (lv:IV) (xs:List α):Prop:=(xs=[]/\lv=.nilsl)∨∃ b,xs≠[]/\lv=.slM d (k0+b) 0 xs.length xs.length sz false/\J[b]?=some (.cells (xs.flatMap g))
theorem OwnJ.more {d k0:Nat} {J:yLO} {lv:IV} {xs:List α} (h:OwnJ g sz d k0 J lv xs) (r:yLO):OwnJ g sz d k0 (J++r) lv xs:=by
 rcases h with h | ⟨b,hne,h1,h2⟩
 ·exact .inl h
 ·exact .inr ⟨b,hne,h1,by rw [zb8 (zb6.1 h2).1]; exact h2⟩
def rowQ (hs:∀ a,(g a).length=sz) (xs:List α) (hx:xs.length<9223372036854775808):SlOf sz g:=match xs,hx with
 | [],_=>nilS _ _
 | x::t,hx=>mkRow hs (x::t) (x::t).length false rfl hx
theorem ZB (hs:∀ a,(g a).length=sz) (xs:List α) (hx:xs.length<9223372036854775808):(rowQ hs xs hx).l=xs:=by cases xs <;> rfl
theorem zZ {Pre L:yLO} {b:Nat}:(Pre++L)[Pre.length+b]?=L[b]?:=by
 rw [zcb (by omega),zdd]
theorem yc {Pre L:yLO} {b:Nat} {v:IObj}:(Pre++L).set (Pre.length+b) v=Pre++L.set b v:=by
 rw [zdl _ _ (by omega),zdd]
theorem YB (hs:∀ a,(g a).length=sz) (hf:∀ a,∀ x∈g a,Fz 1 x) {d m:Nat} {Pre J:yLO} {lv:IV} {xs:List α} (hm:2<=m) (hx:xs.length<9223372036854775808) (h:OwnJ g sz d Pre.length J lv xs):freeze m d (Pre++J) lv=some (rowQ hs xs hx).v:=by
 rcases h with ⟨rfl,rfl⟩ | ⟨b,hne,rfl,h2⟩
 ·exact y3 m (by omega) d _
 ·cases xs with
  | nil=>exact absurd rfl hne
  | cons x t=>exact y4 (k:=1) hf (by omega) rfl hs (by rw [zZ]; exact h2)
theorem YC (hs:∀ a,(g a).length=sz) {d n0 slot k:Nat} {out:yLM} {Pre J R:yLO} {lv:IV} {xs ys:List α} (h:OwnJ g sz d Pre.length J lv xs) (hy:ys.length≠0) (hx:xs.length+ys.length<=1073741824) (hk:n0+slot=Pre.length+(J.length+k)) (hf:R[k]?=some .free)
  (hsc:(ys.flatMap g).all IV.scalar=true) :
  ∃ e lv' J2,appendI d n0 (look d out (Pre++(J++R))) (Pre++(J++R)) sz lv (ys.flatMap g) ys.length slot=some (e,lv',Pre++J2)/\OwnJ g sz d Pre.length J2 lv' (xs++ys):=by
 have hkl:k<R.length:=(zb6.1 hf).1
 have hget:(J++R)[J.length+k]?=some .free:=by
  rw [zcb (by omega),zdd]
  exact hf
 have hlt:J.length+k<(J++R).length:=by rw [zce]; omega
 have hne:xs++ys≠[]:=by
  intro he
  exact hy (by rw [(List.append_eq_nil_iff.1 he).2]; rfl)
 rcases h with ⟨rfl,rfl⟩ | ⟨b,_,rfl,h2⟩
 ·rw [ZV hy (by unfold bound; simp at hx; omega)]
  unfold mkAt
  rw [hk,zZ,hget]
  simp only [zf]
  rw [yc]
  refine ⟨_,_,_,rfl,.inr ⟨J.length+k,hne,by simp,?_⟩⟩
  rw [zdb hlt]
  rfl
 ·have hb:b<J.length:=(zb6.1 h2).1
  have hb2:(J++R)[b]?=some (.cells (xs.flatMap g)):=by rw [zb8 hb]; exact h2
  rw [y5 hy hx (zu hs) hsc (by simp only [look,if_true,zZ]; exact hb2)]
  unfold killAt
  rw [hk,zZ,hget]
  simp only [zf]
  rw [yc,yc]
  refine ⟨_,_,_,rfl,.inr ⟨J.length+k,hne,by simp,?_⟩⟩
  rw [zdb (by rw [zdn]; exact hlt)]
  simp
end
theorem take_flat {α β:Type} {g:α->List β} {l:List α} {i:Nat} {x:α} (hx:l[i]?=some x):(l.take (i+1)).flatMap g=(l.take i).flatMap g++g x:=by
 rw [zd1,hx,Option.toList_some,List.flatMap_append,zcs,zdo,zda]
end
section
theorem expand_t {t:List IV} {n:Nat} (h:t.length=n):t=(List.range n).map (getK (.tuple []) t):=by
 apply List.ext_getElem?
 intro i
 rw [zc0]
 by_cases hi:i<n
 ·rw [List.getElem?_range hi,zb9,zH,zc6,zb7 (by omega),zdx]
 ·rw [List.getElem?_eq_none (by omega),List.getElem?_eq_none (by simp; omega),zcz]
end
section
theorem OwnJ.one {α:Type} {g:α->List IV} {sz d k0:Nat} {J:yLO} {lv:IV} {xs:List α} (h:OwnJ g sz d k0 J lv xs):lv.cells=[lv]/\lv.scalar=true:=by
 rcases h with ⟨_,rfl⟩ | ⟨b,_,rfl,_⟩ <;> exact ⟨rfl,rfl⟩
theorem yk {d:Nat} {out:yLM} {st:St}:resultI d out st []=some (.tuple []):=zck rfl rfl
end
section
theorem Yb {α:Type} {P:α->Nat->Prop}:∀ (l:List α),(∀ x∈l,∃ N,∀ m,N<=m->P x m)->∃ N,∀ x∈l,∀ m,N<=m->P x m
 | [],_=>⟨0,fun x hx=>by simp at hx⟩
 | y::l,h=>by
  obtain ⟨N1,h1⟩:=h y (zdk ..)
  obtain ⟨N2,h2⟩:=Yb l fun x hx=>h x (zd0 _ hx)
  refine ⟨N1+N2,fun x hx m hm=>?_⟩
  rcases zcx.1 hx with rfl | hx
  ·exact h1 m (by omega)
  ·exact h2 x hx m (by omega)
end
end Go.Proofs.YtiiofgieclfikaaGreatDoor
end
