/-
  A part of the proof: the small machine, its simulation and its walks.
-/
import Derived.Test.YtelocmclpfincaaGreatDoorZb
import Derived.Test.YtelocmclpfincaaGreatDoorZc
set_option linter.unusedVariables false
set_option linter.unusedSimpArgs false
set_option maxRecDepth 1000000
set_option maxHeartbeats 3200000
section
namespace Go.Proofs.YtelocmclpfincaaGreatDoor
open Go Go.RowKit
section
def NoS (S:ySM):Prop:=∀ f args,f≠43->f≠5->f≠18->f≠37->S f args=none
def sf (f:FuncId):Bool:=!(Nat.beq f 43)&&!(Nat.beq f 5)&&!(Nat.beq f 18)&&!(Nat.beq f 37)
theorem ns {S:ySM} (hS:NoS S) {f:FuncId} {args:List IV} (h:sf f=true):S f args=none:=by
 simp only [sf,zcq,Bool.not_eq_true'] at h
 obtain ⟨⟨⟨h1,h2⟩,h3⟩,h4⟩:=h
 exact hS f args (fun e=>by subst e; simp at h1) (fun e=>by subst e; simp at h2) (fun e=>by subst e; simp at h3) (fun e=>by subst e; simp at h4)
theorem lb {a b:Nat} (h:Nat.ble a b=true):a<=b:=Nat.le_of_ble_eq_true h
theorem YD {l:List Int} {x n:Int}:(l++[x]).contains n=(l.contains n||x==n):=by
 rw [zdz]
 simp only [List.contains_iff_mem,List.mem_append,List.mem_singleton,zd3,beq_iff_eq]
 exact ⟨fun h=>h.imp id Eq.symm,fun h=>h.imp id Eq.symm⟩
theorem zab {l:List Int} {x n:Int} {i:Nat} (hx:l[i]?=some x) (hb:(x==n)=true):l.contains n=true:=by
 have:=zdq hx
 have h2:x=n:=by simpa using hb
 subst h2
 exact List.contains_iff_mem.2 this
section
variable {S:ySM}
theorem mkv_ff {x:IV}:mkv false [x]=some x:=zcw rfl rfl
theorem mkv_tt {l:List IV}:mkv true l=some (.agg l):=by cases l with
 | nil=>rfl
 | cons x l=>cases l <;> rfl
theorem sh_shl:isShift .shl=true:=zcw rfl rfl
theorem sh_shr:isShift .shr=true:=zcw rfl rfl
theorem sh_add:isShift .add=false:=zcw rfl rfl
theorem sh_sub:isShift .sub=false:=zcw rfl rfl
theorem sh_mul:isShift .mul=false:=zcw rfl rfl
theorem sh_quo:isShift .quo=false:=zcw rfl rfl
theorem sh_rem:isShift .rem=false:=zcw rfl rfl
theorem sh_and:isShift .and=false:=zcw rfl rfl
theorem sh_or:isShift .or=false:=zcw rfl rfl
theorem sh_xor:isShift .xor=false:=zcw rfl rfl
theorem sh_eql:isShift .eql=false:=zcw rfl rfl
theorem sh_neq:isShift .neq=false:=zcw rfl rfl
theorem sh_lss:isShift .lss=false:=zcw rfl rfl
theorem sh_leq:isShift .leq=false:=zcw rfl rfl
theorem sh_gtr:isShift .gtr=false:=zcw rfl rfl
theorem sh_geq:isShift .geq=false:=zcw rfl rfl
theorem repl_0 {x:IObj}:List.replicate 0 x=[]:=zcw rfl rfl
theorem repl_1 {x:IObj}:List.replicate 1 x=[x]:=zcw rfl rfl
theorem repl_2 {x:IObj}:List.replicate 2 x=[x,x]:=zcw rfl rfl
theorem repl_3 {x:IObj}:List.replicate 3 x=[x,x,x]:=zcw rfl rfl
theorem repl_4 {x:IObj}:List.replicate 4 x=[x,x,x,x]:=zcw rfl rfl
theorem repl_5 {x:IObj}:List.replicate 5 x=[x,x,x,x,x]:=zcw rfl rfl
theorem repl_6 {x:IObj}:List.replicate 6 x=[x,x,x,x,x,x]:=zcw rfl rfl
theorem W0:(type_of% @Wall)/\(type_of% @zc5.{0})/\(type_of% @zdh.{0})/\(type_of% @zd0.{0})/\(type_of% @List.all_cons.{0})/\(type_of% @List.all_nil.{0})/\(type_of% @Bool.and_self)/\(type_of% @Bool.and_true)/\(type_of% @zcn)/\(type_of% @if_true.{1})/\(type_of% @zc7.{0})/\(type_of% @zcr.{0})/\(type_of% @zde)/\(type_of% @Nat.add_zero)/\(type_of% @zcs)/\(type_of% @and_self)/\(type_of% @and_true)/\(type_of% @true_and)/\(type_of% @zdf.{0})/\(type_of% @zc1.{0})/\(type_of% @zck.{0,0})/\(type_of% @zc6.{0,0})/\(type_of% @zcy.{0,0})/\(type_of% @zc2)/\(type_of% @if_false.{1})/\(type_of% @zdo.{0,0})/\(type_of% @List.map_nil.{0,0})/\(type_of% @zdk)/\(type_of% @decide_true)/\(type_of% @decide_false)/\(type_of% @beq_iff_eq.{0})/\(type_of% @zdg.{0})/\(type_of% @zc8.{0})/\(type_of% @zci)/\(type_of% @zch)/\(type_of% @mkAt.eq_1)/\(type_of% @Go.Proofs.YtelocmclpfincaaGreatDoor.look.eq_1)/\(type_of% @mkv_ff)/\(type_of% @mkv_tt)/\(type_of% @binI.eq_1)/\(type_of% @binI.eq_2)/\(type_of% @intBin.eq_1)/\(type_of% @intBin.eq_2)/\(type_of% @intBin.eq_3)/\(type_of% @intBin.eq_4)/\(type_of% @intBin.eq_5)/\(type_of% @intBin.eq_6)/\(type_of% @intBin.eq_7)/\(type_of% @intBin.eq_8)/\(type_of% @intBin.eq_9)/\(type_of% @intBin.eq_10)/\(type_of% @intBin.eq_11)/\(type_of% @intBin.eq_12)/\(type_of% @intBin.eq_13)/\(type_of% @intBin.eq_14)/\(type_of% @sh_shl)/\(type_of% @sh_shr)/\(type_of% @sh_add)/\(type_of% @sh_sub)/\(type_of% @sh_mul)/\(type_of% @sh_quo)/\(type_of% @sh_rem)/\(type_of% @sh_and)/\(type_of% @sh_or)/\(type_of% @sh_xor)/\(type_of% @sh_eql)/\(type_of% @sh_neq)/\(type_of% @sh_lss)/\(type_of% @sh_leq)/\(type_of% @sh_gtr)/\(type_of% @sh_geq)/\(type_of% @unI.eq_1)/\(type_of% @unI.eq_2)/\(type_of% @fillI.eq_1)/\(type_of% @fillI.eq_2)/\(type_of% @cellV.eq_1)/\(type_of% @e_nilchk.eq_1)/\(type_of% @e_pick.eq_1)/\(type_of% @e_box.eq_1)/\(type_of% @e_bslice.eq_1)/\(type_of% @e_load.eq_1)/\(type_of% @e_store.eq_1)/\(type_of% @e_eqb.eq_1)/\(type_of% @e_eqp.eq_1)/\(type_of% @e_eqs.eq_1)/\(type_of% @e_eqagg.eq_1)/\(type_of% @e_conv.eq_1)/\(type_of% @e_faddr.eq_1)/\(type_of% @e_field.eq_1)/\(type_of% @e_extract.eq_1)/\(type_of% @e_call.eq_1)/\(type_of% @e_mx.eq_1)/\(type_of% @repl_0)/\(type_of% @repl_1)/\(type_of% @repl_2)/\(type_of% @repl_3)/\(type_of% @repl_4)/\(type_of% @repl_5)/\(type_of% @repl_6) :=
 ⟨@Wall,@zc5.{0},@zdh.{0},@zd0.{0},@List.all_cons.{0},@List.all_nil.{0},@Bool.and_self,@Bool.and_true,@zcn,@if_true.{1},@zc7.{0},@zcr.{0},@zde,@Nat.add_zero,@zcs,@and_self,@and_true,@true_and,@zdf.{0},@zc1.{0},@zck.{0,0},@zc6.{0,0},@zcy.{0,0},@zc2,@if_false.{1},@zdo.{0,0},@List.map_nil.{0,0},@zdk,@decide_true,@decide_false,@beq_iff_eq.{0},@zdg.{0},@zc8.{0},@zci,@zch,@mkAt.eq_1,@Go.Proofs.YtelocmclpfincaaGreatDoor.look.eq_1,@mkv_ff,@mkv_tt,@binI.eq_1,@binI.eq_2,@intBin.eq_1,@intBin.eq_2,@intBin.eq_3,@intBin.eq_4,@intBin.eq_5,@intBin.eq_6,@intBin.eq_7,@intBin.eq_8,@intBin.eq_9,@intBin.eq_10,@intBin.eq_11,@intBin.eq_12,@intBin.eq_13,@intBin.eq_14,@sh_shl,@sh_shr,@sh_add,@sh_sub,@sh_mul,@sh_quo,@sh_rem,@sh_and,@sh_or,@sh_xor,@sh_eql,@sh_neq,@sh_lss,@sh_leq,@sh_gtr,@sh_geq,@unI.eq_1,@unI.eq_2,@fillI.eq_1,@fillI.eq_2,@cellV.eq_1,@e_nilchk.eq_1,@e_pick.eq_1,@e_box.eq_1,@e_bslice.eq_1,@e_load.eq_1,@e_store.eq_1,@e_eqb.eq_1,@e_eqp.eq_1,@e_eqs.eq_1,@e_eqagg.eq_1,@e_conv.eq_1,@e_faddr.eq_1,@e_field.eq_1,@e_extract.eq_1,@e_call.eq_1,@e_mx.eq_1,@repl_0,@repl_1,@repl_2,@repl_3,@repl_4,@repl_5,@repl_6⟩
theorem gives_has (hS:NoS S) (l:SlOf 1 intc) (n:Int):Gives Ftab S 25 [l.v,iv n] (.bool (l.l.contains n)):=by
 refine zq (i:=i25) (k:=1) (hS _ _ (by decide) (by decide) (by decide) (by decide)) rfl rfl zk (l.l.length+2) (by omega) fun m hm d out=>?_
 simp only [i25,W0,sevalprocAttr]
 refine zb (fun j st=>∃ i,j=l.l.length - i/\i<=l.l.length/\(l.l.take i).contains n=false/\∃ a2 a3 a6 a7 a8 a9 a10 a11 a12 a13 a14 a15 a16 a17,st=⟨[l.v,iv n,a2,a3,.bool false,iv i,a6,a7,a8,a9,a10,a11,a12,a13,a14,a15,a16,a17],[]⟩) l.l.length (by omega) ⟨0,by omega,by omega,by simp,_,_,_,_,_,_,_,_,_,_,_,_,_,_,rfl⟩ ?_
 rintro j st K ⟨i,rfl,hi,hc,a2,a3,a6,a7,a8,a9,a10,a11,a12,a13,a14,a15,a16,a17,rfl⟩ hn he hr
 by_cases h:i<l.l.length
 ·have hx:l.l[i]?=some l.l[i]:=zce h
  generalize l.l[i]=x at hx
  have hrd:rdN (l.l.flatMap intc) (i*1) 1=some [iv x]:=zc zj 0 1 hx (by omega)
  have hw:wrapI .i64 ((i:Int)+1)=((i+1:Nat):Int):=zH (by have:=l.few; omega)
  cases hb:x==n
  ·simp only [W0,sevalprocAttr,h,za l h,hrd,hb,hw]
   refine hn _ (l.l.length - (i+1)) (by omega) ⟨i+1,rfl,by omega,?_,_,_,_,_,_,_,_,_,_,_,_,_,_,_,rfl⟩
   rw [zdv,hx,zd2,YD,hc,hb]
   rfl
  ·simp only [W0,sevalprocAttr,h,za l h,hrd,hb]
   refine hr _ ?_
   simp only [W0,sevalprocAttr]
   rw [zab hx hb]
 ·simp only [W0,sevalprocAttr,h]
  refine he _ _ ?_
  simp only [W0,sevalprocAttr]
  rw [← hc,zcm (by omega)]
end
end
section
section
variable {S:ySM}
theorem gives_index (hS:NoS S) (l:SlOf 1 intc) (n:Int):∃ r:Int,Gives Ftab S 55 [l.v,iv n] (iv r)/\decide (r≥0)=l.l.contains n:=by
 have key:∀ r:Int,(∀ i:Nat,(i<l.l.length->(l.l.take i).contains n=false->∀ x,l.l[i]?=some x->(n==x)=true->r=i))->(l.l.contains n=false->r=-1)->Gives Ftab S 55 [l.v,iv n] (iv r):=by
  intro r h1 h2
  refine zq (i:=i55) (k:=1) (ns hS (by rfl)) rfl rfl zw (l.l.length+2) (by omega) fun m hm d out=>?_
  simp only [i55,W0,sevalprocAttr]
  refine zb (fun j st=>∃ i,j=l.l.length - i/\i<=l.l.length/\(l.l.take i).contains n=false/\∃ a2 a3 a4 a5 a9 a10 a11 a12 a13 a14 a15 a16 a17 a18,st=⟨[l.v,iv n,a2,a3,a4,a5,l.v,iv (l.l.length:Nat),iv i,a9,a10,a11,a12,a13,a14,a15,a16,a17,a18],[]⟩) l.l.length (by omega) ⟨0,by omega,by omega,by simp,_,_,_,_,_,_,_,_,_,_,_,_,_,_,rfl⟩ ?_
  rintro j st K ⟨i,rfl,hi,hc,a2,a3,a4,a5,a9,a10,a11,a12,a13,a14,a15,a16,a17,a18,rfl⟩ hn he hr
  by_cases h:i<l.l.length
  ·have hx:l.l[i]?=some l.l[i]:=zce h
   generalize l.l[i]=x at hx
   have hrd:rdN (l.l.flatMap intc) (i*1) 1=some [iv x]:=zc zj 0 1 hx (by omega)
   have hw:wrapI .i64 ((i:Int)+1)=((i+1:Nat):Int):=zH (by have:=l.few; omega)
   cases hb:n==x
   ·simp only [W0,sevalprocAttr,h,za l h,hrd,hb,hw]
    refine hn _ (l.l.length - (i+1)) (by omega) ⟨i+1,rfl,by omega,?_,_,_,_,_,_,_,_,_,_,_,_,_,_,_,rfl⟩
    rw [zdv,hx,zd2,YD,hc,Bool.beq_comm,hb]
    rfl
   ·simp only [W0,sevalprocAttr,h,za l h,hrd,hb]
    refine hr _ ?_
    simp only [W0,sevalprocAttr]
    rw [h1 i h hc x hx hb]
  ·simp only [W0,sevalprocAttr,h]
   refine he _ _ ?_
   simp only [W0,sevalprocAttr]
   rw [h2 (by rw [← hc,zcm (by omega)])]
 cases hc:l.l.contains n
 ·refine ⟨-1,key _ (fun i hi _ x hx hb=>?_) (fun _=>rfl),by simp⟩
  rw [zab hx (by rw [Bool.beq_comm]; exact hb)] at hc
  simp at hc
 ·have hm:n∈l.l:=List.contains_iff_mem.1 hc
  refine ⟨(l.l.idxOf n:Nat),key _ (fun i hi ht x hx hb=>?_) (fun h=>by rw [h] at hc; simp at hc),by simp⟩
  have hxn:n=x:=by simpa using hb
  subst hxn
  have h1:l.l=l.l.take i++n::l.l.drop (i+1):=by
   conv=>lhs; rw [← List.take_append_drop i l.l]
   congr 1
   rw [List.drop_eq_getElem_cons hi]
   congr 1
   have:=zce hi
   rw [hx] at this
   exact (zdj this).symm
  have h2:n ∉ l.l.take i:=fun h=>by rw [List.contains_iff_mem.2 h] at ht; simp at ht
  rw [h1,List.idxOf_append,if_neg h2,List.idxOf_cons_self,zd5,zde,Nat.min_eq_left (by omega)]
theorem ZM (hS:NoS S) (l:SlOf 1 intc) (n:Int):Gives Ftab S 19 [l.v,iv n] (.bool (l.l.contains n)):=by
 obtain ⟨r,⟨N,hN⟩,hr⟩:=gives_index hS l n
 refine zq (i:=i19) (k:=1) (ns hS (by rfl)) rfl rfl zk (N+1) (by omega) fun m hm d out=>?_
 have hcall:=hN m (by omega)
 simp only [zo] at hcall
 simp only [i19,W0,sevalprocAttr,hcall]
 rw [hr]
end
end
section
def shapeI (k:Int):Int:=bif k==1||k==2||k==8 then 1 else bif k==3||k==4 then 2 else bif k==5||k==6||k==7 then 3 else 0
theorem intc_fz:∀ a,∀ x∈intc a,Fz 1 x:=fun a x hx=>by
 simp only [intc,List.mem_singleton] at hx
 subst hx
 exact zw
theorem Yh:∀ a:Pt,∀ x∈a.c,Fz 1 x:=fun a x hx=>by
 simp only [Pt.c,zdn,zdx,or_false] at hx
 rcases hx with rfl | rfl <;> exact zw
section
variable {C:Call} {d:Nat} {out:yLM} {n0:Nat} {own ownV:yLO} {t:List IV}
noncomputable def appV (d n0:Nat) (lk:Nat->Nat->Option IObj) (own:yLO) (sz:Nat) (s:IV) (slot:Nat) (r:Option (List IV × Nat)):Res:=match r with
 | some (new,n)=>appendI d n0 lk own sz s new n slot
 | none=>none
theorem zB {z:List IV} {sz:Nat} {s x:Opd} {slot:Nat}:e_append d out n0 ownV own t z sz false s x slot=appV d n0 (look d out ownV) own sz (ρ t s) slot (cellsI (look d out ownV) sz (ρ t x)):=zcw rfl rfl
theorem zJ {lk:Nat->Nat->Option IObj} {sz slot n:Nat} {s:IV} {new:List IV}:appV d n0 lk own sz s slot (some (new,n))=appendI d n0 lk own sz s new n slot:=zcw rfl rfl
theorem zap {lk:Nat->Nat->Option IObj} {sz slot n:Nat} {new:List IV} (h:n≠0) (hb:0+n<=1073741824):appendI d n0 lk own sz (.slC [] 0 sz true) new n slot=mkAt own (n0+slot) (.cells new) (.slM d (n0+slot) 0 n n sz false):=by
 unfold appendI
 rw [if_neg h]
 simp only
 rw [if_pos ⟨by unfold bound; omega,trivial⟩]
 simp [seg,zf]
theorem eqs_tt:(false != true)=true:=zcw rfl rfl
theorem zbm:(false != false)=false:=zcw rfl rfl
end
section
variable {S:ySM}
theorem YE (hS:NoS S) (k:Int):Gives Ftab S 22 [iv k] (iv (shapeI k)):=by
 refine zq (i:=i22) (k:=1) (ns hS (by rfl)) rfl rfl zw 1 (by omega) fun m hm d out=>?_
 cases h1:k==1
 rotate_left
 ·simp only [i22,W0,sevalprocAttr,h1]
  simp only [shapeI,h1,W0,sevalprocAttr]
  rfl
 cases h2:k==2
 rotate_left
 ·simp only [i22,W0,sevalprocAttr,h1,h2]
  simp only [shapeI,h1,h2,W0,sevalprocAttr]
  rfl
 cases h8:k==8
 rotate_left
 ·simp only [i22,W0,sevalprocAttr,h1,h2,h8]
  simp only [shapeI,h1,h2,h8,W0,sevalprocAttr]
  rfl
 cases h3:k==3
 rotate_left
 ·simp only [i22,W0,sevalprocAttr,h1,h2,h8,h3]
  simp only [shapeI,h1,h2,h8,h3,W0,sevalprocAttr]
  rfl
 cases h4:k==4
 rotate_left
 ·simp only [i22,W0,sevalprocAttr,h1,h2,h8,h3,h4]
  simp only [shapeI,h1,h2,h8,h3,h4,W0,sevalprocAttr]
  rfl
 cases h5:k==5
 rotate_left
 ·simp only [i22,W0,sevalprocAttr,h1,h2,h8,h3,h4,h5]
  simp only [shapeI,h1,h2,h8,h3,h4,h5,W0,sevalprocAttr]
  rfl
 cases h6:k==6
 rotate_left
 ·simp only [i22,W0,sevalprocAttr,h1,h2,h8,h3,h4,h5,h6]
  simp only [shapeI,h1,h2,h8,h3,h4,h5,h6,W0,sevalprocAttr]
  rfl
 cases h7:k==7
 rotate_left
 ·simp only [i22,W0,sevalprocAttr,h1,h2,h8,h3,h4,h5,h6,h7]
  simp only [shapeI,h1,h2,h8,h3,h4,h5,h6,h7,W0,sevalprocAttr]
  rfl
 ·simp only [i22,W0,sevalprocAttr,h1,h2,h8,h3,h4,h5,h6,h7]
  simp only [shapeI,h1,h2,h8,h3,h4,h5,h6,h7,W0,sevalprocAttr]
  rfl
theorem gives_cloneI (hS:NoS S) (q:SlOf 1 intc) (hq:q.l.length<=1073741824):∃ q':SlOf 1 intc,q'.l=q.l/\Gives Ftab S 36 [q.v] q'.v:=by
 obtain ⟨l,v,ok,few⟩:=q
 dsimp only at hq ⊢
 have key:∀ (cs:List IV) (n:Nat),Sl 1 cs n v->cs=l.flatMap intc->n=l.length->∃ q':SlOf 1 intc,q'.l=l/\Gives Ftab S 36 [v] q'.v:=by
  intro cs n h hcs hn
  cases h with
  | nil =>
   have hl:l=[]:=zda.1 hn.symm
   refine ⟨⟨[],.nilsl,.nil,by simp⟩,hl.symm,?_⟩
   refine zq (i:=i36) (k:=1) (ns hS (by rfl)) rfl rfl ZL 1 (by omega) fun m hm d out=>?_
   simp only [i36,W0,sevalprocAttr,eqsI,eqs_tt]
  | row _ _ tight h =>
   subst hcs hn
   by_cases h0:l.length=0
   ·have hl:l=[]:=zda.1 h0
    subst hl
    refine ⟨⟨[],.slC [] 0 1 true,.row _ _ _ rfl,by simp⟩,rfl,?_⟩
    refine zq (i:=i36) (k:=1+1) (ns hS (by rfl)) rfl rfl (fz_slC fun x hx=>by simp at hx) 2 (by omega) fun m hm d out=>?_
    have hc:cellsI (fun l i=>if l=d then (([]++[IObj.free]:yLO))[i]? else if l<d then (out l)[i]? else none) 1 (IV.slC [] 0 1 tight)=some ([],0):=by
     simp [cellsI,seg,zf]
    simp only [i36,W0,sevalprocAttr,eqsI,zbm,zp,zB,appendI,rep,zec,zc7]
    simp only [cellsI,seg,zf,zdl,Nat.add_zero,zc7,zcs,if_true,List.drop_zero,List.take_zero,zck,zJ,appendI,W0,sevalprocAttr]
   ·refine ⟨⟨l,.slC (l.flatMap intc) l.length 1 (false&&true),.row _ _ _ h,few⟩,rfl,?_⟩
    refine yT (i:=i36) (ns hS (by rfl)) rfl rfl 3 fun m hm d out=>?_
    have hc:∀ lk,cellsI lk 1 (IV.slC (l.flatMap intc) l.length 1 tight)=some (l.flatMap intc,l.length):=fun lk=>zC ⟨l,_,.row _ _ tight h,few⟩
    simp only [i36,W0,sevalprocAttr,eqsI,zbm,zp,zB,rep,hc,zJ]
    simp only [zap h0 (show 0+l.length<=1073741824 by omega),W0,sevalprocAttr]
    refine ⟨_,rfl,?_⟩
    exact yl (k:=1) intc_fz (by omega) rfl zj rfl
 exact key _ _ ok rfl rfl
theorem gives_cloneP (hS:NoS S) (q:SlOf 2 Pt.c) (hq:q.l.length<=1073741824):∃ q':SlOf 2 Pt.c,q'.l=q.l/\Gives Ftab S 95 [q.v] q'.v:=by
 obtain ⟨l,v,ok,few⟩:=q
 dsimp only at hq ⊢
 have key:∀ (cs:List IV) (n:Nat),Sl 2 cs n v->cs=l.flatMap Pt.c->n=l.length->∃ q':SlOf 2 Pt.c,q'.l=l/\Gives Ftab S 95 [v] q'.v:=by
  intro cs n h hcs hn
  cases h with
  | nil =>
   have hl:l=[]:=zda.1 hn.symm
   refine ⟨⟨[],.nilsl,.nil,by simp⟩,hl.symm,?_⟩
   refine zq (i:=i95) (k:=1) (ns hS (by rfl)) rfl rfl ZL 1 (by omega) fun m hm d out=>?_
   simp only [i95,W0,sevalprocAttr,eqsI,eqs_tt]
  | row _ _ tight h =>
   subst hcs hn
   by_cases h0:l.length=0
   ·have hl:l=[]:=zda.1 h0
    subst hl
    refine ⟨⟨[],.slC [] 0 2 true,.row _ _ _ rfl,by simp⟩,rfl,?_⟩
    refine zq (i:=i95) (k:=1+1) (ns hS (by rfl)) rfl rfl (fz_slC fun x hx=>by simp at hx) 2 (by omega) fun m hm d out=>?_
    have hc:cellsI (fun l i=>if l=d then (([]++[IObj.free]:yLO))[i]? else if l<d then (out l)[i]? else none) 2 (IV.slC [] 0 2 tight)=some ([],0):=by
     simp [cellsI,seg,zf]
    simp only [i95,W0,sevalprocAttr,eqsI,zbm,zp,zB,appendI,rep,zec,zc7]
    simp only [cellsI,seg,zf,zdl,Nat.add_zero,zc7,zcs,if_true,List.drop_zero,List.take_zero,zck,zJ,appendI,W0,sevalprocAttr]
   ·refine ⟨⟨l,.slC (l.flatMap Pt.c) l.length 2 (false&&true),.row _ _ _ h,few⟩,rfl,?_⟩
    refine yT (i:=i95) (ns hS (by rfl)) rfl rfl 3 fun m hm d out=>?_
    have hc:∀ lk,cellsI lk 2 (IV.slC (l.flatMap Pt.c) l.length 2 tight)=some (l.flatMap Pt.c,l.length):=fun lk=>zC ⟨l,_,.row _ _ tight h,few⟩
    simp only [i95,W0,sevalprocAttr,eqsI,zbm,zp,zB,rep,hc,zJ]
    simp only [zap h0 (show 0+l.length<=1073741824 by omega),W0,sevalprocAttr]
    refine ⟨_,rfl,?_⟩
    exact yl (k:=1) Yh (by omega) rfl Pt.c_len rfl
 exact key _ _ ok rfl rfl
end
end
section
theorem zZ {α:Type} {p:α->Bool} {l:List α} {i:Nat} {x:α} (h:(l.take i).find? p=none) (hx:l[i]?=some x) (hp:p x=true):l.find? p=some x:=by
 have hi:=(zcf.1 hx).1
 have h1:l=l.take i++x::l.drop (i+1):=by
  conv=>lhs; rw [← List.take_append_drop i l]
  congr 1
  rw [List.drop_eq_getElem_cons hi]
  congr 1
  rw [zce hi] at hx
  exact zdj hx
 rw [h1,List.find?_append,h,Option.none_or,List.find?_cons,hp]
theorem zR {α:Type} {p:α->Bool} {l:List α} {i:Nat} {x:α} (h:(l.take i).find? p=none) (hx:l[i]?=some x) (hp:p x=false):(l.take (i+1)).find? p=none:=by
 rw [zdv,hx,zd2,List.find?_append,h,Option.none_or,List.find?_cons,hp]
 rfl
theorem z6 {α:Type} {p:α->Bool} {l:List α} {i:Nat} (h:(l.take i).find? p=none) (hi:¬ i<l.length):l.find? p=none:=by
 rwa [zcm (by omega)] at h
def nilS (sz:Nat) {α:Type} (g:α->List IV):SlOf sz g:=⟨[],.nilsl,.nil,by simp⟩
def zFt:Ft:=⟨0,0,0,⟨bs [],by decide⟩,nilS 1 intc⟩
def zAc:Ac:=⟨0,0,0,nilS 2 Pt.c,0,0⟩
def zNd:Nd:=⟨0,⟨0,0⟩⟩
theorem y6:zFt.c=[.int .i64 0,.int .i64 0,.int .i64 0,.str (bs []),.nilsl]:=rfl
theorem y7:zAc.c=[.int .i64 0,.int .i64 0,.int .i64 0,.nilsl,.int .i64 0,.int .i64 0]:=rfl
theorem ZG:zNd.c=[.int .i64 0,.int .i64 0,.int .i64 0]:=rfl
section
variable {S:ySM}
theorem Z0 {α:Type} {g:α->List IV} {sz:Nat} (hg:∀ a,∀ x∈g a,Fz 1 x) (q:SlOf sz g):Fz (1+1+1) q.v:=by
 obtain ⟨l,v,ok,few⟩:=q
 have key:∀ (cs:List IV) (n:Nat) (v:IV),Sl sz cs n v->cs=l.flatMap g->Fz (1+1+1) v:=fun cs n v h hcs=>by
  cases h with
  | nil=>exact ZL.le (by omega)
  | row _ _ tight h=>subst hcs; exact (sl_fz (k:=1) hg).le (by omega)
 exact key _ _ _ ok rfl
theorem ZN:Fz (1+1+1) (.tuple [.agg ({ (none:Option Ft).getD zFt with parts:=nilS _ _ }:Ft).c,.bool (none:Option Ft).isSome]):=fun m hm lv own=>by
 obtain ⟨m,rfl⟩:∃ q,m=q+3:=⟨m - 3,by omega⟩
 rfl
theorem zbn (f0:Ft) (q:SlOf 1 intc):Fz (1+1+1+1+1) (.tuple [.agg ({ (some f0).getD zFt with parts:=q }:Ft).c,.bool (some f0).isSome]):=by
 refine zbf fun x hx=>?_
 simp only [zdn,zdx,or_false] at hx
 rcases hx with rfl | rfl
 ·refine fz_agg fun x hx=>?_
  simp only [Ft.c,zdn,zdx,or_false,Option.getD_some] at hx
  rcases hx with rfl | rfl | rfl | rfl | rfl
  all_goals first | exact zw.le (by omega) | exact fz_str.le (by omega) | exact Z0 intc_fz q
 ·exact zk.le (by omega)
theorem zbo (hS:NoS S) (s:Sv) (id:Int) (hsm:∀ f∈s.ft.l,f.parts.l.length<=1073741824):∃ q',q'.l=((s.ft.l.find? fun f=>f.id==id).getD zFt).parts.l /\
  Gives Ftab S 13 [.agg s.c,iv id] (.tuple [.agg ({ (s.ft.l.find? fun f=>f.id==id).getD zFt with parts:=q' }:Ft).c,.bool (s.ft.l.find? fun f=>f.id==id).isSome]):=by
 cases hf:s.ft.l.find? fun f=>f.id==id with
 | none =>
  refine ⟨nilS _ _,rfl,?_⟩
  refine zq (i:=i13) (k:=1+1+1) (ns hS (by rfl)) rfl rfl ZN (s.ft.l.length+5) (by omega) fun m hm d out=>?_
  simp only [i13,W0,sevalprocAttr,Sv.c]
  refine zb (fun j st=>∃ i,j=s.ft.l.length - i/\i<=s.ft.l.length/\((s.ft.l.take i).find? fun f=>f.id==id)=none/\∃ J a3 a6 a7 a8 a12 a13 a14 a15 a16 a17 a18 a19 a20 a21 a22 a23 a24 a25,st=⟨[.agg s.c,iv id,.ptrM d 0 0,a3,.ptrM d 1 0,.bool false,a6,a7,a8,s.ft.v,iv (s.ft.l.length:Nat),iv i,a12,a13,a14,a15,a16,a17,a18,a19,a20,a21,a22,a23,a24,a25],.cells [s.pl.ns.v,s.pl.as.v,s.pl.fs.v,s.ft.v]::.cells zFt.c::J⟩) s.ft.l.length (by omega) ⟨0,by omega,by omega,by simp,[],_,_,_,_,_,_,_,_,_,_,_,_,_,_,_,_,_,_,rfl⟩ ?_
  rintro j st K ⟨i,rfl,hi,hc,J,a3,a6,a7,a8,a12,a13,a14,a15,a16,a17,a18,a19,a20,a21,a22,a23,a24,a25,rfl⟩ hn he hr
  by_cases h:i<s.ft.l.length
  ·have hx:s.ft.l[i]?=some s.ft.l[i]:=zce h
   generalize s.ft.l[i]=x at hx
   have hrd:rdN (s.ft.l.flatMap Ft.c) (i*5) 5=some x.c:=(zc Ft.c_len 0 5 hx (by omega)).trans rfl
   have hw:wrapI .i64 ((i:Int)+1)=((i+1:Nat):Int):=zH (by have:=s.ft.few; omega)
   cases hb:x.id==id
   ·simp only [W0,sevalprocAttr,h,za s.ft h,hrd,hb,hw,Ft.c,y6]
    refine hn _ (s.ft.l.length - (i+1)) (by omega) ⟨i+1,rfl,by omega,zR hc hx hb,_,_,_,_,_,_,_,_,_,_,_,_,_,_,_,_,_,_,_,rfl⟩
   ·have hxf:=zZ (p:=fun f=>f.id==id) hc hx hb
    rw [hf] at hxf
    simp at hxf
  ·have hxf:=z6 hc h
   rw [hf] at hxf
   simp only [W0,sevalprocAttr,h,y6]
   refine he _ _ ?_
   simp only [W0,sevalprocAttr,y6]
   rfl
 | some f0 =>
  obtain ⟨q',hq,N,hN⟩:=gives_cloneI hS f0.parts (hsm f0 (List.mem_of_find?_eq_some hf))
  refine ⟨q',hq,?_⟩
  refine zq (i:=i13) (k:=1+1+1+1+1) (ns hS (by rfl)) rfl rfl (zbn f0 q') (N+s.ft.l.length+8) (by omega) fun m hm d out=>?_
  have hcall:=hN m (by omega)
  simp only [i13,W0,sevalprocAttr,Sv.c]
  refine zb (fun j st=>∃ i,j=s.ft.l.length - i/\i<=s.ft.l.length/\((s.ft.l.take i).find? fun f=>f.id==id)=none/\∃ J a3 a6 a7 a8 a12 a13 a14 a15 a16 a17 a18 a19 a20 a21 a22 a23 a24 a25,st=⟨[.agg s.c,iv id,.ptrM d 0 0,a3,.ptrM d 1 0,.bool false,a6,a7,a8,s.ft.v,iv (s.ft.l.length:Nat),iv i,a12,a13,a14,a15,a16,a17,a18,a19,a20,a21,a22,a23,a24,a25],.cells [s.pl.ns.v,s.pl.as.v,s.pl.fs.v,s.ft.v]::.cells zFt.c::J⟩) s.ft.l.length (by omega) ⟨0,by omega,by omega,by simp,[],_,_,_,_,_,_,_,_,_,_,_,_,_,_,_,_,_,_,rfl⟩ ?_
  rintro j st K ⟨i,rfl,hi,hc,J,a3,a6,a7,a8,a12,a13,a14,a15,a16,a17,a18,a19,a20,a21,a22,a23,a24,a25,rfl⟩ hn he hr
  by_cases h:i<s.ft.l.length
  ·have hx:s.ft.l[i]?=some s.ft.l[i]:=zce h
   generalize s.ft.l[i]=x at hx
   have hrd:rdN (s.ft.l.flatMap Ft.c) (i*5) 5=some x.c:=(zc Ft.c_len 0 5 hx (by omega)).trans rfl
   have hw:wrapI .i64 ((i:Int)+1)=((i+1:Nat):Int):=zH (by have:=s.ft.few; omega)
   cases hb:x.id==id
   ·simp only [W0,sevalprocAttr,h,za s.ft h,hrd,hb,hw,Ft.c,y6]
    refine hn _ (s.ft.l.length - (i+1)) (by omega) ⟨i+1,rfl,by omega,zR hc hx hb,_,_,_,_,_,_,_,_,_,_,_,_,_,_,_,_,_,_,_,rfl⟩
   ·have hxf:=zZ (p:=fun f=>f.id==id) hc hx hb
    rw [hf] at hxf
    obtain rfl:=zdj hxf
    simp only [W0,sevalprocAttr,h,za s.ft h,hrd,hb,Ft.c,y6,hcall]
    refine hr _ ?_
    simp only [W0,sevalprocAttr,y6,hcall]
    rfl
  ·have hxf:=z6 hc h
   rw [hf] at hxf
   simp at hxf
theorem Yd:Fz (1+1+1) (.tuple [.agg ({ (none:Option Ac).getD zAc with via:=nilS _ _ }:Ac).c,.bool (none:Option Ac).isSome]):=fun m hm lv own=>by
 obtain ⟨m,rfl⟩:∃ q,m=q+3:=⟨m - 3,by omega⟩
 rfl
theorem gives_arc_fz1 (f0:Ac) (q:SlOf 2 Pt.c):Fz (1+1+1+1+1) (.tuple [.agg ({ (some f0).getD zAc with via:=q }:Ac).c,.bool (some f0).isSome]):=by
 refine zbf fun x hx=>?_
 simp only [zdn,zdx,or_false] at hx
 rcases hx with rfl | rfl
 ·refine fz_agg fun x hx=>?_
  simp only [Ac.c,zdn,zdx,or_false,Option.getD_some] at hx
  rcases hx with rfl | rfl | rfl | rfl | rfl | rfl
  all_goals first | exact zw.le (by omega) | exact fz_str.le (by omega) | exact Z0 Yh q
 ·exact zk.le (by omega)
theorem gives_arc (hS:NoS S) (p:Pn) (id:Int) (hsm:∀ f∈p.as.l,f.via.l.length<=1073741824):∃ q',q'.l=((p.as.l.find? fun f=>f.id==id).getD zAc).via.l /\
  Gives Ftab S 56 [.agg p.c,iv id] (.tuple [.agg ({ (p.as.l.find? fun f=>f.id==id).getD zAc with via:=q' }:Ac).c,.bool (p.as.l.find? fun f=>f.id==id).isSome]):=by
 cases hf:p.as.l.find? fun f=>f.id==id with
 | none =>
  refine ⟨nilS _ _,rfl,?_⟩
  refine zq (i:=i56) (k:=1+1+1) (ns hS (by rfl)) rfl rfl Yd (p.as.l.length+5) (by omega) fun m hm d out=>?_
  simp only [i56,W0,sevalprocAttr,Pn.c]
  refine zb (fun j st=>∃ i,j=p.as.l.length - i/\i<=p.as.l.length/\((p.as.l.take i).find? fun f=>f.id==id)=none/\∃ J a3 a6 a7 a8 a12 a13 a14 a15 a16 a17 a18 a19 a20 a21 a22 a23 a24 a25,st=⟨[.agg p.c,iv id,.ptrM d 0 0,a3,.ptrM d 1 0,.bool false,a6,a7,a8,p.as.v,iv (p.as.l.length:Nat),iv i,a12,a13,a14,a15,a16,a17,a18,a19,a20,a21,a22,a23,a24,a25],.cells [p.ns.v,p.as.v,p.fs.v]::.cells zAc.c::J⟩) p.as.l.length (by omega) ⟨0,by omega,by omega,by simp,[],_,_,_,_,_,_,_,_,_,_,_,_,_,_,_,_,_,_,rfl⟩ ?_
  rintro j st K ⟨i,rfl,hi,hc,J,a3,a6,a7,a8,a12,a13,a14,a15,a16,a17,a18,a19,a20,a21,a22,a23,a24,a25,rfl⟩ hn he hr
  by_cases h:i<p.as.l.length
  ·have hx:p.as.l[i]?=some p.as.l[i]:=zce h
   generalize p.as.l[i]=x at hx
   have hrd:rdN (p.as.l.flatMap Ac.c) (i*6) 6=some x.c:=(zc Ac.c_len 0 6 hx (by omega)).trans rfl
   have hw:wrapI .i64 ((i:Int)+1)=((i+1:Nat):Int):=zH (by have:=p.as.few; omega)
   cases hb:x.id==id
   ·simp only [W0,sevalprocAttr,h,za p.as h,hrd,hb,hw,Ac.c,y7]
    refine hn _ (p.as.l.length - (i+1)) (by omega) ⟨i+1,rfl,by omega,zR hc hx hb,_,_,_,_,_,_,_,_,_,_,_,_,_,_,_,_,_,_,_,rfl⟩
   ·have hxf:=zZ (p:=fun f=>f.id==id) hc hx hb
    rw [hf] at hxf
    simp at hxf
  ·have hxf:=z6 hc h
   rw [hf] at hxf
   simp only [W0,sevalprocAttr,h,y7]
   refine he _ _ ?_
   simp only [W0,sevalprocAttr,y7]
   rfl
 | some f0 =>
  obtain ⟨q',hq,N,hN⟩:=gives_cloneP hS f0.via (hsm f0 (List.mem_of_find?_eq_some hf))
  refine ⟨q',hq,?_⟩
  refine zq (i:=i56) (k:=1+1+1+1+1) (ns hS (by rfl)) rfl rfl (gives_arc_fz1 f0 q') (N+p.as.l.length+8) (by omega) fun m hm d out=>?_
  have hcall:=hN m (by omega)
  simp only [i56,W0,sevalprocAttr,Pn.c]
  refine zb (fun j st=>∃ i,j=p.as.l.length - i/\i<=p.as.l.length/\((p.as.l.take i).find? fun f=>f.id==id)=none/\∃ J a3 a6 a7 a8 a12 a13 a14 a15 a16 a17 a18 a19 a20 a21 a22 a23 a24 a25,st=⟨[.agg p.c,iv id,.ptrM d 0 0,a3,.ptrM d 1 0,.bool false,a6,a7,a8,p.as.v,iv (p.as.l.length:Nat),iv i,a12,a13,a14,a15,a16,a17,a18,a19,a20,a21,a22,a23,a24,a25],.cells [p.ns.v,p.as.v,p.fs.v]::.cells zAc.c::J⟩) p.as.l.length (by omega) ⟨0,by omega,by omega,by simp,[],_,_,_,_,_,_,_,_,_,_,_,_,_,_,_,_,_,_,rfl⟩ ?_
  rintro j st K ⟨i,rfl,hi,hc,J,a3,a6,a7,a8,a12,a13,a14,a15,a16,a17,a18,a19,a20,a21,a22,a23,a24,a25,rfl⟩ hn he hr
  by_cases h:i<p.as.l.length
  ·have hx:p.as.l[i]?=some p.as.l[i]:=zce h
   generalize p.as.l[i]=x at hx
   have hrd:rdN (p.as.l.flatMap Ac.c) (i*6) 6=some x.c:=(zc Ac.c_len 0 6 hx (by omega)).trans rfl
   have hw:wrapI .i64 ((i:Int)+1)=((i+1:Nat):Int):=zH (by have:=p.as.few; omega)
   cases hb:x.id==id
   ·simp only [W0,sevalprocAttr,h,za p.as h,hrd,hb,hw,Ac.c,y7]
    refine hn _ (p.as.l.length - (i+1)) (by omega) ⟨i+1,rfl,by omega,zR hc hx hb,_,_,_,_,_,_,_,_,_,_,_,_,_,_,_,_,_,_,_,rfl⟩
   ·have hxf:=zZ (p:=fun f=>f.id==id) hc hx hb
    rw [hf] at hxf
    obtain rfl:=zdj hxf
    simp only [W0,sevalprocAttr,h,za p.as h,hrd,hb,Ac.c,y7,hcall]
    refine hr _ ?_
    simp only [W0,sevalprocAttr,y7,hcall]
    rfl
  ·have hxf:=z6 hc h
   rw [hf] at hxf
   simp at hxf
theorem ZO (f0:Nd):Fz (1+1+1) (.tuple [.agg ((some f0).getD zNd).c,.bool (some f0).isSome]):=fun m hm lv own=>by
 obtain ⟨m,rfl⟩:∃ q,m=q+3:=⟨m - 3,by omega⟩
 rfl
theorem ZP:Fz (1+1+1) (.tuple [.agg ((none:Option Nd).getD zNd).c,.bool (none:Option Nd).isSome]):=fun m hm lv own=>by
 obtain ⟨m,rfl⟩:∃ q,m=q+3:=⟨m - 3,by omega⟩
 rfl
theorem zbp (hS:NoS S) (p:Pn) (id:Int):Gives Ftab S 34 [.agg p.c,iv id] (.tuple [.agg ((p.ns.l.find? fun f=>f.id==id).getD zNd).c,.bool (p.ns.l.find? fun f=>f.id==id).isSome]):=by
 cases hf:p.ns.l.find? fun f=>f.id==id with
 | none =>
  refine zq (i:=i34) (k:=1+1+1) (ns hS (by rfl)) rfl rfl ZP (p.ns.l.length+5) (by omega) fun m hm d out=>?_
  simp only [i34,W0,sevalprocAttr,Pn.c]
  refine zb (fun j st=>∃ i,j=p.ns.l.length - i/\i<=p.ns.l.length/\((p.ns.l.take i).find? fun f=>f.id==id)=none/\∃ J a3 a6 a7 a8 a12 a13 a14 a15 a16 a17 a18 a19 a20 a21,st=⟨[.agg p.c,iv id,.ptrM d 0 0,a3,.ptrM d 1 0,.bool false,a6,a7,a8,p.ns.v,iv (p.ns.l.length:Nat),iv i,a12,a13,a14,a15,a16,a17,a18,a19,a20,a21],.cells [p.ns.v,p.as.v,p.fs.v]::.cells zNd.c::J⟩) p.ns.l.length (by omega) ⟨0,by omega,by omega,by simp,[],_,_,_,_,_,_,_,_,_,_,_,_,_,_,rfl⟩ ?_
  rintro j st K ⟨i,rfl,hi,hc,J,a3,a6,a7,a8,a12,a13,a14,a15,a16,a17,a18,a19,a20,a21,rfl⟩ hn he hr
  by_cases h:i<p.ns.l.length
  ·have hx:p.ns.l[i]?=some p.ns.l[i]:=zce h
   generalize p.ns.l[i]=x at hx
   have hrd:rdN (p.ns.l.flatMap Nd.c) (i*3) 3=some x.c:=(zc Nd.c_len 0 3 hx (by omega)).trans rfl
   have hw:wrapI .i64 ((i:Int)+1)=((i+1:Nat):Int):=zH (by have:=p.ns.few; omega)
   cases hb:x.id==id
   ·simp only [W0,sevalprocAttr,h,za p.ns h,hrd,hb,hw,Nd.c,ZG]
    refine hn _ (p.ns.l.length - (i+1)) (by omega) ⟨i+1,rfl,by omega,zR hc hx hb,_,_,_,_,_,_,_,_,_,_,_,_,_,_,_,rfl⟩
   ·have hxf:=zZ (p:=fun f=>f.id==id) hc hx hb
    rw [hf] at hxf
    simp at hxf
  ·have hxf:=z6 hc h
   rw [hf] at hxf
   simp only [W0,sevalprocAttr,h,ZG]
   refine he _ _ ?_
   simp only [W0,sevalprocAttr,ZG]
   rfl
 | some f0 =>
  refine zq (i:=i34) (k:=1+1+1) (ns hS (by rfl)) rfl rfl (ZO f0) (p.ns.l.length+8) (by omega) fun m hm d out=>?_
  simp only [i34,W0,sevalprocAttr,Pn.c]
  refine zb (fun j st=>∃ i,j=p.ns.l.length - i/\i<=p.ns.l.length/\((p.ns.l.take i).find? fun f=>f.id==id)=none/\∃ J a3 a6 a7 a8 a12 a13 a14 a15 a16 a17 a18 a19 a20 a21,st=⟨[.agg p.c,iv id,.ptrM d 0 0,a3,.ptrM d 1 0,.bool false,a6,a7,a8,p.ns.v,iv (p.ns.l.length:Nat),iv i,a12,a13,a14,a15,a16,a17,a18,a19,a20,a21],.cells [p.ns.v,p.as.v,p.fs.v]::.cells zNd.c::J⟩) p.ns.l.length (by omega) ⟨0,by omega,by omega,by simp,[],_,_,_,_,_,_,_,_,_,_,_,_,_,_,rfl⟩ ?_
  rintro j st K ⟨i,rfl,hi,hc,J,a3,a6,a7,a8,a12,a13,a14,a15,a16,a17,a18,a19,a20,a21,rfl⟩ hn he hr
  by_cases h:i<p.ns.l.length
  ·have hx:p.ns.l[i]?=some p.ns.l[i]:=zce h
   generalize p.ns.l[i]=x at hx
   have hrd:rdN (p.ns.l.flatMap Nd.c) (i*3) 3=some x.c:=(zc Nd.c_len 0 3 hx (by omega)).trans rfl
   have hw:wrapI .i64 ((i:Int)+1)=((i+1:Nat):Int):=zH (by have:=p.ns.few; omega)
   cases hb:x.id==id
   ·simp only [W0,sevalprocAttr,h,za p.ns h,hrd,hb,hw,Nd.c,ZG]
    refine hn _ (p.ns.l.length - (i+1)) (by omega) ⟨i+1,rfl,by omega,zR hc hx hb,_,_,_,_,_,_,_,_,_,_,_,_,_,_,_,rfl⟩
   ·have hxf:=zZ (p:=fun f=>f.id==id) hc hx hb
    rw [hf] at hxf
    obtain rfl:=zdj hxf
    simp only [W0,sevalprocAttr,h,za p.ns h,hrd,hb,Nd.c,ZG]
    refine hr _ ?_
    simp only [W0,sevalprocAttr,ZG]
    rfl
  ·have hxf:=z6 hc h
   rw [hf] at hxf
   simp at hxf
end
end
section
section
variable {d k n0:Nat} {lk:Nat->Nat->Option IObj} {own:yLO} {p p':IV}
theorem zbq {sz z len slot:Nat} {cs new:List IV} {tight:Bool}:appendI d n0 lk own sz (.slC cs len z tight) new 0 slot=some (.r,.slC cs len z tight,own):=by
 unfold appendI
 rw [if_pos rfl]
theorem ym {f:IV->Option IV} {x y:IV} {l l':List IV} (h:f x=some y) (h2:l.mapM f=some l'):(x::l).mapM f=some (y::l'):=by
 rw [zd8,h,h2]
 rfl
theorem zbr {f:IV->Option IV}:([]:List IV).mapM f=some []:=rfl
theorem ZB {cs cs':List IV} (h:cs.mapM (freeze k d own)=some cs'):freeze (k+1) d own (.tuple cs)=some (.tuple cs'):=by simp only [freeze,h,zck]
theorem zbs {cs cs':List IV} (h:cs.mapM (freeze k d own)=some cs'):freeze (k+1) d own (.agg cs)=some (.agg cs'):=by simp only [freeze,h,zck]
theorem freeze_ft {a b c:Int} {s:ByteArray} {t:Bool} (hp:freeze (k+1) d own p=some p'):freeze (k+1+1+1) d own (.tuple [.agg [.int .i64 a,.int .i64 b,.int .i64 c,.str s,p],.bool t])=some (.tuple [.agg [.int .i64 a,.int .i64 b,.int .i64 c,.str s,p'],.bool t]) :=
 ZB (ym (zbs (ym rfl (ym rfl (ym rfl (ym rfl (ym hp zbr)))))) (ym rfl zbr))
theorem freeze_ac {a b c e f:Int} {t:Bool} (hp:freeze (k+1) d own p=some p'):freeze (k+1+1+1) d own (.tuple [.agg [.int .i64 a,.int .i64 b,.int .i64 c,p,.int .i64 e,.int .i64 f],.bool t])=some (.tuple [.agg [.int .i64 a,.int .i64 b,.int .i64 c,p',.int .i64 e,.int .i64 f],.bool t]) :=
 ZB (ym (zbs (ym rfl (ym rfl (ym rfl (ym hp (ym rfl (ym rfl zbr))))))) (ym rfl zbr))
theorem zac {sz:Nat} {tight:Bool}:freeze (k+1) d own (.slC [] 0 sz tight)=some (.slC [] 0 sz tight):=by simp [freeze]
end
section
variable {S:ySM}
theorem zad (hS:NoS S) (s:Sv) (id:Int) (hsm:∀ f∈s.ft.l,f.parts.l.length<=1073741824):∃ q',q'.l=((s.ft.l.find? fun f=>f.id==id).getD zFt).parts.l /\
  Gives Ftab S 21 [.agg s.c,iv id] (.tuple [.agg ({ (s.ft.l.find? fun f=>f.id==id).getD zFt with parts:=q' }:Ft).c,.bool (s.ft.l.find? fun f=>f.id==id).isSome]):=by
 cases hf:s.ft.l.find? fun f=>f.id==id with
 | none =>
  refine ⟨nilS _ _,rfl,?_⟩
  refine zq (i:=i21) (k:=1+1+1) (ns hS (by rfl)) rfl rfl ZN (s.ft.l.length+5) (by omega) fun m hm d out=>?_
  simp only [i21,W0,sevalprocAttr,Sv.c]
  refine zb (fun j st=>∃ i,j=s.ft.l.length - i/\i<=s.ft.l.length/\((s.ft.l.take i).find? fun f=>f.id==id)=none/\∃ J a3 a7 a8 a9 a10 a11 a12 a13 a14 a15 a16 a17 a18 a19 a20 a21 a22 a23 a24 a25 a26 a27 a28 a29 a30 a31 a32 a33 a34,st=⟨[.agg s.c,iv id,.ptrM d 0 0,a3,.ptrM d 1 0,.bool false,iv i,a7,a8,a9,a10,a11,a12,a13,a14,a15,a16,a17,a18,a19,a20,a21,a22,a23,a24,a25,a26,a27,a28,a29,a30,a31,a32,a33,a34],.cells [s.pl.ns.v,s.pl.as.v,s.pl.fs.v,s.ft.v]::.cells zFt.c::J⟩) s.ft.l.length (by omega) ⟨0,by omega,by omega,by simp,[],_,_,_,_,_,_,_,_,_,_,_,_,_,_,_,_,_,_,_,_,_,_,_,_,_,_,_,_,_,rfl⟩ ?_
  rintro j st K ⟨i,rfl,hi,hc,J,a3,a7,a8,a9,a10,a11,a12,a13,a14,a15,a16,a17,a18,a19,a20,a21,a22,a23,a24,a25,a26,a27,a28,a29,a30,a31,a32,a33,a34,rfl⟩ hn he hr
  by_cases h:i<s.ft.l.length
  ·have hx:s.ft.l[i]?=some s.ft.l[i]:=zce h
   generalize s.ft.l[i]=x at hx
   have hrd:rdN (s.ft.l.flatMap Ft.c) (i*5) 5=some x.c:=(zc Ft.c_len 0 5 hx (by omega)).trans rfl
   have hrd1:rdN (s.ft.l.flatMap Ft.c) (i*5) 1=some [.int .i64 x.id]:=(zc Ft.c_len 0 1 hx (by omega)).trans rfl
   have hw:wrapI .i64 ((i:Int)+1)=((i+1:Nat):Int):=zH (by have:=s.ft.few; omega)
   cases hb:x.id==id
   ·simp only [W0,sevalprocAttr,h,za s.ft h,hrd1,hb,hw,Ft.c,y6]
    refine hn _ (s.ft.l.length - (i+1)) (by omega) ⟨i+1,rfl,by omega,zR hc hx hb,_,_,_,_,_,_,_,_,_,_,_,_,_,_,_,_,_,_,_,_,_,_,_,_,_,_,_,_,_,_,rfl⟩
   ·have hxf:=zZ (p:=fun f=>f.id==id) hc hx hb
    rw [hf] at hxf
    simp at hxf
  ·have hxf:=z6 hc h
   rw [hf] at hxf
   simp only [W0,sevalprocAttr,h,y6]
   refine he _ _ ?_
   simp only [W0,sevalprocAttr,y6]
   rfl
 | some f0 =>
  have hs0:=hsm f0 (List.mem_of_find?_eq_some hf)
  by_cases h0:f0.parts.l.length=0
  ·refine ⟨⟨[],.slC [] 0 1 true,.row _ _ _ rfl,by simp⟩,(zda.1 h0).symm,?_⟩
   refine yT (i:=i21) (ns hS (by rfl)) rfl rfl (s.ft.l.length+8) fun m hm d out=>?_
   simp only [i21,W0,sevalprocAttr,Sv.c]
   refine zb (fun j st=>∃ i,j=s.ft.l.length - i/\i<=s.ft.l.length/\((s.ft.l.take i).find? fun f=>f.id==id)=none/\∃ J a3 a7 a8 a9 a10 a11 a12 a13 a14 a15 a16 a17 a18 a19 a20 a21 a22 a23 a24 a25 a26 a27 a28 a29 a30 a31 a32 a33 a34,st=⟨[.agg s.c,iv id,.ptrM d 0 0,a3,.ptrM d 1 0,.bool false,iv i,a7,a8,a9,a10,a11,a12,a13,a14,a15,a16,a17,a18,a19,a20,a21,a22,a23,a24,a25,a26,a27,a28,a29,a30,a31,a32,a33,a34],.cells [s.pl.ns.v,s.pl.as.v,s.pl.fs.v,s.ft.v]::.cells zFt.c::J⟩) s.ft.l.length (by omega) ⟨0,by omega,by omega,by simp,[],_,_,_,_,_,_,_,_,_,_,_,_,_,_,_,_,_,_,_,_,_,_,_,_,_,_,_,_,_,rfl⟩ ?_
   rintro j st K ⟨i,rfl,hi,hc,J,a3,a7,a8,a9,a10,a11,a12,a13,a14,a15,a16,a17,a18,a19,a20,a21,a22,a23,a24,a25,a26,a27,a28,a29,a30,a31,a32,a33,a34,rfl⟩ hn he hr
   by_cases h:i<s.ft.l.length
   ·have hx:s.ft.l[i]?=some s.ft.l[i]:=zce h
    generalize s.ft.l[i]=x at hx
    have hrd:rdN (s.ft.l.flatMap Ft.c) (i*5) 5=some x.c:=(zc Ft.c_len 0 5 hx (by omega)).trans rfl
    have hrd1:rdN (s.ft.l.flatMap Ft.c) (i*5) 1=some [.int .i64 x.id]:=(zc Ft.c_len 0 1 hx (by omega)).trans rfl
    have hw:wrapI .i64 ((i:Int)+1)=((i+1:Nat):Int):=zH (by have:=s.ft.few; omega)
    cases hb:x.id==id
    ·simp only [W0,sevalprocAttr,h,za s.ft h,hrd1,hb,hw,Ft.c,y6]
     refine hn _ (s.ft.l.length - (i+1)) (by omega) ⟨i+1,rfl,by omega,zR hc hx hb,_,_,_,_,_,_,_,_,_,_,_,_,_,_,_,_,_,_,_,_,_,_,_,_,_,_,_,_,_,_,rfl⟩
    ·have hxf:=zZ (p:=fun f=>f.id==id) hc hx hb
     rw [hf] at hxf
     obtain rfl:=zdj hxf
     simp only [W0,sevalprocAttr,h,za s.ft h,hrd1,hrd,hb,Ft.c,y6,zp,zB,rep,zC,zJ,h0,zbq]
     refine hr _ ?_
     simp only [W0,sevalprocAttr,y6]
     refine ⟨_,rfl,?_⟩
     obtain ⟨k,rfl⟩:∃ k,m=k+1+1+1:=⟨m - 3,by omega⟩
     exact freeze_ft zac
   ·have hxf:=z6 hc h
    rw [hf] at hxf
    simp at hxf
  ·refine ⟨⟨f0.parts.l,.slC (f0.parts.l.flatMap intc) f0.parts.l.length 1 (false&&true),.row _ _ _ (zx zj),f0.parts.few⟩,rfl,?_⟩
   refine yT (i:=i21) (ns hS (by rfl)) rfl rfl (s.ft.l.length+8) fun m hm d out=>?_
   simp only [i21,W0,sevalprocAttr,Sv.c]
   refine zb (fun j st=>∃ i,j=s.ft.l.length - i/\i<=s.ft.l.length/\((s.ft.l.take i).find? fun f=>f.id==id)=none/\∃ J a3 a7 a8 a9 a10 a11 a12 a13 a14 a15 a16 a17 a18 a19 a20 a21 a22 a23 a24 a25 a26 a27 a28 a29 a30 a31 a32 a33 a34,st=⟨[.agg s.c,iv id,.ptrM d 0 0,a3,.ptrM d 1 0,.bool false,iv i,a7,a8,a9,a10,a11,a12,a13,a14,a15,a16,a17,a18,a19,a20,a21,a22,a23,a24,a25,a26,a27,a28,a29,a30,a31,a32,a33,a34],.cells [s.pl.ns.v,s.pl.as.v,s.pl.fs.v,s.ft.v]::.cells zFt.c::J⟩) s.ft.l.length (by omega) ⟨0,by omega,by omega,by simp,[],_,_,_,_,_,_,_,_,_,_,_,_,_,_,_,_,_,_,_,_,_,_,_,_,_,_,_,_,_,rfl⟩ ?_
   rintro j st K ⟨i,rfl,hi,hc,J,a3,a7,a8,a9,a10,a11,a12,a13,a14,a15,a16,a17,a18,a19,a20,a21,a22,a23,a24,a25,a26,a27,a28,a29,a30,a31,a32,a33,a34,rfl⟩ hn he hr
   by_cases h:i<s.ft.l.length
   ·have hx:s.ft.l[i]?=some s.ft.l[i]:=zce h
    generalize s.ft.l[i]=x at hx
    have hrd:rdN (s.ft.l.flatMap Ft.c) (i*5) 5=some x.c:=(zc Ft.c_len 0 5 hx (by omega)).trans rfl
    have hrd1:rdN (s.ft.l.flatMap Ft.c) (i*5) 1=some [.int .i64 x.id]:=(zc Ft.c_len 0 1 hx (by omega)).trans rfl
    have hw:wrapI .i64 ((i:Int)+1)=((i+1:Nat):Int):=zH (by have:=s.ft.few; omega)
    cases hb:x.id==id
    ·simp only [W0,sevalprocAttr,h,za s.ft h,hrd1,hb,hw,Ft.c,y6]
     refine hn _ (s.ft.l.length - (i+1)) (by omega) ⟨i+1,rfl,by omega,zR hc hx hb,_,_,_,_,_,_,_,_,_,_,_,_,_,_,_,_,_,_,_,_,_,_,_,_,_,_,_,_,_,_,rfl⟩
    ·have hxf:=zZ (p:=fun f=>f.id==id) hc hx hb
     rw [hf] at hxf
     obtain rfl:=zdj hxf
     simp only [W0,sevalprocAttr,h,za s.ft h,hrd1,hrd,hb,Ft.c,y6,zp,zB,rep,zC,zJ,zap h0 (show 0+f0.parts.l.length<=1073741824 by omega)]
     refine hr _ ?_
     simp only [W0,sevalprocAttr,y6]
     refine ⟨_,rfl,?_⟩
     obtain ⟨k,rfl⟩:∃ k,m=k+1+1+1:=⟨m - 3,by omega⟩
     exact freeze_ft (yl (k:=1) intc_fz (by omega) rfl zj (by simp only [W0,sevalprocAttr]))
   ·have hxf:=z6 hc h
    rw [hf] at hxf
    simp at hxf
theorem gives_rarc (hS:NoS S) (p:Pn) (id:Int) (hsm:∀ f∈p.as.l,f.via.l.length<=1073741824):∃ q',q'.l=((p.as.l.find? fun f=>f.id==id).getD zAc).via.l /\
  Gives Ftab S 66 [.agg p.c,iv id] (.tuple [.agg ({ (p.as.l.find? fun f=>f.id==id).getD zAc with via:=q' }:Ac).c,.bool (p.as.l.find? fun f=>f.id==id).isSome]):=by
 cases hf:p.as.l.find? fun f=>f.id==id with
 | none =>
  refine ⟨nilS _ _,rfl,?_⟩
  refine zq (i:=i66) (k:=1+1+1) (ns hS (by rfl)) rfl rfl Yd (p.as.l.length+5) (by omega) fun m hm d out=>?_
  simp only [i66,W0,sevalprocAttr,Pn.c]
  refine zb (fun j st=>∃ i,j=p.as.l.length - i/\i<=p.as.l.length/\((p.as.l.take i).find? fun f=>f.id==id)=none/\∃ J a3 a7 a8 a9 a10 a11 a12 a13 a14 a15 a16 a17 a18 a19 a20 a21 a22 a23 a24 a25 a26 a27 a28 a29 a30 a31 a32 a33 a34,st=⟨[.agg p.c,iv id,.ptrM d 0 0,a3,.ptrM d 1 0,.bool false,iv i,a7,a8,a9,a10,a11,a12,a13,a14,a15,a16,a17,a18,a19,a20,a21,a22,a23,a24,a25,a26,a27,a28,a29,a30,a31,a32,a33,a34],.cells [p.ns.v,p.as.v,p.fs.v]::.cells zAc.c::J⟩) p.as.l.length (by omega) ⟨0,by omega,by omega,by simp,[],_,_,_,_,_,_,_,_,_,_,_,_,_,_,_,_,_,_,_,_,_,_,_,_,_,_,_,_,_,rfl⟩ ?_
  rintro j st K ⟨i,rfl,hi,hc,J,a3,a7,a8,a9,a10,a11,a12,a13,a14,a15,a16,a17,a18,a19,a20,a21,a22,a23,a24,a25,a26,a27,a28,a29,a30,a31,a32,a33,a34,rfl⟩ hn he hr
  by_cases h:i<p.as.l.length
  ·have hx:p.as.l[i]?=some p.as.l[i]:=zce h
   generalize p.as.l[i]=x at hx
   have hrd:rdN (p.as.l.flatMap Ac.c) (i*6) 6=some x.c:=(zc Ac.c_len 0 6 hx (by omega)).trans rfl
   have hrd1:rdN (p.as.l.flatMap Ac.c) (i*6) 1=some [.int .i64 x.id]:=(zc Ac.c_len 0 1 hx (by omega)).trans rfl
   have hw:wrapI .i64 ((i:Int)+1)=((i+1:Nat):Int):=zH (by have:=p.as.few; omega)
   cases hb:x.id==id
   ·simp only [W0,sevalprocAttr,h,za p.as h,hrd1,hb,hw,Ac.c,y7]
    refine hn _ (p.as.l.length - (i+1)) (by omega) ⟨i+1,rfl,by omega,zR hc hx hb,_,_,_,_,_,_,_,_,_,_,_,_,_,_,_,_,_,_,_,_,_,_,_,_,_,_,_,_,_,_,rfl⟩
   ·have hxf:=zZ (p:=fun f=>f.id==id) hc hx hb
    rw [hf] at hxf
    simp at hxf
  ·have hxf:=z6 hc h
   rw [hf] at hxf
   simp only [W0,sevalprocAttr,h,y7]
   refine he _ _ ?_
   simp only [W0,sevalprocAttr,y7]
   rfl
 | some f0 =>
  have hs0:=hsm f0 (List.mem_of_find?_eq_some hf)
  by_cases h0:f0.via.l.length=0
  ·refine ⟨⟨[],.slC [] 0 2 true,.row _ _ _ rfl,by simp⟩,(zda.1 h0).symm,?_⟩
   refine yT (i:=i66) (ns hS (by rfl)) rfl rfl (p.as.l.length+8) fun m hm d out=>?_
   simp only [i66,W0,sevalprocAttr,Pn.c]
   refine zb (fun j st=>∃ i,j=p.as.l.length - i/\i<=p.as.l.length/\((p.as.l.take i).find? fun f=>f.id==id)=none/\∃ J a3 a7 a8 a9 a10 a11 a12 a13 a14 a15 a16 a17 a18 a19 a20 a21 a22 a23 a24 a25 a26 a27 a28 a29 a30 a31 a32 a33 a34,st=⟨[.agg p.c,iv id,.ptrM d 0 0,a3,.ptrM d 1 0,.bool false,iv i,a7,a8,a9,a10,a11,a12,a13,a14,a15,a16,a17,a18,a19,a20,a21,a22,a23,a24,a25,a26,a27,a28,a29,a30,a31,a32,a33,a34],.cells [p.ns.v,p.as.v,p.fs.v]::.cells zAc.c::J⟩) p.as.l.length (by omega) ⟨0,by omega,by omega,by simp,[],_,_,_,_,_,_,_,_,_,_,_,_,_,_,_,_,_,_,_,_,_,_,_,_,_,_,_,_,_,rfl⟩ ?_
   rintro j st K ⟨i,rfl,hi,hc,J,a3,a7,a8,a9,a10,a11,a12,a13,a14,a15,a16,a17,a18,a19,a20,a21,a22,a23,a24,a25,a26,a27,a28,a29,a30,a31,a32,a33,a34,rfl⟩ hn he hr
   by_cases h:i<p.as.l.length
   ·have hx:p.as.l[i]?=some p.as.l[i]:=zce h
    generalize p.as.l[i]=x at hx
    have hrd:rdN (p.as.l.flatMap Ac.c) (i*6) 6=some x.c:=(zc Ac.c_len 0 6 hx (by omega)).trans rfl
    have hrd1:rdN (p.as.l.flatMap Ac.c) (i*6) 1=some [.int .i64 x.id]:=(zc Ac.c_len 0 1 hx (by omega)).trans rfl
    have hw:wrapI .i64 ((i:Int)+1)=((i+1:Nat):Int):=zH (by have:=p.as.few; omega)
    cases hb:x.id==id
    ·simp only [W0,sevalprocAttr,h,za p.as h,hrd1,hb,hw,Ac.c,y7]
     refine hn _ (p.as.l.length - (i+1)) (by omega) ⟨i+1,rfl,by omega,zR hc hx hb,_,_,_,_,_,_,_,_,_,_,_,_,_,_,_,_,_,_,_,_,_,_,_,_,_,_,_,_,_,_,rfl⟩
    ·have hxf:=zZ (p:=fun f=>f.id==id) hc hx hb
     rw [hf] at hxf
     obtain rfl:=zdj hxf
     simp only [W0,sevalprocAttr,h,za p.as h,hrd1,hrd,hb,Ac.c,y7,zp,zB,rep,zC,zJ,h0,zbq]
     refine hr _ ?_
     simp only [W0,sevalprocAttr,y7]
     refine ⟨_,rfl,?_⟩
     obtain ⟨k,rfl⟩:∃ k,m=k+1+1+1:=⟨m - 3,by omega⟩
     exact freeze_ac zac
   ·have hxf:=z6 hc h
    rw [hf] at hxf
    simp at hxf
  ·refine ⟨⟨f0.via.l,.slC (f0.via.l.flatMap Pt.c) f0.via.l.length 2 (false&&true),.row _ _ _ (zx Pt.c_len),f0.via.few⟩,rfl,?_⟩
   refine yT (i:=i66) (ns hS (by rfl)) rfl rfl (p.as.l.length+8) fun m hm d out=>?_
   simp only [i66,W0,sevalprocAttr,Pn.c]
   refine zb (fun j st=>∃ i,j=p.as.l.length - i/\i<=p.as.l.length/\((p.as.l.take i).find? fun f=>f.id==id)=none/\∃ J a3 a7 a8 a9 a10 a11 a12 a13 a14 a15 a16 a17 a18 a19 a20 a21 a22 a23 a24 a25 a26 a27 a28 a29 a30 a31 a32 a33 a34,st=⟨[.agg p.c,iv id,.ptrM d 0 0,a3,.ptrM d 1 0,.bool false,iv i,a7,a8,a9,a10,a11,a12,a13,a14,a15,a16,a17,a18,a19,a20,a21,a22,a23,a24,a25,a26,a27,a28,a29,a30,a31,a32,a33,a34],.cells [p.ns.v,p.as.v,p.fs.v]::.cells zAc.c::J⟩) p.as.l.length (by omega) ⟨0,by omega,by omega,by simp,[],_,_,_,_,_,_,_,_,_,_,_,_,_,_,_,_,_,_,_,_,_,_,_,_,_,_,_,_,_,rfl⟩ ?_
   rintro j st K ⟨i,rfl,hi,hc,J,a3,a7,a8,a9,a10,a11,a12,a13,a14,a15,a16,a17,a18,a19,a20,a21,a22,a23,a24,a25,a26,a27,a28,a29,a30,a31,a32,a33,a34,rfl⟩ hn he hr
   by_cases h:i<p.as.l.length
   ·have hx:p.as.l[i]?=some p.as.l[i]:=zce h
    generalize p.as.l[i]=x at hx
    have hrd:rdN (p.as.l.flatMap Ac.c) (i*6) 6=some x.c:=(zc Ac.c_len 0 6 hx (by omega)).trans rfl
    have hrd1:rdN (p.as.l.flatMap Ac.c) (i*6) 1=some [.int .i64 x.id]:=(zc Ac.c_len 0 1 hx (by omega)).trans rfl
    have hw:wrapI .i64 ((i:Int)+1)=((i+1:Nat):Int):=zH (by have:=p.as.few; omega)
    cases hb:x.id==id
    ·simp only [W0,sevalprocAttr,h,za p.as h,hrd1,hb,hw,Ac.c,y7]
     refine hn _ (p.as.l.length - (i+1)) (by omega) ⟨i+1,rfl,by omega,zR hc hx hb,_,_,_,_,_,_,_,_,_,_,_,_,_,_,_,_,_,_,_,_,_,_,_,_,_,_,_,_,_,_,rfl⟩
    ·have hxf:=zZ (p:=fun f=>f.id==id) hc hx hb
     rw [hf] at hxf
     obtain rfl:=zdj hxf
     simp only [W0,sevalprocAttr,h,za p.as h,hrd1,hrd,hb,Ac.c,y7,zp,zB,rep,zC,zJ,zap h0 (show 0+f0.via.l.length<=1073741824 by omega)]
     refine hr _ ?_
     simp only [W0,sevalprocAttr,y7]
     refine ⟨_,rfl,?_⟩
     obtain ⟨k,rfl⟩:∃ k,m=k+1+1+1:=⟨m - 3,by omega⟩
     exact freeze_ac (yl (k:=1) Yh (by omega) rfl Pt.c_len (by simp only [W0,sevalprocAttr]))
   ·have hxf:=z6 hc h
    rw [hf] at hxf
    simp at hxf
theorem zae (hS:NoS S) (p:Pn) (id:Int):Gives Ftab S 99 [.agg p.c,iv id] (.tuple [.agg ((p.ns.l.find? fun f=>f.id==id).getD zNd).c,.bool (p.ns.l.find? fun f=>f.id==id).isSome]):=by
 cases hf:p.ns.l.find? fun f=>f.id==id with
 | none =>
  refine zq (i:=i99) (k:=1+1+1) (ns hS (by rfl)) rfl rfl ZP (p.ns.l.length+5) (by omega) fun m hm d out=>?_
  simp only [i99,W0,sevalprocAttr,Pn.c]
  refine zb (fun j st=>∃ i,j=p.ns.l.length - i/\i<=p.ns.l.length/\((p.ns.l.take i).find? fun f=>f.id==id)=none/\∃ J a3 a7 a8 a9 a10 a11 a12 a13 a14 a15 a16 a17 a18 a19 a20 a21 a22 a23 a24 a25 a26 a27,st=⟨[.agg p.c,iv id,.ptrM d 0 0,a3,.ptrM d 1 0,.bool false,iv i,a7,a8,a9,a10,a11,a12,a13,a14,a15,a16,a17,a18,a19,a20,a21,a22,a23,a24,a25,a26,a27],.cells [p.ns.v,p.as.v,p.fs.v]::.cells zNd.c::J⟩) p.ns.l.length (by omega) ⟨0,by omega,by omega,by simp,[],_,_,_,_,_,_,_,_,_,_,_,_,_,_,_,_,_,_,_,_,_,_,rfl⟩ ?_
  rintro j st K ⟨i,rfl,hi,hc,J,a3,a7,a8,a9,a10,a11,a12,a13,a14,a15,a16,a17,a18,a19,a20,a21,a22,a23,a24,a25,a26,a27,rfl⟩ hn he hr
  by_cases h:i<p.ns.l.length
  ·have hx:p.ns.l[i]?=some p.ns.l[i]:=zce h
   generalize p.ns.l[i]=x at hx
   have hrd:rdN (p.ns.l.flatMap Nd.c) (i*3) 3=some x.c:=(zc Nd.c_len 0 3 hx (by omega)).trans rfl
   have hrd1:rdN (p.ns.l.flatMap Nd.c) (i*3) 1=some [.int .i64 x.id]:=(zc Nd.c_len 0 1 hx (by omega)).trans rfl
   have hw:wrapI .i64 ((i:Int)+1)=((i+1:Nat):Int):=zH (by have:=p.ns.few; omega)
   cases hb:x.id==id
   ·simp only [W0,sevalprocAttr,h,za p.ns h,hrd1,hb,hw,Nd.c,ZG]
    refine hn _ (p.ns.l.length - (i+1)) (by omega) ⟨i+1,rfl,by omega,zR hc hx hb,_,_,_,_,_,_,_,_,_,_,_,_,_,_,_,_,_,_,_,_,_,_,_,rfl⟩
   ·have hxf:=zZ (p:=fun f=>f.id==id) hc hx hb
    rw [hf] at hxf
    simp at hxf
  ·have hxf:=z6 hc h
   rw [hf] at hxf
   simp only [W0,sevalprocAttr,h,ZG]
   refine he _ _ ?_
   simp only [W0,sevalprocAttr,ZG]
   rfl
 | some f0 =>
  refine zq (i:=i99) (k:=1+1+1) (ns hS (by rfl)) rfl rfl (ZO f0) (p.ns.l.length+8) (by omega) fun m hm d out=>?_
  simp only [i99,W0,sevalprocAttr,Pn.c]
  refine zb (fun j st=>∃ i,j=p.ns.l.length - i/\i<=p.ns.l.length/\((p.ns.l.take i).find? fun f=>f.id==id)=none/\∃ J a3 a7 a8 a9 a10 a11 a12 a13 a14 a15 a16 a17 a18 a19 a20 a21 a22 a23 a24 a25 a26 a27,st=⟨[.agg p.c,iv id,.ptrM d 0 0,a3,.ptrM d 1 0,.bool false,iv i,a7,a8,a9,a10,a11,a12,a13,a14,a15,a16,a17,a18,a19,a20,a21,a22,a23,a24,a25,a26,a27],.cells [p.ns.v,p.as.v,p.fs.v]::.cells zNd.c::J⟩) p.ns.l.length (by omega) ⟨0,by omega,by omega,by simp,[],_,_,_,_,_,_,_,_,_,_,_,_,_,_,_,_,_,_,_,_,_,_,rfl⟩ ?_
  rintro j st K ⟨i,rfl,hi,hc,J,a3,a7,a8,a9,a10,a11,a12,a13,a14,a15,a16,a17,a18,a19,a20,a21,a22,a23,a24,a25,a26,a27,rfl⟩ hn he hr
  by_cases h:i<p.ns.l.length
  ·have hx:p.ns.l[i]?=some p.ns.l[i]:=zce h
   generalize p.ns.l[i]=x at hx
   have hrd:rdN (p.ns.l.flatMap Nd.c) (i*3) 3=some x.c:=(zc Nd.c_len 0 3 hx (by omega)).trans rfl
   have hrd1:rdN (p.ns.l.flatMap Nd.c) (i*3) 1=some [.int .i64 x.id]:=(zc Nd.c_len 0 1 hx (by omega)).trans rfl
   have hw:wrapI .i64 ((i:Int)+1)=((i+1:Nat):Int):=zH (by have:=p.ns.few; omega)
   cases hb:x.id==id
   ·simp only [W0,sevalprocAttr,h,za p.ns h,hrd1,hb,hw,Nd.c,ZG]
    refine hn _ (p.ns.l.length - (i+1)) (by omega) ⟨i+1,rfl,by omega,zR hc hx hb,_,_,_,_,_,_,_,_,_,_,_,_,_,_,_,_,_,_,_,_,_,_,_,rfl⟩
   ·have hxf:=zZ (p:=fun f=>f.id==id) hc hx hb
    rw [hf] at hxf
    obtain rfl:=zdj hxf
    simp only [W0,sevalprocAttr,h,za p.ns h,hrd,hrd1,hb,Nd.c,ZG]
    refine hr _ ?_
    simp only [W0,sevalprocAttr,ZG]
    rfl
  ·have hxf:=z6 hc h
   rw [hf] at hxf
   simp at hxf
end
end
section
section
variable {C:Call} {d:Nat} {out:yLM} {n j:Nat} {st:St} {K:yKM} {a:IC}
def Lp (C:Call) (d:Nat) (out:yLM) (n j:Nat) (a:IC) (K:yKM) (st:St):Prop:=∃ o st',iter (exec C d out n a) j st=some (o,st')/\K o st'
theorem Ex_loop:Ex C d out n (.loop a) K st=Lp C d out n n a K st:=by
 unfold Ex Lp
 simp only [exec]
theorem Lp_succ:Lp C d out n (j+1) a K st=Ex C d out n a (andThen (Lp C d out n j a K) K) st:=by
 refine propext ⟨fun ⟨o,st',h,hk⟩=>?_,fun ⟨o,st1,h1,h2⟩=>?_⟩
 ·simp only [iter] at h
  split at h
  ·rename_i st1 he
   exact ⟨.normal,st1,he,o,st',h,hk⟩
  ·rename_i hne
   refine ⟨o,st',h,?_⟩
   cases o with
   | normal=>exact absurd h (hne _)
   | exit id=>exact hk
   | ret=>exact hk
 ·cases o with
  | normal =>
   obtain ⟨o2,st2,h3,h4⟩:=h2
   exact ⟨o2,st2,by simp only [iter,h1,h3],h4⟩
  | exit id=>exact ⟨_,st1,by simp only [iter,h1],h2⟩
  | ret=>exact ⟨_,st1,by simp only [iter,h1],h2⟩
end
section
variable {F:FuncId->Option IFn} {S:ySM}
def FinO (d:Nat) (out:yLM) (rs:List IRes) (c:List IV) (len cap sz:Nat) (tight:Bool) (o:Out) (st:St):Prop:=(o=.normal∨o=.ret)/\∃ j,resultI d out st rs=some (.slM d j 0 len cap sz tight)/\st.own[j]?=some (.cells c)
theorem own_of {f:FuncId} {i:IFn} {args:List IV} {c:List IV} {len cap sz k:Nat} {tight:Bool} (hS:S f args=none) (hi:F f=some i) (hm:i.mode=1) (N:Nat) (hfz:∀ x∈c,Fz k x) (hk:k<=N) (hc:c.length=cap*sz)
  (h:∀ m,N<=m->∀ d out,Ex (callN F S m) d out m i.body (FinO d out i.res c len cap sz tight) ⟨args++List.replicate (i.ntmps - args.length) (.tuple []),[]⟩) :
  ∃ N',∀ m,N'<=m->∀ d out ownV own id,own[id]?=some .free->callN F S m d out ownV own id f args=some (.a,.slM d id 0 len cap sz tight,own.set id (.cells c)):=by
 refine ⟨N+1,fun m hN d out ownV own id hf=>?_⟩
 obtain ⟨m,rfl⟩:∃ q,m=q+1:=⟨m - 1,by omega⟩
 obtain ⟨o,st,h1,h2,j,h3,h4⟩:=h m (by omega) (d+1) (fun l=>if l=d then ownV else out l)
 have hm2:¬ i.mode=2:=by omega
 have hm3:¬ i.mode=3:=by omega
 have hseg:seg c 0 (cap*sz)=some c:=by
  unfold seg
  rw [if_pos (by omega),zf,List.drop_zero,zcm (by omega)]
 have hmap:c.mapM (freeze m (d+1) (st.own.set j .gone))=some c:=yL fun x hx=>hfz x hx m (by omega) _ _
 simp only [callN,hS,hi,if_neg hm2,if_neg hm3,zf,h1]
 rcases h2 with rfl | rfl <;> simp only [ended,h3,zcy,leave,hm,if_true,handed,h4,hseg,hmap,mkAt,hf,zf]
variable {d:Nat} {out:yLM} {rs:List IRes} {c:List IV} {len cap sz:Nat} {tight:Bool} {st:St}
theorem FinO_ret:FinO d out rs c len cap sz tight .ret st=∃ j,resultI d out st rs=some (.slM d j 0 len cap sz tight)/\st.own[j]?=some (.cells c):=propext ⟨fun h=>h.2,fun h=>⟨.inr rfl,h⟩⟩
end
theorem rep_fz {z:List IV} {k:Nat} (h:∀ x∈z,Fz k x):∀ {n:Nat},∀ x∈rep z n,Fz k x
 | 0,x,hx=>by simp [rep] at hx
 | n+1,x,hx=>by
  simp only [rep,List.mem_append] at hx
  exact hx.elim (h x) (rep_fz h x)
section
variable {C:Call} {d n0:Nat} {out:yLM} {lk:Nat->Nat->Option IObj} {own ownV:yLO} {t:List IV}
theorem natI_0 {k:IntKind}:natI (.int k 0)=some 0:=zcw rfl rfl
theorem app_src0 {z:List IV} {sz:Nat} {s x:Opd} {slot:Nat}:e_append d out n0 ownV own t z sz true s x slot=appV d n0 (look d out ownV) own sz (ρ t s) slot ((natI (ρ t x)).bind fun n=>if n<=bound then some (rep z n,n) else none):=zcw rfl rfl
theorem ZC {sz slot n:Nat} {new:List IV} (h:n≠0) (hb:n<=bound):appendI d n0 lk own sz .nilsl new n slot=mkAt own (n0+slot) (.cells new) (.slM d (n0+slot) 0 n n sz false):=by
 unfold appendI
 rw [if_neg h]
 simp only
 rw [if_pos hb]
end
theorem wrap_lit0:wrapI .i64 (0 - 0)=0:=by rw [zt]; decide
theorem wrap_sub0 {n:Nat} (h:n<=1073741824):wrapI .i64 ((n:Int) - 0)=(n:Int):=by
 rw [zt,IntWalk.i64_in _ (by omega)]
 omega
section
variable {S:ySM}
theorem grow_at (hS:NoS S) (n:Nat) (h0:0<n) (hn:n<=1073741824):∃ N,∀ m,N<=m->∀ d out ownV own id,own[id]?=some .free->callN Ftab S m d out ownV own id 96 [.nilsl,iv n]=some (.a,.slM d id 0 0 n 2 false,own.set id (.cells (rep [.int .i64 0,.int .i64 0] n))):=by
 refine own_of (i:=i96) (ns hS (by rfl)) rfl rfl 2 (k:=1) (rep_fz fun x hx=>?_) (by omega) ?_ fun m hm d out=>?_
 ·simp only [zdn,zdx,or_false] at hx
  rcases hx with rfl | rfl <;> exact zw
 ·rw [Zf]
  rfl
 ·have d1:decide ((n:Int)<0)=false:=by simp
  have d2:decide ((n:Int) > 0)=true:=by simp; omega
  have hb:n<=bound:=by unfold bound; omega
  have hb2:0+n<=bound:=by unfold bound; omega
  have hne:n≠0:=by omega
  simp only [i96,W0,e_nilchk,e_pick,e_box,e_bslice,e_load,e_store,e_eqb,e_eqp,e_eqs,e_eqagg,e_conv,e_faddr,e_field,e_extract,e_call,e_mx,mkAt,List.replicate,look,mkv,binI,intBin,isShift,unI,fillI,cellV,Nat.reduceAdd,Nat.reduceMul,Nat.reduceLeDiff,reduceCtorEq,Nat.reduceEqDiff,d1,ev_cap,e_cap,wrap_lit0,wrap_sub0 hn,d2,zbh,sliceI,optI,natI_0,yg,zp,app_src0,if_pos hb,zJ,ZC hne hb,Nat.zero_le,zdl,Nat.sub_zero,Nat.sub_self,Option.isSome_none,Bool.or_self,FinO_ret]
  exact ⟨0,rfl,rfl⟩
end
end
section
theorem wr_fill:∀ {B A R:List IV},B.length<=R.length->wrN (A++R) A.length B=A++B++R.drop B.length
 | [],A,R,_=>by simp [wrN]
 | b::B,A,R,h=>by
  cases R with
  | nil=>simp at h
  | cons r R =>
   simp only [wrN]
   rw [YC]
   have h2:=wr_fill (B:=B) (A:=A++[b]) (R:=R) (by simpa using h)
   rw [zc8,zdg] at h2
   simp only [zc5,zdh,zcr,zc7,zde] at h2
   rw [h2]
   simp
theorem ZQ {B A R:List IV} {k:Nat} (hk:k=A.length) (h:B.length<=R.length):wrN (A++R) k B=A++B++R.drop B.length:=by rw [hk,wr_fill h]
theorem YF {d n0 sz len cap n slot:Nat} {out:yLM} {c new:List IV} {J:yLO} {tight:Bool} (h:n≠0) (hb:len+n<=1073741824) (hc:len+n<=cap) (hfit:0+(len+n)*sz<=c.length) (hs:new.all IV.scalar=true) :
  appendI d n0 (look d out (.cells c::J)) (.cells c::J) sz (.slM d 0 0 len cap sz tight) new n slot=some (.x,.slM d 0 0 (len+n) cap sz tight,.cells (wrN c (0+len*sz) new)::J):=by
 unfold appendI
 rw [if_neg h]
 simp only
 rw [if_pos ⟨by unfold bound; omega,trivial⟩]
 simp only [look,if_true,zdf]
 rw [if_pos hc,if_pos ⟨trivial,hfit,hs⟩]
 simp only [zf,List.set_cons_zero]
theorem app_same {d n0 sz slot l i off len cap z:Nat} {lk:Nat->Nat->Option IObj} {own:yLO} {new:List IV} {tight:Bool}:appendI d n0 lk own sz (.slM l i off len cap z tight) new 0 slot=some (.r,.slM l i off len cap z tight,own):=by
 unfold appendI
 rw [if_pos rfl]
theorem app_same0 {d n0 sz slot l i off len cap z n:Nat} (h:n=0) {lk:Nat->Nat->Option IObj} {own:yLO} {new:List IV} {tight:Bool}:appendI d n0 lk own sz (.slM l i off len cap z tight) new n slot=some (.r,.slM l i off len cap z tight,own):=by
 subst h
 exact app_same
theorem pts_scal {l:List Pt}:(l.flatMap Pt.c).all IV.scalar=true:=by
 rw [zea]
 intro x hx
 obtain ⟨a,_,h⟩:=List.mem_flatMap.1 hx
 simp only [Pt.c,zdn,zdx,or_false] at h
 rcases h with rfl | rfl <;> rfl
theorem Z1 {lk:Nat->Nat->Option IObj} {x y:Int} {tight:Bool}:cellsI lk 2 (.slC [.int .i64 x,.int .i64 y] 1 2 tight)=some ([.int .i64 x,.int .i64 y],1):=by
 simp [cellsI,seg,zf]
theorem iaddr0 {own:yLO} {z n sz:Nat} {cs:List IV} {tight:Bool} {k:IntKind} (h:0<n):iaddrV own z (.slC cs n sz tight) (.int k 0)=some (.p,.ptrC cs (0*z),own):=zM (i:=0) h
theorem iaddr1 {own:yLO} {z n sz:Nat} {cs:List IV} {tight:Bool} {k:IntKind} (h:1<n):iaddrV own z (.slC cs n sz tight) (.int k 1)=some (.p,.ptrC cs (1*z),own):=zM (i:=1) h
theorem iaddr2 {own:yLO} {z n sz:Nat} {cs:List IV} {tight:Bool} {k:IntKind} (h:2<n):iaddrV own z (.slC cs n sz tight) (.int k 2)=some (.p,.ptrC cs (2*z),own):=zM (i:=2) h
theorem wrap_0_1:wrapI .i64 (0+1)=1:=by rw [zt]; decide
theorem wrap_1_1:wrapI .i64 (1+1)=2:=by rw [zt]; decide
theorem wrap_2_1:wrapI .i64 (2+1)=3:=by rw [zt]; decide
theorem lt03:decide ((0:Int)<((3:Nat):Int))=true:=by decide
theorem lt13:decide ((1:Int)<((3:Nat):Int))=true:=by decide
theorem lt23:decide ((2:Int)<((3:Nat):Int))=true:=by decide
theorem lt33:decide ((3:Int)<((3:Nat):Int))=false:=by decide
theorem YG {a b:Nat} (h:a+b<9223372036854775808):wrapI .i64 ((a:Int)+(b:Int))=((a+b:Nat):Int):=by
 rw [zt,IntWalk.i64_in _ (by omega)]
 rfl
theorem wrap_z1:wrapI .i64 (0+((1:Nat):Int))=((1:Nat):Int):=by rw [zt]; decide
theorem nlt {a:Nat}:decide ((a:Int)<0)=false:=by simp
def mkRow {α:Type} {g:α->List IV} {sz:Nat} (hs:∀ a,(g a).length=sz) (l:List α) (n:Nat) (tight:Bool) (h:l.length=n) (hf:n<9223372036854775808):SlOf sz g :=
 ⟨l,.slC (l.flatMap g) n sz tight,by subst h; exact .row _ _ _ (zx hs),by omega⟩
theorem filled {A B D R:List IV} {n:Nat} (hA:A.length=2) (hD:D.length=2) (hB:B.length=n*2) (hR:R.length=(1+n+1)*2):wrN (wrN (wrN R 0 A) 2 B) ((1+n)*2) D=A++(B++D):=by
 have h1:wrN R 0 A=A++R.drop 2:=by
  have:=ZQ (B:=A) (A:=[]) (R:=R) (k:=0) rfl (by omega)
  simpa [hA] using this
 rw [h1,ZQ (k:=2) hA.symm (by rw [List.length_drop]; omega),ZQ (k:=(1+n)*2) (by rw [zc8,hA,hB]; omega) (by simp only [List.length_drop]; omega),zdg,zdg]
 rw [List.drop_eq_nil_of_le (by simp only [List.length_drop]; omega),zd0]
theorem filled0 {A D R:List IV} (hA:A.length=2) (hD:D.length=2) (hR:R.length=4):wrN (wrN R 0 A) 2 D=A++D:=by
 have h1:wrN R 0 A=A++R.drop 2:=by
  have:=ZQ (B:=A) (A:=[]) (R:=R) (k:=0) rfl (by omega)
  simpa [hA] using this
 rw [h1,ZQ (k:=2) hA.symm (by rw [List.length_drop]; omega),List.drop_eq_nil_of_le (by simp only [List.length_drop]; omega),zd0]
section
variable {S:ySM}
theorem gives_concat (hS:NoS S) (p1 p2:Pt) (q:SlOf 2 Pt.c) (hq:q.l.length<=1000000):∃ q':SlOf 2 Pt.c,q'.l=p1::(q.l++[p2])/\Gives Ftab S 57 [.slC [.slC [iv p1.x,iv p1.y] 1 2 true,q.v,.slC [iv p2.x,iv p2.y] 1 2 true] 3 1 true] q'.v:=by
 obtain ⟨N,hN⟩:=grow_at hS (1+q.l.length+1) (by omega) (by omega)
 have hlen:(p1::(q.l++[p2])).length=1+q.l.length+1:=by simp; omega
 refine ⟨mkRow Pt.c_len (p1::(q.l++[p2])) (1+q.l.length+1) false hlen (by omega),rfl,?_⟩
 refine yT (i:=i57) (ns hS (by rfl)) rfl rfl (N+5) fun m hm d out=>?_
 have hg:=hN m (by omega) d out [.free] [.free] 0 rfl
 have hfr:∀ own:yLO,own[0]?=some (.cells ((p1::(q.l++[p2])).flatMap Pt.c))->freeze m d own (.slM d 0 0 (1+q.l.length+1) (1+q.l.length+1) 2 false)=some (mkRow Pt.c_len (p1::(q.l++[p2])) (1+q.l.length+1) false hlen (by omega)).v:=fun own ho=>yl (k:=1) Yh (by omega) hlen Pt.c_len ho
 have w1:wrapI .i64 (((1:Nat):Int)+(q.l.length:Int))=((1+q.l.length:Nat):Int):=YG (by omega)
 have w2:wrapI .i64 (((1+q.l.length:Nat):Int)+((1:Nat):Int))=((1+q.l.length+1:Nat):Int):=YG (by omega)
 obtain ⟨k,rfl⟩:∃ k,m=k+1+1+1+1:=⟨m - 4,by omega⟩
 simp only [zo] at hg
 have hr0:(rep [.int .i64 0,.int .i64 0] (1+q.l.length+1)).length=(1+q.l.length+1)*2:=by rw [Zf]; rfl
 generalize rep [.int .i64 0,.int .i64 0] (1+q.l.length+1)=R at hg hr0
 by_cases h0:q.l.length=0
 ·have hl:q.l=[]:=zda.1 h0
  have a1:=fun n0 slot=>YF (d:=d) (n0:=n0) (sz:=2) (len:=0) (cap:=1+q.l.length+1) (n:=1) (slot:=slot) (out:=out) (c:=R) (new:=[.int .i64 p1.x,.int .i64 p1.y]) (J:=[.free]) (tight:=false) (by omega) (by omega) (by omega) (by omega) rfl
  have a3:=fun n0 slot=>YF (d:=d) (n0:=n0) (sz:=2) (len:=1) (cap:=1+q.l.length+1) (n:=1) (slot:=slot) (out:=out) (c:=wrN R 0 [.int .i64 p1.x,.int .i64 p1.y]) (new:=[.int .i64 p2.x,.int .i64 p2.y]) (J:=[.free,.free,.free]) (tight:=false) (by omega) (by omega) (by omega) (by rw [Yt]; omega) rfl
  simp only [zde,Nat.add_zero,zdl,zd4] at a1 a3
  simp only [i57,W0,e_nilchk,e_pick,e_box,e_bslice,e_load,e_store,e_eqb,e_eqp,e_eqs,e_eqagg,e_conv,e_faddr,e_field,e_extract,e_call,e_mx,mkAt,List.replicate,look,mkv,binI,intBin,isShift,unI,fillI,cellV,Nat.reduceAdd,Nat.reduceMul,Nat.reduceLeDiff,reduceCtorEq,Nat.reduceEqDiff,Ex_loop,Lp_succ,lt03,lt13,lt23,lt33,iaddr0 (show 0<3 by omega),iaddr1 (show 1<3 by omega),iaddr2 (show 2<3 by omega),wrap_0_1,wrap_1_1,wrap_2_1,wrap_z1,w1,w2,nlt,hg,zp,zB,zJ,zC,Z1,a1,app_same0 h0,a3,zdl,zd4]
  refine ⟨_,rfl,?_⟩
  have e:(2:Nat)=1+q.l.length+1:=by omega
  have h2:=hfr [IObj.cells (wrN (wrN R 0 [.int .i64 p1.x,.int .i64 p1.y]) 2 [.int .i64 p2.x,.int .i64 p2.y]),IObj.free,IObj.free,IObj.free] (by
   rw [zdf,filled0 rfl rfl (by rw [hr0,h0]),hl]
   simp [Pt.c,zo])
  rw [show (IV.slM d 0 0 (1+q.l.length+1) (1+q.l.length+1) 2 false)=.slM d 0 0 2 (1+q.l.length+1) 2 false by rw [← e]] at h2
  exact h2
 ·have a1:=fun n0 slot=>YF (d:=d) (n0:=n0) (sz:=2) (len:=0) (cap:=1+q.l.length+1) (n:=1) (slot:=slot) (out:=out) (c:=R) (new:=[.int .i64 p1.x,.int .i64 p1.y]) (J:=[.free]) (tight:=false) (by omega) (by omega) (by omega) (by omega) rfl
  have a2:=fun n0 slot=>YF (d:=d) (n0:=n0) (sz:=2) (len:=1) (cap:=1+q.l.length+1) (n:=q.l.length) (slot:=slot) (out:=out) (c:=wrN R 0 [.int .i64 p1.x,.int .i64 p1.y]) (new:=q.l.flatMap Pt.c) (J:=[.free,.free]) (tight:=false) h0 (by omega) (by omega) (by rw [Yt]; omega) pts_scal
  have a3:=fun n0 slot=>YF (d:=d) (n0:=n0) (sz:=2) (len:=1+q.l.length) (cap:=1+q.l.length+1) (n:=1) (slot:=slot) (out:=out) (c:=wrN (wrN R 0 [.int .i64 p1.x,.int .i64 p1.y]) 2 (q.l.flatMap Pt.c)) (new:=[.int .i64 p2.x,.int .i64 p2.y]) (J:=[.free,.free,.free]) (tight:=false) (by omega) (by omega) (by omega) (by rw [Yt,Yt]; omega) rfl
  simp only [zde,Nat.add_zero,zdl,zd4] at a1 a2 a3
  simp only [i57,W0,e_nilchk,e_pick,e_box,e_bslice,e_load,e_store,e_eqb,e_eqp,e_eqs,e_eqagg,e_conv,e_faddr,e_field,e_extract,e_call,e_mx,mkAt,List.replicate,look,mkv,binI,intBin,isShift,unI,fillI,cellV,Nat.reduceAdd,Nat.reduceMul,Nat.reduceLeDiff,reduceCtorEq,Nat.reduceEqDiff,Ex_loop,Lp_succ,lt03,lt13,lt23,lt33,iaddr0 (show 0<3 by omega),iaddr1 (show 1<3 by omega),iaddr2 (show 2<3 by omega),wrap_0_1,wrap_1_1,wrap_2_1,wrap_z1,w1,w2,nlt,hg,zp,zB,zJ,zC,Z1,a1,a2,a3,zdl,zd4]
  refine ⟨_,rfl,hfr _ ?_⟩
  rw [zdf,filled (n:=q.l.length) rfl rfl (zx Pt.c_len) hr0]
  simp [Pt.c,zo]
end
end
section
def arcF (p:Pn) (id:Int):Option Ac:=p.as.l.find? fun f=>f.id==id
def nodeF (p:Pn) (id:Int):Option Nd:=p.ns.l.find? fun f=>f.id==id
def arcD (p:Pn) (id:Int):Ac:=(arcF p id).getD zAc
def nodeD (p:Pn) (id:Int):Nd:=(nodeF p id).getD zNd
def pathOk (p:Pn) (id:Int):Bool:=(arcF p id).isSome&&((nodeF p (arcD p id).fr).isSome&&(nodeF p (arcD p id).to).isSome)
def pathL (p:Pn) (id:Int):List Pt:=(nodeD p (arcD p id).fr).at'::((arcD p id).via.l++[(nodeD p (arcD p id).to).at'])
def FewVia (p:Pn):Prop:=∀ f∈p.as.l,f.via.l.length<=100000
theorem fewD {p:Pn} (h:FewVia p) (id:Int):(arcD p id).via.l.length<=100000:=by
 unfold arcD
 cases hf:arcF p id with
 | none=>simp [zAc,nilS]
 | some a=>exact h a (List.mem_of_find?_eq_some hf)
theorem y8 (q:SlOf 2 Pt.c) (e:Int):Fz (1+1+1+1) (.tuple [q.v,.int .i64 e]):=by
 refine zbf fun x hx=>?_
 simp only [zdn,zdx,or_false] at hx
 rcases hx with rfl | rfl
 ·exact Z0 Yh q
 ·exact zw.le (by omega)
section
variable {S:ySM}
theorem zbt (hS:NoS S) (p:Pn) (id:Int) (hv:FewVia p):∃ q':SlOf 2 Pt.c,(pathOk p id=true->q'.l=pathL p id)/\Gives Ftab S 20 [.agg p.c,iv id] (.tuple [q'.v,iv (bif pathOk p id then 0 else 7)]):=by
 obtain ⟨q1,hq1,N1,h1⟩:=gives_arc hS p id (fun f hf=>by have:=hv f hf; omega)
 have hq1':q1.l=(arcD p id).via.l:=hq1
 have hlen:q1.l.length<=100000:=by rw [hq1']; exact fewD hv id
 obtain ⟨N2,h2⟩:=zbp hS p (arcD p id).fr
 obtain ⟨N3,h3⟩:=zbp hS p (arcD p id).to
 obtain ⟨q',hq',N4,h4⟩:=gives_concat hS (nodeD p (arcD p id).fr).at' (nodeD p (arcD p id).to).at' q1 (by omega)
 have c1:=fun m (hm:N1+N2+N3+N4+5<=m) d out ownV own i=>h1 m (by omega) d out ownV own i
 have c2:=fun m (hm:N1+N2+N3+N4+5<=m) d out ownV own i=>h2 m (by omega) d out ownV own i
 have c3:=fun m (hm:N1+N2+N3+N4+5<=m) d out ownV own i=>h3 m (by omega) d out ownV own i
 have c4:=fun m (hm:N1+N2+N3+N4+5<=m) d out ownV own i=>h4 m (by omega) d out ownV own i
 have e1:(p.as.l.find? fun f=>f.id==id)=arcF p id:=rfl
 have e2:((arcF p id).getD zAc)=arcD p id:=rfl
 have e3:∀ k:Int,(p.ns.l.find? fun f=>f.id==k)=nodeF p k:=fun k=>rfl
 have e4:∀ k:Int,((nodeF p k).getD zNd)=nodeD p k:=fun k=>rfl
 simp only [e1,e2,e3,e4,zo,Pn.c,Ac.c,Nd.c] at c1 c2 c3 c4
 cases b1:(arcF p id).isSome
 ·refine ⟨nilS _ _,by simp [pathOk,b1],?_⟩
  refine zq (i:=i20) (ns hS (by rfl)) rfl rfl (y8 _ _) (N1+N2+N3+N4+5) (by omega) fun m hm d out=>?_
  simp only [b1] at c1
  simp only [i20,W0,sevalprocAttr,Pn.c,c1 m hm,c2 m hm,c3 m hm,pathOk,b1,zcg,cond_false]
  rfl
 ·cases b2:(nodeF p (arcD p id).fr).isSome
  ·refine ⟨nilS _ _,by simp [pathOk,b2],?_⟩
   refine zq (i:=i20) (ns hS (by rfl)) rfl rfl (y8 _ _) (N1+N2+N3+N4+5) (by omega) fun m hm d out=>?_
   simp only [b1] at c1
   simp only [b2] at c2
   simp only [i20,W0,sevalprocAttr,Pn.c,c1 m hm,c2 m hm,c3 m hm,pathOk,b1,b2,zcg,zc4,cond_false]
   rfl
  ·cases b3:(nodeF p (arcD p id).to).isSome
   ·refine ⟨nilS _ _,by simp [pathOk,b3],?_⟩
    refine zq (i:=i20) (ns hS (by rfl)) rfl rfl (y8 _ _) (N1+N2+N3+N4+5) (by omega) fun m hm d out=>?_
    simp only [b1] at c1
    simp only [b2] at c2
    simp only [b3] at c3
    simp only [i20,W0,sevalprocAttr,Pn.c,c1 m hm,c2 m hm,c3 m hm,pathOk,b1,b2,b3,zcg,zc4,cond_false]
    rfl
   ·refine ⟨q',fun _=>by rw [hq',hq1']; rfl,?_⟩
    refine zq (i:=i20) (ns hS (by rfl)) rfl rfl (y8 _ _) (N1+N2+N3+N4+5) (by omega) fun m hm d out=>?_
    simp only [b1] at c1
    simp only [b2] at c2
    simp only [b3] at c3
    simp only [i20,W0,sevalprocAttr,Pn.c,rep,c1 m hm,c2 m hm,c3 m hm,c4 m hm,pathOk,b1,b2,b3,cond_true]
end
end
section
theorem app_zero0 {d n0 sz z len slot n:Nat} (h:n=0) {lk:Nat->Nat->Option IObj} {own:yLO} {cs new:List IV} {tight:Bool}:appendI d n0 lk own sz (.slC cs len z tight) new n slot=some (.r,.slC cs len z tight,own):=by
 subst h
 exact zbq
theorem app_slC {d n0 sz len slot n:Nat} (h:n≠0) {lk:Nat->Nat->Option IObj} {own:yLO} {cs new:List IV} (hb:len+n<=1073741824) (hc:cs.length=len*sz) :
  appendI d n0 lk own sz (.slC cs len sz true) new n slot=mkAt own (n0+slot) (.cells (cs++new)) (.slM d (n0+slot) 0 (len+n) (len+n) sz false):=by
 unfold appendI
 rw [if_neg h]
 simp only
 rw [if_pos ⟨by unfold bound; omega,trivial⟩]
 have hseg:seg cs 0 (len*sz)=some cs:=by
  unfold seg
  rw [if_pos (by omega),zf,List.drop_zero,zcm (by omega)]
 simp only [hseg,zf]
theorem yE {d n0 sz len slot n i:Nat} (h:n≠0) {lk:Nat->Nat->Option IObj} {own:yLO} {c new:List IV} (hb:len+n<=1073741824) (hc:c.length=len*sz) (hs:new.all IV.scalar=true) (hl:lk d i=some (.cells c)) :
  appendI d n0 lk own sz (.slM d i 0 len len sz false) new n slot=killAt own i (n0+slot) (.cells (c++new)) (.slM d (n0+slot) 0 (len+n) (len+n) sz false):=by
 unfold appendI
 rw [if_neg h]
 simp only
 rw [if_pos ⟨by unfold bound; omega,trivial⟩]
 have hseg:seg c 0 (len*sz)=some c:=by
  unfold seg
  rw [if_pos (by omega),zf,List.drop_zero,zcm (by omega)]
 simp only [hl,hseg,zf]
 rw [if_neg (by omega)]
 simp only [zc2,if_false]
 rw [if_pos ⟨trivial,hs⟩]
section
variable {S:ySM}
theorem Yi (hS:NoS S) (p:Pn) (a:Ac) (hv:a.via.l.length<=100000):∃ q':SlOf 2 Pt.c,q'.l=(nodeD p a.fr).at'::(a.via.l++[(nodeD p a.to).at']) /\
  Gives Ftab S 63 [.agg p.c,.agg a.c] (.tuple [q'.v,.bool ((nodeF p a.fr).isSome&&(nodeF p a.to).isSome)]):=by
 obtain ⟨N2,h2⟩:=zae hS p a.fr
 obtain ⟨N3,h3⟩:=zae hS p a.to
 have hlen:((nodeD p a.fr).at'::(a.via.l++[(nodeD p a.to).at'])).length=1+a.via.l.length+1:=by simp; omega
 refine ⟨mkRow Pt.c_len _ (1+a.via.l.length+1) false hlen (by omega),rfl,?_⟩
 refine yT (i:=i63) (ns hS (by rfl)) rfl rfl (N2+N3+5) fun m hm d out=>?_
 have c2:=h2 m (by omega)
 have c3:=h3 m (by omega)
 have e3:∀ k:Int,(p.ns.l.find? fun f=>f.id==k)=nodeF p k:=fun k=>rfl
 have e4:∀ k:Int,((nodeF p k).getD zNd)=nodeD p k:=fun k=>rfl
 simp only [e3,e4,zo,Pn.c,Nd.c] at c2 c3
 have hfr:∀ (own:yLO) (i:Nat) (b:Bool),own[i]?=some (.cells (((nodeD p a.fr).at'::(a.via.l++[(nodeD p a.to).at'])).flatMap Pt.c))->freeze m d own (.tuple [.slM d i 0 (1+a.via.l.length+1) (1+a.via.l.length+1) 2 false,.bool b])=some (.tuple [(mkRow Pt.c_len _ (1+a.via.l.length+1) false hlen (by omega)).v,.bool b]):=fun own i b ho=>by
  obtain ⟨k,rfl⟩:∃ k,m=k+1+1+1:=⟨m - 3,by omega⟩
  exact ZB (ym (yl (k:=1) Yh (by omega) hlen Pt.c_len ho) (ym rfl zbr))
 by_cases h0:a.via.l.length=0
 ·have hl:a.via.l=[]:=zda.1 h0
  have e:1+a.via.l.length+1=2:=by omega
  have hfr2:∀ (own:yLO) (i:Nat) (b:Bool),own[i]?=some (.cells (((nodeD p a.fr).at'::(a.via.l++[(nodeD p a.to).at'])).flatMap Pt.c))->freeze m d own (.tuple [.slM d i 0 2 2 2 false,.bool b])=some (.tuple [(mkRow Pt.c_len _ (1+a.via.l.length+1) false hlen (by omega)).v,.bool b]):=fun own i b ho=>by
   have:=hfr own i b ho
   rwa [show (IV.slM d i 0 (1+a.via.l.length+1) (1+a.via.l.length+1) 2 false)=.slM d i 0 2 2 2 false by rw [e]] at this
  have a2:=fun n0 slot lk own=>app_slC (d:=d) (n0:=n0) (sz:=2) (len:=1) (slot:=slot) (n:=1) (by omega) (lk:=lk) (own:=own) (cs:=[.int .i64 (nodeD p a.fr).at'.x,.int .i64 (nodeD p a.fr).at'.y]) (new:=[.int .i64 (nodeD p a.to).at'.x,.int .i64 (nodeD p a.to).at'.y]) (by omega) rfl
  cases b1:(nodeF p a.fr).isSome <;> cases b2:(nodeF p a.to).isSome
  all_goals
   simp only [b1] at c2
   simp only [b2] at c3
   simp only [i63,W0,sevalprocAttr,Pn.c,Ac.c,rep,c2,c3,zp,zB,zJ,zC,Z1,app_zero0 h0,a2]
   refine ⟨rfl,?_⟩
   simp only [W0,sevalprocAttr]
   refine ⟨_,rfl,?_⟩
   exact hfr2 _ _ _ (by simp [hl,Pt.c,zo])
 ·have a1:=fun n0 slot lk own=>app_slC (d:=d) (n0:=n0) (sz:=2) (len:=1) (slot:=slot) (n:=a.via.l.length) h0 (lk:=lk) (own:=own) (cs:=[.int .i64 (nodeD p a.fr).at'.x,.int .i64 (nodeD p a.fr).at'.y]) (new:=a.via.l.flatMap Pt.c) (by omega) rfl
  have a2:=fun o0 o1 o2 o3 o4 o5 J slot own=>yE (d:=d) (n0:=6) (sz:=2) (len:=1+a.via.l.length) (slot:=slot) (n:=1) (i:=6) (by omega) (lk:=look d out (hide [0] 6 (o0::o1::o2::o3::o4::o5::.cells (.int .i64 (nodeD p a.fr).at'.x::.int .i64 (nodeD p a.fr).at'.y::a.via.l.flatMap Pt.c)::J))) (own:=own) (c:=.int .i64 (nodeD p a.fr).at'.x::.int .i64 (nodeD p a.fr).at'.y::a.via.l.flatMap Pt.c)
   (new:=[.int .i64 (nodeD p a.to).at'.x,.int .i64 (nodeD p a.to).at'.y]) (by omega) (by rw [zcr,zcr,zx Pt.c_len]; omega) rfl (by simp [look,zy])
  cases b1:(nodeF p a.fr).isSome <;> cases b2:(nodeF p a.to).isSome
  all_goals
   simp only [b1] at c2
   simp only [b2] at c3
   simp only [i63,W0,sevalprocAttr,Pn.c,Ac.c,rep,c2,c3,zp,zB,zJ,zC,Z1,a1,a2,killAt]
   refine ⟨rfl,?_⟩
   simp only [W0,sevalprocAttr]
   refine ⟨_,rfl,?_⟩
   exact hfr _ _ _ (by simp [Pt.c,zo])
theorem gives_rpath (hS:NoS S) (p:Pn) (id:Int) (hv:FewVia p):∃ q':SlOf 2 Pt.c,(pathOk p id=true->q'.l=pathL p id)/\Gives Ftab S 24 [.agg p.c,iv id] (.tuple [q'.v,iv (bif pathOk p id then 0 else 7)]):=by
 obtain ⟨q1,hq1,N1,h1⟩:=gives_rarc hS p id (fun f hf=>by have:=hv f hf; omega)
 have hq1':q1.l=(arcD p id).via.l:=hq1
 have hlen:q1.l.length<=100000:=by rw [hq1']; exact fewD hv id
 obtain ⟨q',hq',N4,h4⟩:=Yi hS p { arcD p id with via:=q1 } hlen
 have c1:=fun m (hm:N1+N4+5<=m) d out ownV own i=>h1 m (by omega) d out ownV own i
 have c4:=fun m (hm:N1+N4+5<=m) d out ownV own i=>h4 m (by omega) d out ownV own i
 have e1:(p.as.l.find? fun f=>f.id==id)=arcF p id:=rfl
 have e2:((arcF p id).getD zAc)=arcD p id:=rfl
 simp only [e1,e2,zo,Pn.c,Ac.c] at c1 c4
 cases b1:(arcF p id).isSome
 ·refine ⟨nilS _ _,by simp [pathOk,b1],?_⟩
  refine zq (i:=i24) (ns hS (by rfl)) rfl rfl (y8 _ _) (N1+N4+5) (by omega) fun m hm d out=>?_
  simp only [b1] at c1
  simp only [i24,W0,sevalprocAttr,Pn.c,c1 m hm,c4 m hm,pathOk,b1,zcg,cond_false]
  rfl
 ·cases b2:(nodeF p (arcD p id).fr).isSome&&(nodeF p (arcD p id).to).isSome
  ·refine ⟨nilS _ _,by simp [pathOk,b2],?_⟩
   refine zq (i:=i24) (ns hS (by rfl)) rfl rfl (y8 _ _) (N1+N4+5) (by omega) fun m hm d out=>?_
   simp only [b1] at c1
   simp only [b2] at c4
   simp only [i24,W0,sevalprocAttr,Pn.c,c1 m hm,c4 m hm,pathOk,b1,b2,zcg,zc4,cond_false]
   rfl
  ·refine ⟨q',fun _=>by rw [hq',hq1']; rfl,?_⟩
   refine zq (i:=i24) (ns hS (by rfl)) rfl rfl (y8 _ _) (N1+N4+5) (by omega) fun m hm d out=>?_
   simp only [b1] at c1
   simp only [b2] at c4
   simp only [i24,W0,sevalprocAttr,Pn.c,c1 m hm,c4 m hm,pathOk,b1,b2,cond_true]
end
end
section
def OwnI (d:Nat) (J:yLO) (lv:IV) (xs:List Int):Prop:=(xs=[]/\lv=.nilsl)∨∃ b,xs≠[]/\lv=.slM d (b+1) 0 xs.length xs.length 1 false/\J[b]?=some (.cells (xs.flatMap intc))
theorem OwnI.more {d:Nat} {J:yLO} {lv:IV} {xs:List Int} (h:OwnI d J lv xs) (r:yLO):OwnI d (J++r) lv xs:=by
 rcases h with h | ⟨b,hne,h1,h2⟩
 ·exact .inl h
 ·exact .inr ⟨b,hne,h1,by rw [zco (zcf.1 h2).1]; exact h2⟩
section
variable {S:ySM}
theorem Z2 {lk:Nat->Nat->Option IObj} {x:Int} {tight:Bool}:cellsI lk 1 (.slC [.int .i64 x] 1 1 tight)=some ([.int .i64 x],1):=by
 simp [cellsI,seg,zf]
end
end
section
structure Bx where
 a:Int
 b:Int
 c:Int
 e:Int
def Bx.r (x:Bx):List IV:=[.int .i64 x.a,.int .i64 x.b,.int .i64 x.c,.int .i64 x.e]
end
section
section
variable {α:Type} {g:α->List IV} {sz:Nat}
def OwnJ (g:α->List IV) (sz d k0:Nat) (J:yLO) (lv:IV) (xs:List α):Prop:=(xs=[]/\lv=.nilsl)∨∃ b,xs≠[]/\lv=.slM d (k0+b) 0 xs.length xs.length sz false/\J[b]?=some (.cells (xs.flatMap g))
theorem OwnJ.more {d k0:Nat} {J:yLO} {lv:IV} {xs:List α} (h:OwnJ g sz d k0 J lv xs) (r:yLO):OwnJ g sz d k0 (J++r) lv xs:=by
 rcases h with h | ⟨b,hne,h1,h2⟩
 ·exact .inl h
 ·exact .inr ⟨b,hne,h1,by rw [zco (zcf.1 h2).1]; exact h2⟩
def rowQ (hs:∀ a,(g a).length=sz) (xs:List α) (hx:xs.length<9223372036854775808):SlOf sz g:=match xs,hx with
 | [],_=>nilS _ _
 | x::t,hx=>mkRow hs (x::t) (x::t).length false rfl hx
theorem rowQ_l (hs:∀ a,(g a).length=sz) (xs:List α) (hx:xs.length<9223372036854775808):(rowQ hs xs hx).l=xs:=by cases xs <;> rfl
theorem yr {Pre L:yLO} {b:Nat}:(Pre++L)[Pre.length+b]?=L[b]?:=by
 rw [zct (by omega),zds]
theorem yX {Pre L:yLO} {b:Nat} {v:IObj}:(Pre++L).set (Pre.length+b) v=Pre++L.set b v:=by
 rw [List.set_append_right _ _ (by omega),zds]
theorem ownJ_fz (hs:∀ a,(g a).length=sz) (hf:∀ a,∀ x∈g a,Fz 1 x) {d m:Nat} {Pre J:yLO} {lv:IV} {xs:List α} (hm:2<=m) (hx:xs.length<9223372036854775808) (h:OwnJ g sz d Pre.length J lv xs):freeze m d (Pre++J) lv=some (rowQ hs xs hx).v:=by
 rcases h with ⟨rfl,rfl⟩ | ⟨b,hne,rfl,h2⟩
 ·exact ZL m (by omega) d _
 ·cases xs with
  | nil=>exact absurd rfl hne
  | cons x t=>exact yl (k:=1) hf (by omega) rfl hs (by rw [yr]; exact h2)
theorem Zq (hs:∀ a,(g a).length=sz) {d n0 slot k:Nat} {out:yLM} {Pre J R:yLO} {lv:IV} {xs ys:List α} (h:OwnJ g sz d Pre.length J lv xs) (hy:ys.length≠0) (hx:xs.length+ys.length<=1073741824) (hk:n0+slot=Pre.length+(J.length+k)) (hf:R[k]?=some .free)
  (hsc:(ys.flatMap g).all IV.scalar=true) :
  ∃ e lv' J2,appendI d n0 (look d out (Pre++(J++R))) (Pre++(J++R)) sz lv (ys.flatMap g) ys.length slot=some (e,lv',Pre++J2)/\OwnJ g sz d Pre.length J2 lv' (xs++ys):=by
 have hkl:k<R.length:=(zcf.1 hf).1
 have hget:(J++R)[J.length+k]?=some .free:=by
  rw [zct (by omega),zds]
  exact hf
 have hlt:J.length+k<(J++R).length:=by rw [zc8]; omega
 have hne:xs++ys≠[]:=by
  intro he
  exact hy (by rw [(List.append_eq_nil_iff.1 he).2]; rfl)
 rcases h with ⟨rfl,rfl⟩ | ⟨b,_,rfl,h2⟩
 ·rw [ZC hy (by unfold bound; simp at hx; omega)]
  unfold mkAt
  rw [hk,yr,hget]
  simp only [zf]
  rw [yX]
  refine ⟨_,_,_,rfl,.inr ⟨J.length+k,hne,by simp,?_⟩⟩
  rw [zdw hlt]
  rfl
 ·have hb:b<J.length:=(zcf.1 h2).1
  have hb2:(J++R)[b]?=some (.cells (xs.flatMap g)):=by rw [zco hb]; exact h2
  rw [yE hy hx (zx hs) hsc (by simp only [look,if_true,yr]; exact hb2)]
  unfold killAt
  rw [hk,yr,hget]
  simp only [zf]
  rw [yX,yX]
  refine ⟨_,_,_,rfl,.inr ⟨J.length+k,hne,by simp,?_⟩⟩
  rw [zdw (by rw [List.length_set]; exact hlt)]
  simp
end
theorem flat_le {α β:Type} {g:α->List β} {c:Nat}:∀ {l:List α},(∀ x∈l,(g x).length<=c)->(l.flatMap g).length<=l.length*c
 | [],_=>by simp
 | x::l,h=>by
  rw [zdc,zc8,zcr,Nat.succ_mul]
  have h1:=h x (zeb ..)
  have h2:=flat_le (l:=l) fun y hy=>h y (List.mem_cons_of_mem _ hy)
  omega
theorem take_flat {α β:Type} {g:α->List β} {l:List α} {i:Nat} {x:α} (hx:l[i]?=some x):(l.take (i+1)).flatMap g=(l.take i).flatMap g++g x:=by
 rw [zdv,hx,zd2,zed,zdc,zec,zd0]
end
section
theorem expand_t {t:List IV} {n:Nat} (h:t.length=n):t=(List.range n).map (getK (.tuple []) t):=by
 apply List.ext_getElem?
 intro i
 rw [zc9]
 by_cases hi:i<n
 ·rw [List.getElem?_range hi,zck,zL,zc0,zce (by omega),Option.getD_some]
 ·rw [List.getElem?_eq_none (by omega),List.getElem?_eq_none (by simp; omega),zc6]
end
section
section
variable {S:ySM}
def findD (s:Sv) (id:Int):Ft:=(s.ft.l.find? fun f=>f.id==id).getD zFt
def findOk (s:Sv) (id:Int):Bool:=(s.ft.l.find? fun f=>f.id==id).isSome
end
end
section
theorem OwnJ.one {α:Type} {g:α->List IV} {sz d k0:Nat} {J:yLO} {lv:IV} {xs:List α} (h:OwnJ g sz d k0 J lv xs):lv.cells=[lv]/\lv.scalar=true:=by
 rcases h with ⟨_,rfl⟩ | ⟨b,_,rfl,_⟩ <;> exact ⟨rfl,rfl⟩
theorem Yj {d:Nat} {out:yLM} {st:St}:resultI d out st []=some (.tuple []):=zcw rfl rfl
end
section
theorem unif {α:Type} {P:α->Nat->Prop}:∀ (l:List α),(∀ x∈l,∃ N,∀ m,N<=m->P x m)->∃ N,∀ x∈l,∀ m,N<=m->P x m
 | [],_=>⟨0,fun x hx=>by simp at hx⟩
 | y::l,h=>by
  obtain ⟨N1,h1⟩:=h y (zeb ..)
  obtain ⟨N2,h2⟩:=unif l fun x hx=>h x (List.mem_cons_of_mem _ hx)
  refine ⟨N1+N2,fun x hx m hm=>?_⟩
  rcases zdn.1 hx with rfl | hx
  ·exact h1 m (by omega)
  ·exact h2 x hx m (by omega)
end
end Go.Proofs.YtelocmclpfincaaGreatDoor
end
