/-
  A part of the proof: the small machine, its simulation and its walks.
-/
import Derived.Test.YthodhjagohdcnaaGreatDoorYb
import Derived.Test.YthodhjagohdcnaaGreatDoorYc
set_option linter.unusedVariables false
set_option linter.unusedSimpArgs false
set_option maxRecDepth 1000000
set_option maxHeartbeats 3200000
section
namespace Go.Proofs.YthodhjagohdcnaaGreatDoor
open Go Go.RowKit
section
def NoS (S:ySM):Prop:=∀ f args,f≠56->f≠9->f≠30->f≠50->S f args=none
def sf (f:FuncId):Bool:=!(Nat.beq f 56)&&!(Nat.beq f 9)&&!(Nat.beq f 30)&&!(Nat.beq f 50)
theorem ns {S:ySM} (hS:NoS S) {f:FuncId} {args:List IV} (h:sf f=true):S f args=none:=by
 simp only [sf,zc0,Bool.not_eq_true'] at h
 obtain ⟨⟨⟨h1,h2⟩,h3⟩,h4⟩:=h
 exact hS f args (fun e=>by subst e; simp at h1) (fun e=>by subst e; simp at h2) (fun e=>by subst e; simp at h3) (fun e=>by subst e; simp at h4)
theorem lb {a b:Nat} (h:Nat.ble a b=true):a<=b:=Nat.le_of_ble_eq_true h
theorem YO {l:List Int} {x n:Int}:(l++[x]).contains n=(l.contains n||x==n):=by
 rw [Bool.eq_iff_iff]
 simp only [zem,zek,zec,zel,beq_iff_eq]
 exact ⟨fun h=>h.imp id Eq.symm,fun h=>h.imp id Eq.symm⟩
theorem zap {l:List Int} {x n:Int} {i:Nat} (hx:l[i]?=some x) (hb:(x==n)=true):l.contains n=true:=by
 have:=zev hx
 have h2:x=n:=by simpa using hb
 subst h2
 exact zem.2 this
section
variable {S:ySM}
theorem mkv_ff {x:IV}:mkv false [x]=some x:=zc3 rfl rfl
theorem mkv_tt {l:List IV}:mkv true l=some (.agg l):=by cases l with
 | nil=>rfl
 | cons x l=>cases l <;> rfl
theorem sh_shl:isShift .shl=true:=zc3 rfl rfl
theorem sh_shr:isShift .shr=true:=zc3 rfl rfl
theorem sh_add:isShift .add=false:=zc3 rfl rfl
theorem sh_sub:isShift .sub=false:=zc3 rfl rfl
theorem sh_mul:isShift .mul=false:=zc3 rfl rfl
theorem sh_quo:isShift .quo=false:=zc3 rfl rfl
theorem sh_rem:isShift .rem=false:=zc3 rfl rfl
theorem sh_and:isShift .and=false:=zc3 rfl rfl
theorem sh_or:isShift .or=false:=zc3 rfl rfl
theorem sh_xor:isShift .xor=false:=zc3 rfl rfl
theorem sh_eql:isShift .eql=false:=zc3 rfl rfl
theorem sh_neq:isShift .neq=false:=zc3 rfl rfl
theorem sh_lss:isShift .lss=false:=zc3 rfl rfl
theorem sh_leq:isShift .leq=false:=zc3 rfl rfl
theorem sh_gtr:isShift .gtr=false:=zc3 rfl rfl
theorem sh_geq:isShift .geq=false:=zc3 rfl rfl
theorem repl_0 {x:IObj}:List.replicate 0 x=[]:=zc3 rfl rfl
theorem repl_1 {x:IObj}:List.replicate 1 x=[x]:=zc3 rfl rfl
theorem repl_2 {x:IObj}:List.replicate 2 x=[x,x]:=zc3 rfl rfl
theorem repl_3 {x:IObj}:List.replicate 3 x=[x,x,x]:=zc3 rfl rfl
theorem repl_4 {x:IObj}:List.replicate 4 x=[x,x,x,x]:=zc3 rfl rfl
theorem repl_5 {x:IObj}:List.replicate 5 x=[x,x,x,x,x]:=zc3 rfl rfl
theorem repl_6 {x:IObj}:List.replicate 6 x=[x,x,x,x,x,x]:=zc3 rfl rfl
theorem W0:(type_of% @Wall)/\(type_of% @zc5.{0})/\(type_of% @zdg.{0})/\(type_of% @zdc.{0})/\(type_of% @zeu.{0})/\(type_of% @List.all_nil.{0})/\(type_of% @zd6)/\(type_of% @zeh)/\(type_of% @zdk)/\(type_of% @if_true.{1})/\(type_of% @zcu.{0})/\(type_of% @zco.{0})/\(type_of% @zc8)/\(type_of% @Nat.add_zero)/\(type_of% @zcw)/\(type_of% @and_self)/\(type_of% @and_true)/\(type_of% @true_and)/\(type_of% @zde.{0})/\(type_of% @zct.{0})/\(type_of% @zcp.{0,0})/\(type_of% @zdd.{0,0})/\(type_of% @zc9.{0,0})/\(type_of% @zc6)/\(type_of% @if_false.{1})/\(type_of% @zdu.{0,0})/\(type_of% @zeq.{0,0})/\(type_of% @Int.ofNat_lt)/\(type_of% @decide_true)/\(type_of% @decide_false)/\(type_of% @beq_iff_eq.{0})/\(type_of% @zda.{0})/\(type_of% @zcv.{0})/\(type_of% @zes)/\(type_of% @zeg)/\(type_of% @mkAt.eq_1)/\(type_of% @Go.Proofs.YthodhjagohdcnaaGreatDoor.look.eq_1)/\(type_of% @mkv_ff)/\(type_of% @mkv_tt)/\(type_of% @binI.eq_1)/\(type_of% @binI.eq_2)/\(type_of% @intBin.eq_1)/\(type_of% @intBin.eq_2)/\(type_of% @intBin.eq_3)/\(type_of% @intBin.eq_4)/\(type_of% @intBin.eq_5)/\(type_of% @intBin.eq_6)/\(type_of% @intBin.eq_7)/\(type_of% @intBin.eq_8)/\(type_of% @intBin.eq_9)/\(type_of% @intBin.eq_10)/\(type_of% @intBin.eq_11)/\(type_of% @intBin.eq_12)/\(type_of% @intBin.eq_13)/\(type_of% @intBin.eq_14)/\(type_of% @sh_shl)/\(type_of% @sh_shr)/\(type_of% @sh_add)/\(type_of% @sh_sub)/\(type_of% @sh_mul)/\(type_of% @sh_quo)/\(type_of% @sh_rem)/\(type_of% @sh_and)/\(type_of% @sh_or)/\(type_of% @sh_xor)/\(type_of% @sh_eql)/\(type_of% @sh_neq)/\(type_of% @sh_lss)/\(type_of% @sh_leq)/\(type_of% @sh_gtr)/\(type_of% @sh_geq)/\(type_of% @unI.eq_1)/\(type_of% @unI.eq_2)/\(type_of% @fillI.eq_1)/\(type_of% @fillI.eq_2)/\(type_of% @cellV.eq_1)/\(type_of% @e_nilchk.eq_1)/\(type_of% @e_pick.eq_1)/\(type_of% @e_box.eq_1)/\(type_of% @e_bslice.eq_1)/\(type_of% @e_load.eq_1)/\(type_of% @e_store.eq_1)/\(type_of% @e_eqb.eq_1)/\(type_of% @e_eqp.eq_1)/\(type_of% @e_eqs.eq_1)/\(type_of% @e_eqagg.eq_1)/\(type_of% @e_conv.eq_1)/\(type_of% @e_faddr.eq_1)/\(type_of% @e_field.eq_1)/\(type_of% @e_extract.eq_1)/\(type_of% @e_call.eq_1)/\(type_of% @e_mx.eq_1)/\(type_of% @repl_0)/\(type_of% @repl_1)/\(type_of% @repl_2)/\(type_of% @repl_3)/\(type_of% @repl_4)/\(type_of% @repl_5)/\(type_of% @repl_6) :=
 ⟨@Wall,@zc5.{0},@zdg.{0},@zdc.{0},@zeu.{0},@List.all_nil.{0},@zd6,@zeh,@zdk,@if_true.{1},@zcu.{0},@zco.{0},@zc8,@Nat.add_zero,@zcw,@and_self,@and_true,@true_and,@zde.{0},@zct.{0},@zcp.{0,0},@zdd.{0,0},@zc9.{0,0},@zc6,@if_false.{1},@zdu.{0,0},@zeq.{0,0},@Int.ofNat_lt,@decide_true,@decide_false,@beq_iff_eq.{0},@zda.{0},@zcv.{0},@zes,@zeg,@mkAt.eq_1,@Go.Proofs.YthodhjagohdcnaaGreatDoor.look.eq_1,@mkv_ff,@mkv_tt,@binI.eq_1,@binI.eq_2,@intBin.eq_1,@intBin.eq_2,@intBin.eq_3,@intBin.eq_4,@intBin.eq_5,@intBin.eq_6,@intBin.eq_7,@intBin.eq_8,@intBin.eq_9,@intBin.eq_10,@intBin.eq_11,@intBin.eq_12,@intBin.eq_13,@intBin.eq_14,@sh_shl,@sh_shr,@sh_add,@sh_sub,@sh_mul,@sh_quo,@sh_rem,@sh_and,@sh_or,@sh_xor,@sh_eql,@sh_neq,@sh_lss,@sh_leq,@sh_gtr,@sh_geq,@unI.eq_1,@unI.eq_2,@fillI.eq_1,@fillI.eq_2,@cellV.eq_1,@e_nilchk.eq_1,@e_pick.eq_1,@e_box.eq_1,@e_bslice.eq_1,@e_load.eq_1,@e_store.eq_1,@e_eqb.eq_1,@e_eqp.eq_1,@e_eqs.eq_1,@e_eqagg.eq_1,@e_conv.eq_1,@e_faddr.eq_1,@e_field.eq_1,@e_extract.eq_1,@e_call.eq_1,@e_mx.eq_1,@repl_0,@repl_1,@repl_2,@repl_3,@repl_4,@repl_5,@repl_6⟩
theorem zae (hS:NoS S) (l:SlOf 1 intc) (n:Int):Gives Ftab S 18 [l.v,iv n] (.bool (l.l.contains n)):=by
 refine zy (i:=i18) (k:=1) (hS _ _ (by decide) (by decide) (by decide) (by decide)) rfl rfl zw (l.l.length+2) (by omega) fun m hm d out=>?_
 simp only [i18,W0,sevalprocAttr]
 refine zb (fun j st=>∃ i,j=l.l.length - i/\i<=l.l.length/\(l.l.take i).contains n=false/\∃ a2 a3 a6 a7 a8 a9 a10 a11 a12 a13 a14 a15 a16 a17,st=⟨[l.v,iv n,a2,a3,.bool false,iv i,a6,a7,a8,a9,a10,a11,a12,a13,a14,a15,a16,a17],[]⟩) l.l.length (by omega) ⟨0,by omega,by omega,by simp,_,_,_,_,_,_,_,_,_,_,_,_,_,_,rfl⟩ ?_
 rintro j st K ⟨i,rfl,hi,hc,a2,a3,a6,a7,a8,a9,a10,a11,a12,a13,a14,a15,a16,a17,rfl⟩ hn he hr
 by_cases h:i<l.l.length
 ·have hx:l.l[i]?=some l.l[i]:=zcm h
  generalize l.l[i]=x at hx
  have hrd:rdN (l.l.flatMap intc) (i*1) 1=some [iv x]:=zc zn 0 1 hx (by omega)
  have hw:wrapI .i64 ((i:Int)+1)=((i+1:Nat):Int):=zC (by have:=l.few; omega)
  cases hb:x==n
  ·simp only [W0,sevalprocAttr,h,za l h,hrd,hb,hw]
   refine hn _ (l.l.length - (i+1)) (by omega) ⟨i+1,rfl,by omega,?_,_,_,_,_,_,_,_,_,_,_,_,_,_,_,rfl⟩
   rw [zee,hx,zet,YO,hc,hb]
   rfl
  ·simp only [W0,sevalprocAttr,h,za l h,hrd,hb]
   refine hr _ ?_
   simp only [W0,sevalprocAttr]
   rw [zap hx hb]
 ·simp only [W0,sevalprocAttr,h]
  refine he _ _ ?_
  simp only [W0,sevalprocAttr]
  rw [← hc,zcx (by omega)]
end
end
section
section
variable {S:ySM}
theorem gives_index (hS:NoS S) (l:SlOf 1 intc) (n:Int):∃ r:Int,Gives Ftab S 68 [l.v,iv n] (iv r)/\decide (r≥0)=l.l.contains n:=by
 have key:∀ r:Int,(∀ i:Nat,(i<l.l.length->(l.l.take i).contains n=false->∀ x,l.l[i]?=some x->(n==x)=true->r=i))->(l.l.contains n=false->r=-1)->Gives Ftab S 68 [l.v,iv n] (iv r):=by
  intro r h1 h2
  refine zy (i:=i68) (k:=1) (ns hS (by rfl)) rfl rfl zx (l.l.length+2) (by omega) fun m hm d out=>?_
  simp only [i68,W0,sevalprocAttr]
  refine zb (fun j st=>∃ i,j=l.l.length - i/\i<=l.l.length/\(l.l.take i).contains n=false/\∃ a2 a3 a4 a5 a9 a10 a11 a12 a13 a14 a15 a16 a17 a18,st=⟨[l.v,iv n,a2,a3,a4,a5,l.v,iv (l.l.length:Nat),iv i,a9,a10,a11,a12,a13,a14,a15,a16,a17,a18],[]⟩) l.l.length (by omega) ⟨0,by omega,by omega,by simp,_,_,_,_,_,_,_,_,_,_,_,_,_,_,rfl⟩ ?_
  rintro j st K ⟨i,rfl,hi,hc,a2,a3,a4,a5,a9,a10,a11,a12,a13,a14,a15,a16,a17,a18,rfl⟩ hn he hr
  by_cases h:i<l.l.length
  ·have hx:l.l[i]?=some l.l[i]:=zcm h
   generalize l.l[i]=x at hx
   have hrd:rdN (l.l.flatMap intc) (i*1) 1=some [iv x]:=zc zn 0 1 hx (by omega)
   have hw:wrapI .i64 ((i:Int)+1)=((i+1:Nat):Int):=zC (by have:=l.few; omega)
   cases hb:n==x
   ·simp only [W0,sevalprocAttr,h,za l h,hrd,hb,hw]
    refine hn _ (l.l.length - (i+1)) (by omega) ⟨i+1,rfl,by omega,?_,_,_,_,_,_,_,_,_,_,_,_,_,_,_,rfl⟩
    rw [zee,hx,zet,YO,hc,Bool.beq_comm,hb]
    rfl
   ·simp only [W0,sevalprocAttr,h,za l h,hrd,hb]
    refine hr _ ?_
    simp only [W0,sevalprocAttr]
    rw [h1 i h hc x hx hb]
  ·simp only [W0,sevalprocAttr,h]
   refine he _ _ ?_
   simp only [W0,sevalprocAttr]
   rw [h2 (by rw [← hc,zcx (by omega)])]
 cases hc:l.l.contains n
 ·refine ⟨-1,key _ (fun i hi _ x hx hb=>?_) (fun _=>rfl),by simp⟩
  rw [zap hx (by rw [Bool.beq_comm]; exact hb)] at hc
  simp at hc
 ·have hm:n∈l.l:=zem.1 hc
  refine ⟨(l.l.idxOf n:Nat),key _ (fun i hi ht x hx hb=>?_) (fun h=>by rw [h] at hc; simp at hc),by simp⟩
  have hxn:n=x:=by simpa using hb
  subst hxn
  have h1:l.l=l.l.take i++n::l.l.drop (i+1):=by
   conv=>lhs; rw [← List.take_append_drop i l.l]
   congr 1
   rw [List.drop_eq_getElem_cons hi]
   congr 1
   have:=zcm hi
   rw [hx] at this
   exact (zd1 this).symm
  have h2:n ∉ l.l.take i:=fun h=>by rw [zem.2 h] at ht; simp at ht
  rw [h1,List.idxOf_append,if_neg h2,List.idxOf_cons_self,zd9,zc8,Nat.min_eq_left (by omega)]
theorem Zc (hS:NoS S) (l:SlOf 1 intc) (n:Int):Gives Ftab S 31 [l.v,iv n] (.bool (l.l.contains n)):=by
 obtain ⟨r,⟨N,hN⟩,hr⟩:=gives_index hS l n
 refine zy (i:=i31) (k:=1) (ns hS (by rfl)) rfl rfl zw (N+1) (by omega) fun m hm d out=>?_
 have hcall:=hN m (by omega)
 simp only [zg] at hcall
 simp only [i31,W0,sevalprocAttr,hcall]
 rw [hr]
end
end
section
def shapeI (k:Int):Int:=bif k==1||k==2||k==8 then 1 else bif k==3||k==4 then 2 else bif k==5||k==6||k==7 then 3 else 0
theorem intc_fz:∀ a,∀ x∈intc a,Fz 1 x:=fun a x hx=>by
 simp only [intc,zec] at hx
 subst hx
 exact zx
theorem ZL:∀ a:Pt,∀ x∈a.c,Fz 1 x:=fun a x hx=>by
 simp only [Pt.c,zdi,zdo,or_false] at hx
 rcases hx with rfl | rfl <;> exact zx
section
variable {C:Call} {d:Nat} {out:yLM} {n0:Nat} {own ownV:yLO} {t:List IV}
noncomputable def appV (d n0:Nat) (lk:Nat->Nat->Option IObj) (own:yLO) (sz:Nat) (s:IV) (slot:Nat) (r:Option (List IV × Nat)):Res:=match r with
 | some (new,n)=>appendI d n0 lk own sz s new n slot
 | none=>none
theorem zB {z:List IV} {sz:Nat} {s x:Opd} {slot:Nat}:e_append d out n0 ownV own t z sz false s x slot=appV d n0 (look d out ownV) own sz (ρ t s) slot (cellsI (look d out ownV) sz (ρ t x)):=zc3 rfl rfl
theorem zH {lk:Nat->Nat->Option IObj} {sz slot n:Nat} {s:IV} {new:List IV}:appV d n0 lk own sz s slot (some (new,n))=appendI d n0 lk own sz s new n slot:=zc3 rfl rfl
theorem app_row {lk:Nat->Nat->Option IObj} {sz slot n:Nat} {new:List IV} (h:n≠0) (hb:0+n<=1073741824):appendI d n0 lk own sz (.slC [] 0 sz true) new n slot=mkAt own (n0+slot) (.cells new) (.slM d (n0+slot) 0 n n sz false):=by
 unfold appendI
 rw [if_neg h]
 simp only
 rw [if_pos ⟨by unfold bound; omega,trivial⟩]
 simp [seg,zd]
theorem eqs_tt:(false != true)=true:=zc3 rfl rfl
theorem eqs_tf:(false != false)=false:=zc3 rfl rfl
end
section
variable {S:ySM}
theorem gives_shape (hS:NoS S) (k:Int):Gives Ftab S 15 [iv k] (iv (shapeI k)):=by
 refine zy (i:=i15) (k:=1) (ns hS (by rfl)) rfl rfl zx 1 (by omega) fun m hm d out=>?_
 cases h1:k==1
 rotate_left
 ·simp only [i15,W0,sevalprocAttr,h1]
  simp only [shapeI,h1,W0,sevalprocAttr]
  rfl
 cases h2:k==2
 rotate_left
 ·simp only [i15,W0,sevalprocAttr,h1,h2]
  simp only [shapeI,h1,h2,W0,sevalprocAttr]
  rfl
 cases h8:k==8
 rotate_left
 ·simp only [i15,W0,sevalprocAttr,h1,h2,h8]
  simp only [shapeI,h1,h2,h8,W0,sevalprocAttr]
  rfl
 cases h3:k==3
 rotate_left
 ·simp only [i15,W0,sevalprocAttr,h1,h2,h8,h3]
  simp only [shapeI,h1,h2,h8,h3,W0,sevalprocAttr]
  rfl
 cases h4:k==4
 rotate_left
 ·simp only [i15,W0,sevalprocAttr,h1,h2,h8,h3,h4]
  simp only [shapeI,h1,h2,h8,h3,h4,W0,sevalprocAttr]
  rfl
 cases h5:k==5
 rotate_left
 ·simp only [i15,W0,sevalprocAttr,h1,h2,h8,h3,h4,h5]
  simp only [shapeI,h1,h2,h8,h3,h4,h5,W0,sevalprocAttr]
  rfl
 cases h6:k==6
 rotate_left
 ·simp only [i15,W0,sevalprocAttr,h1,h2,h8,h3,h4,h5,h6]
  simp only [shapeI,h1,h2,h8,h3,h4,h5,h6,W0,sevalprocAttr]
  rfl
 cases h7:k==7
 rotate_left
 ·simp only [i15,W0,sevalprocAttr,h1,h2,h8,h3,h4,h5,h6,h7]
  simp only [shapeI,h1,h2,h8,h3,h4,h5,h6,h7,W0,sevalprocAttr]
  rfl
 ·simp only [i15,W0,sevalprocAttr,h1,h2,h8,h3,h4,h5,h6,h7]
  simp only [shapeI,h1,h2,h8,h3,h4,h5,h6,h7,W0,sevalprocAttr]
  rfl
theorem ZM (hS:NoS S) (k:Int):Gives Ftab S 34 [iv k] (iv (shapeI k)):=by
 refine zy (i:=i34) (k:=1) (ns hS (by rfl)) rfl rfl zx 1 (by omega) fun m hm d out=>?_
 cases h1:k==1
 rotate_left
 ·simp only [i34,W0,sevalprocAttr,h1]
  simp only [shapeI,h1,W0,sevalprocAttr]
  rfl
 cases h2:k==2
 rotate_left
 ·simp only [i34,W0,sevalprocAttr,h1,h2]
  simp only [shapeI,h1,h2,W0,sevalprocAttr]
  rfl
 cases h8:k==8
 rotate_left
 ·simp only [i34,W0,sevalprocAttr,h1,h2,h8]
  simp only [shapeI,h1,h2,h8,W0,sevalprocAttr]
  rfl
 cases h3:k==3
 rotate_left
 ·simp only [i34,W0,sevalprocAttr,h1,h2,h8,h3]
  simp only [shapeI,h1,h2,h8,h3,W0,sevalprocAttr]
  rfl
 cases h4:k==4
 rotate_left
 ·simp only [i34,W0,sevalprocAttr,h1,h2,h8,h3,h4]
  simp only [shapeI,h1,h2,h8,h3,h4,W0,sevalprocAttr]
  rfl
 cases h5:k==5
 rotate_left
 ·simp only [i34,W0,sevalprocAttr,h1,h2,h8,h3,h4,h5]
  simp only [shapeI,h1,h2,h8,h3,h4,h5,W0,sevalprocAttr]
  rfl
 cases h6:k==6
 rotate_left
 ·simp only [i34,W0,sevalprocAttr,h1,h2,h8,h3,h4,h5,h6]
  simp only [shapeI,h1,h2,h8,h3,h4,h5,h6,W0,sevalprocAttr]
  rfl
 cases h7:k==7
 rotate_left
 ·simp only [i34,W0,sevalprocAttr,h1,h2,h8,h3,h4,h5,h6,h7]
  simp only [shapeI,h1,h2,h8,h3,h4,h5,h6,h7,W0,sevalprocAttr]
  rfl
 ·simp only [i34,W0,sevalprocAttr,h1,h2,h8,h3,h4,h5,h6,h7]
  simp only [shapeI,h1,h2,h8,h3,h4,h5,h6,h7,W0,sevalprocAttr]
  rfl
theorem gives_cloneI (hS:NoS S) (q:SlOf 1 intc) (hq:q.l.length<=1073741824):∃ q':SlOf 1 intc,q'.l=q.l/\Gives Ftab S 44 [q.v] q'.v:=by
 obtain ⟨l,v,ok,few⟩:=q
 dsimp only at hq ⊢
 have key:∀ (cs:List IV) (n:Nat),Sl 1 cs n v->cs=l.flatMap intc->n=l.length->∃ q':SlOf 1 intc,q'.l=l/\Gives Ftab S 44 [v] q'.v:=by
  intro cs n h hcs hn
  cases h with
  | nil =>
   have hl:l=[]:=zdf.1 hn.symm
   refine ⟨⟨[],.nilsl,.nil,by simp⟩,hl.symm,?_⟩
   refine zy (i:=i44) (k:=1) (ns hS (by rfl)) rfl rfl yU 1 (by omega) fun m hm d out=>?_
   simp only [i44,W0,sevalprocAttr,eqsI,eqs_tt]
  | row _ _ tight h =>
   subst hcs hn
   by_cases h0:l.length=0
   ·have hl:l=[]:=zdf.1 h0
    subst hl
    refine ⟨⟨[],.slC [] 0 1 true,.row _ _ _ rfl,by simp⟩,rfl,?_⟩
    refine zy (i:=i44) (k:=1+1) (ns hS (by rfl)) rfl rfl (fz_slC fun x hx=>by simp at hx) 2 (by omega) fun m hm d out=>?_
    have hc:cellsI (fun l i=>if l=d then (([]++[IObj.free]:yLO))[i]? else if l<d then (out l)[i]? else none) 1 (IV.slC [] 0 1 tight)=some ([],0):=by
     simp [cellsI,seg,zd]
    simp only [i44,W0,sevalprocAttr,eqsI,eqs_tf,zr,zB,appendI,rep,zd3,zcu]
    simp only [cellsI,seg,zd,zdy,Nat.add_zero,zcu,zcw,if_true,List.drop_zero,List.take_zero,zcp,zH,appendI,W0,sevalprocAttr]
   ·refine ⟨⟨l,.slC (l.flatMap intc) l.length 1 (false&&true),.row _ _ _ h,few⟩,rfl,?_⟩
    refine yE (i:=i44) (ns hS (by rfl)) rfl rfl 3 fun m hm d out=>?_
    have hc:∀ lk,cellsI lk 1 (IV.slC (l.flatMap intc) l.length 1 tight)=some (l.flatMap intc,l.length):=fun lk=>zK ⟨l,_,.row _ _ tight h,few⟩
    simp only [i44,W0,sevalprocAttr,eqsI,eqs_tf,zr,zB,rep,hc,zH]
    simp only [app_row h0 (show 0+l.length<=1073741824 by omega),W0,sevalprocAttr]
    refine ⟨_,rfl,?_⟩
    exact yv (k:=1) intc_fz (by omega) rfl zn rfl
 exact key _ _ ok rfl rfl
theorem gives_cloneP (hS:NoS S) (q:SlOf 2 Pt.c) (hq:q.l.length<=1073741824):∃ q':SlOf 2 Pt.c,q'.l=q.l/\Gives Ftab S 108 [q.v] q'.v:=by
 obtain ⟨l,v,ok,few⟩:=q
 dsimp only at hq ⊢
 have key:∀ (cs:List IV) (n:Nat),Sl 2 cs n v->cs=l.flatMap Pt.c->n=l.length->∃ q':SlOf 2 Pt.c,q'.l=l/\Gives Ftab S 108 [v] q'.v:=by
  intro cs n h hcs hn
  cases h with
  | nil =>
   have hl:l=[]:=zdf.1 hn.symm
   refine ⟨⟨[],.nilsl,.nil,by simp⟩,hl.symm,?_⟩
   refine zy (i:=i108) (k:=1) (ns hS (by rfl)) rfl rfl yU 1 (by omega) fun m hm d out=>?_
   simp only [i108,W0,sevalprocAttr,eqsI,eqs_tt]
  | row _ _ tight h =>
   subst hcs hn
   by_cases h0:l.length=0
   ·have hl:l=[]:=zdf.1 h0
    subst hl
    refine ⟨⟨[],.slC [] 0 2 true,.row _ _ _ rfl,by simp⟩,rfl,?_⟩
    refine zy (i:=i108) (k:=1+1) (ns hS (by rfl)) rfl rfl (fz_slC fun x hx=>by simp at hx) 2 (by omega) fun m hm d out=>?_
    have hc:cellsI (fun l i=>if l=d then (([]++[IObj.free]:yLO))[i]? else if l<d then (out l)[i]? else none) 2 (IV.slC [] 0 2 tight)=some ([],0):=by
     simp [cellsI,seg,zd]
    simp only [i108,W0,sevalprocAttr,eqsI,eqs_tf,zr,zB,appendI,rep,zd3,zcu]
    simp only [cellsI,seg,zd,zdy,Nat.add_zero,zcu,zcw,if_true,List.drop_zero,List.take_zero,zcp,zH,appendI,W0,sevalprocAttr]
   ·refine ⟨⟨l,.slC (l.flatMap Pt.c) l.length 2 (false&&true),.row _ _ _ h,few⟩,rfl,?_⟩
    refine yE (i:=i108) (ns hS (by rfl)) rfl rfl 3 fun m hm d out=>?_
    have hc:∀ lk,cellsI lk 2 (IV.slC (l.flatMap Pt.c) l.length 2 tight)=some (l.flatMap Pt.c,l.length):=fun lk=>zK ⟨l,_,.row _ _ tight h,few⟩
    simp only [i108,W0,sevalprocAttr,eqsI,eqs_tf,zr,zB,rep,hc,zH]
    simp only [app_row h0 (show 0+l.length<=1073741824 by omega),W0,sevalprocAttr]
    refine ⟨_,rfl,?_⟩
    exact yv (k:=1) ZL (by omega) rfl Pt.c_len rfl
 exact key _ _ ok rfl rfl
end
end
section
theorem yg {α:Type} {p:α->Bool} {l:List α} {i:Nat} {x:α} (h:(l.take i).find? p=none) (hx:l[i]?=some x) (hp:p x=true):l.find? p=some x:=by
 have hi:=(zcl.1 hx).1
 have h1:l=l.take i++x::l.drop (i+1):=by
  conv=>lhs; rw [← List.take_append_drop i l]
  congr 1
  rw [List.drop_eq_getElem_cons hi]
  congr 1
  rw [zcm hi] at hx
  exact zd1 hx
 rw [h1,List.find?_append,h,Option.none_or,List.find?_cons,hp]
theorem zX {α:Type} {p:α->Bool} {l:List α} {i:Nat} {x:α} (h:(l.take i).find? p=none) (hx:l[i]?=some x) (hp:p x=false):(l.take (i+1)).find? p=none:=by
 rw [zee,hx,zet,List.find?_append,h,Option.none_or,List.find?_cons,hp]
 rfl
theorem ym {α:Type} {p:α->Bool} {l:List α} {i:Nat} (h:(l.take i).find? p=none) (hi:¬ i<l.length):l.find? p=none:=by
 rwa [zcx (by omega)] at h
def nilS (sz:Nat) {α:Type} (g:α->List IV):SlOf sz g:=⟨[],.nilsl,.nil,by simp⟩
def zFt:Ft:=⟨0,0,0,⟨bs [],by decide⟩,nilS 1 intc⟩
def zAc:Ac:=⟨0,0,0,nilS 2 Pt.c,0,0⟩
def zNd:Nd:=⟨0,⟨0,0⟩⟩
theorem zFt_c:zFt.c=[.int .i64 0,.int .i64 0,.int .i64 0,.str (bs []),.nilsl]:=rfl
theorem Zd:zAc.c=[.int .i64 0,.int .i64 0,.int .i64 0,.nilsl,.int .i64 0,.int .i64 0]:=rfl
theorem ZQ:zNd.c=[.int .i64 0,.int .i64 0,.int .i64 0]:=rfl
section
variable {S:ySM}
theorem yF {α:Type} {g:α->List IV} {sz:Nat} (hg:∀ a,∀ x∈g a,Fz 1 x) (q:SlOf sz g):Fz (1+1+1) q.v:=by
 obtain ⟨l,v,ok,few⟩:=q
 have key:∀ (cs:List IV) (n:Nat) (v:IV),Sl sz cs n v->cs=l.flatMap g->Fz (1+1+1) v:=fun cs n v h hcs=>by
  cases h with
  | nil=>exact yU.le (by omega)
  | row _ _ tight h=>subst hcs; exact (sl_fz (k:=1) hg).le (by omega)
 exact key _ _ _ ok rfl
theorem zbv:Fz (1+1+1) (.tuple [.agg ({ (none:Option Ft).getD zFt with parts:=nilS _ _ }:Ft).c,.bool (none:Option Ft).isSome]):=fun m hm lv own=>by
 obtain ⟨m,rfl⟩:∃ q,m=q+3:=⟨m - 3,by omega⟩
 rfl
theorem zbw (f0:Ft) (q:SlOf 1 intc):Fz (1+1+1+1+1) (.tuple [.agg ({ (some f0).getD zFt with parts:=q }:Ft).c,.bool (some f0).isSome]):=by
 refine YI fun x hx=>?_
 simp only [zdi,zdo,or_false] at hx
 rcases hx with rfl | rfl
 ·refine fz_agg fun x hx=>?_
  simp only [Ft.c,zdi,zdo,or_false,zei] at hx
  rcases hx with rfl | rfl | rfl | rfl | rfl
  all_goals first | exact zx.le (by omega) | exact fz_str.le (by omega) | exact yF intc_fz q
 ·exact zw.le (by omega)
theorem gives_find (hS:NoS S) (s:Sv) (id:Int) (hsm:∀ f∈s.ft.l,f.parts.l.length<=1073741824):∃ q',q'.l=((s.ft.l.find? fun f=>f.id==id).getD zFt).parts.l /\
  Gives Ftab S 17 [.agg s.c,iv id] (.tuple [.agg ({ (s.ft.l.find? fun f=>f.id==id).getD zFt with parts:=q' }:Ft).c,.bool (s.ft.l.find? fun f=>f.id==id).isSome]):=by
 cases hf:s.ft.l.find? fun f=>f.id==id with
 | none =>
  refine ⟨nilS _ _,rfl,?_⟩
  refine zy (i:=i17) (k:=1+1+1) (ns hS (by rfl)) rfl rfl zbv (s.ft.l.length+5) (by omega) fun m hm d out=>?_
  simp only [i17,W0,sevalprocAttr,Sv.c]
  refine zb (fun j st=>∃ i,j=s.ft.l.length - i/\i<=s.ft.l.length/\((s.ft.l.take i).find? fun f=>f.id==id)=none/\∃ J a3 a6 a7 a8 a12 a13 a14 a15 a16 a17 a18 a19 a20 a21 a22 a23 a24 a25,st=⟨[.agg s.c,iv id,.ptrM d 0 0,a3,.ptrM d 1 0,.bool false,a6,a7,a8,s.ft.v,iv (s.ft.l.length:Nat),iv i,a12,a13,a14,a15,a16,a17,a18,a19,a20,a21,a22,a23,a24,a25],.cells [s.pl.ns.v,s.pl.as.v,s.pl.fs.v,s.ft.v]::.cells zFt.c::J⟩) s.ft.l.length (by omega) ⟨0,by omega,by omega,by simp,[],_,_,_,_,_,_,_,_,_,_,_,_,_,_,_,_,_,_,rfl⟩ ?_
  rintro j st K ⟨i,rfl,hi,hc,J,a3,a6,a7,a8,a12,a13,a14,a15,a16,a17,a18,a19,a20,a21,a22,a23,a24,a25,rfl⟩ hn he hr
  by_cases h:i<s.ft.l.length
  ·have hx:s.ft.l[i]?=some s.ft.l[i]:=zcm h
   generalize s.ft.l[i]=x at hx
   have hrd:rdN (s.ft.l.flatMap Ft.c) (i*5) 5=some x.c:=(zc Ft.c_len 0 5 hx (by omega)).trans rfl
   have hw:wrapI .i64 ((i:Int)+1)=((i+1:Nat):Int):=zC (by have:=s.ft.few; omega)
   cases hb:x.id==id
   ·simp only [W0,sevalprocAttr,h,za s.ft h,hrd,hb,hw,Ft.c,zFt_c]
    refine hn _ (s.ft.l.length - (i+1)) (by omega) ⟨i+1,rfl,by omega,zX hc hx hb,_,_,_,_,_,_,_,_,_,_,_,_,_,_,_,_,_,_,_,rfl⟩
   ·have hxf:=yg (p:=fun f=>f.id==id) hc hx hb
    rw [hf] at hxf
    simp at hxf
  ·have hxf:=ym hc h
   rw [hf] at hxf
   simp only [W0,sevalprocAttr,h,zFt_c]
   refine he _ _ ?_
   simp only [W0,sevalprocAttr,zFt_c]
   rfl
 | some f0 =>
  obtain ⟨q',hq,N,hN⟩:=gives_cloneI hS f0.parts (hsm f0 (zd4 hf))
  refine ⟨q',hq,?_⟩
  refine zy (i:=i17) (k:=1+1+1+1+1) (ns hS (by rfl)) rfl rfl (zbw f0 q') (N+s.ft.l.length+8) (by omega) fun m hm d out=>?_
  have hcall:=hN m (by omega)
  simp only [i17,W0,sevalprocAttr,Sv.c]
  refine zb (fun j st=>∃ i,j=s.ft.l.length - i/\i<=s.ft.l.length/\((s.ft.l.take i).find? fun f=>f.id==id)=none/\∃ J a3 a6 a7 a8 a12 a13 a14 a15 a16 a17 a18 a19 a20 a21 a22 a23 a24 a25,st=⟨[.agg s.c,iv id,.ptrM d 0 0,a3,.ptrM d 1 0,.bool false,a6,a7,a8,s.ft.v,iv (s.ft.l.length:Nat),iv i,a12,a13,a14,a15,a16,a17,a18,a19,a20,a21,a22,a23,a24,a25],.cells [s.pl.ns.v,s.pl.as.v,s.pl.fs.v,s.ft.v]::.cells zFt.c::J⟩) s.ft.l.length (by omega) ⟨0,by omega,by omega,by simp,[],_,_,_,_,_,_,_,_,_,_,_,_,_,_,_,_,_,_,rfl⟩ ?_
  rintro j st K ⟨i,rfl,hi,hc,J,a3,a6,a7,a8,a12,a13,a14,a15,a16,a17,a18,a19,a20,a21,a22,a23,a24,a25,rfl⟩ hn he hr
  by_cases h:i<s.ft.l.length
  ·have hx:s.ft.l[i]?=some s.ft.l[i]:=zcm h
   generalize s.ft.l[i]=x at hx
   have hrd:rdN (s.ft.l.flatMap Ft.c) (i*5) 5=some x.c:=(zc Ft.c_len 0 5 hx (by omega)).trans rfl
   have hw:wrapI .i64 ((i:Int)+1)=((i+1:Nat):Int):=zC (by have:=s.ft.few; omega)
   cases hb:x.id==id
   ·simp only [W0,sevalprocAttr,h,za s.ft h,hrd,hb,hw,Ft.c,zFt_c]
    refine hn _ (s.ft.l.length - (i+1)) (by omega) ⟨i+1,rfl,by omega,zX hc hx hb,_,_,_,_,_,_,_,_,_,_,_,_,_,_,_,_,_,_,_,rfl⟩
   ·have hxf:=yg (p:=fun f=>f.id==id) hc hx hb
    rw [hf] at hxf
    obtain rfl:=zd1 hxf
    simp only [W0,sevalprocAttr,h,za s.ft h,hrd,hb,Ft.c,zFt_c,hcall]
    refine hr _ ?_
    simp only [W0,sevalprocAttr,zFt_c,hcall]
    rfl
  ·have hxf:=ym hc h
   rw [hf] at hxf
   simp at hxf
theorem Yo:Fz (1+1+1) (.tuple [.agg ({ (none:Option Ac).getD zAc with via:=nilS _ _ }:Ac).c,.bool (none:Option Ac).isSome]):=fun m hm lv own=>by
 obtain ⟨m,rfl⟩:∃ q,m=q+3:=⟨m - 3,by omega⟩
 rfl
theorem gives_arc_fz1 (f0:Ac) (q:SlOf 2 Pt.c):Fz (1+1+1+1+1) (.tuple [.agg ({ (some f0).getD zAc with via:=q }:Ac).c,.bool (some f0).isSome]):=by
 refine YI fun x hx=>?_
 simp only [zdi,zdo,or_false] at hx
 rcases hx with rfl | rfl
 ·refine fz_agg fun x hx=>?_
  simp only [Ac.c,zdi,zdo,or_false,zei] at hx
  rcases hx with rfl | rfl | rfl | rfl | rfl | rfl
  all_goals first | exact zx.le (by omega) | exact fz_str.le (by omega) | exact yF ZL q
 ·exact zw.le (by omega)
theorem zaf (hS:NoS S) (p:Pn) (id:Int) (hsm:∀ f∈p.as.l,f.via.l.length<=1073741824):∃ q',q'.l=((p.as.l.find? fun f=>f.id==id).getD zAc).via.l /\
  Gives Ftab S 69 [.agg p.c,iv id] (.tuple [.agg ({ (p.as.l.find? fun f=>f.id==id).getD zAc with via:=q' }:Ac).c,.bool (p.as.l.find? fun f=>f.id==id).isSome]):=by
 cases hf:p.as.l.find? fun f=>f.id==id with
 | none =>
  refine ⟨nilS _ _,rfl,?_⟩
  refine zy (i:=i69) (k:=1+1+1) (ns hS (by rfl)) rfl rfl Yo (p.as.l.length+5) (by omega) fun m hm d out=>?_
  simp only [i69,W0,sevalprocAttr,Pn.c]
  refine zb (fun j st=>∃ i,j=p.as.l.length - i/\i<=p.as.l.length/\((p.as.l.take i).find? fun f=>f.id==id)=none/\∃ J a3 a6 a7 a8 a12 a13 a14 a15 a16 a17 a18 a19 a20 a21 a22 a23 a24 a25,st=⟨[.agg p.c,iv id,.ptrM d 0 0,a3,.ptrM d 1 0,.bool false,a6,a7,a8,p.as.v,iv (p.as.l.length:Nat),iv i,a12,a13,a14,a15,a16,a17,a18,a19,a20,a21,a22,a23,a24,a25],.cells [p.ns.v,p.as.v,p.fs.v]::.cells zAc.c::J⟩) p.as.l.length (by omega) ⟨0,by omega,by omega,by simp,[],_,_,_,_,_,_,_,_,_,_,_,_,_,_,_,_,_,_,rfl⟩ ?_
  rintro j st K ⟨i,rfl,hi,hc,J,a3,a6,a7,a8,a12,a13,a14,a15,a16,a17,a18,a19,a20,a21,a22,a23,a24,a25,rfl⟩ hn he hr
  by_cases h:i<p.as.l.length
  ·have hx:p.as.l[i]?=some p.as.l[i]:=zcm h
   generalize p.as.l[i]=x at hx
   have hrd:rdN (p.as.l.flatMap Ac.c) (i*6) 6=some x.c:=(zc Ac.c_len 0 6 hx (by omega)).trans rfl
   have hw:wrapI .i64 ((i:Int)+1)=((i+1:Nat):Int):=zC (by have:=p.as.few; omega)
   cases hb:x.id==id
   ·simp only [W0,sevalprocAttr,h,za p.as h,hrd,hb,hw,Ac.c,Zd]
    refine hn _ (p.as.l.length - (i+1)) (by omega) ⟨i+1,rfl,by omega,zX hc hx hb,_,_,_,_,_,_,_,_,_,_,_,_,_,_,_,_,_,_,_,rfl⟩
   ·have hxf:=yg (p:=fun f=>f.id==id) hc hx hb
    rw [hf] at hxf
    simp at hxf
  ·have hxf:=ym hc h
   rw [hf] at hxf
   simp only [W0,sevalprocAttr,h,Zd]
   refine he _ _ ?_
   simp only [W0,sevalprocAttr,Zd]
   rfl
 | some f0 =>
  obtain ⟨q',hq,N,hN⟩:=gives_cloneP hS f0.via (hsm f0 (zd4 hf))
  refine ⟨q',hq,?_⟩
  refine zy (i:=i69) (k:=1+1+1+1+1) (ns hS (by rfl)) rfl rfl (gives_arc_fz1 f0 q') (N+p.as.l.length+8) (by omega) fun m hm d out=>?_
  have hcall:=hN m (by omega)
  simp only [i69,W0,sevalprocAttr,Pn.c]
  refine zb (fun j st=>∃ i,j=p.as.l.length - i/\i<=p.as.l.length/\((p.as.l.take i).find? fun f=>f.id==id)=none/\∃ J a3 a6 a7 a8 a12 a13 a14 a15 a16 a17 a18 a19 a20 a21 a22 a23 a24 a25,st=⟨[.agg p.c,iv id,.ptrM d 0 0,a3,.ptrM d 1 0,.bool false,a6,a7,a8,p.as.v,iv (p.as.l.length:Nat),iv i,a12,a13,a14,a15,a16,a17,a18,a19,a20,a21,a22,a23,a24,a25],.cells [p.ns.v,p.as.v,p.fs.v]::.cells zAc.c::J⟩) p.as.l.length (by omega) ⟨0,by omega,by omega,by simp,[],_,_,_,_,_,_,_,_,_,_,_,_,_,_,_,_,_,_,rfl⟩ ?_
  rintro j st K ⟨i,rfl,hi,hc,J,a3,a6,a7,a8,a12,a13,a14,a15,a16,a17,a18,a19,a20,a21,a22,a23,a24,a25,rfl⟩ hn he hr
  by_cases h:i<p.as.l.length
  ·have hx:p.as.l[i]?=some p.as.l[i]:=zcm h
   generalize p.as.l[i]=x at hx
   have hrd:rdN (p.as.l.flatMap Ac.c) (i*6) 6=some x.c:=(zc Ac.c_len 0 6 hx (by omega)).trans rfl
   have hw:wrapI .i64 ((i:Int)+1)=((i+1:Nat):Int):=zC (by have:=p.as.few; omega)
   cases hb:x.id==id
   ·simp only [W0,sevalprocAttr,h,za p.as h,hrd,hb,hw,Ac.c,Zd]
    refine hn _ (p.as.l.length - (i+1)) (by omega) ⟨i+1,rfl,by omega,zX hc hx hb,_,_,_,_,_,_,_,_,_,_,_,_,_,_,_,_,_,_,_,rfl⟩
   ·have hxf:=yg (p:=fun f=>f.id==id) hc hx hb
    rw [hf] at hxf
    obtain rfl:=zd1 hxf
    simp only [W0,sevalprocAttr,h,za p.as h,hrd,hb,Ac.c,Zd,hcall]
    refine hr _ ?_
    simp only [W0,sevalprocAttr,Zd,hcall]
    rfl
  ·have hxf:=ym hc h
   rw [hf] at hxf
   simp at hxf
theorem ZZ (f0:Nd):Fz (1+1+1) (.tuple [.agg ((some f0).getD zNd).c,.bool (some f0).isSome]):=fun m hm lv own=>by
 obtain ⟨m,rfl⟩:∃ q,m=q+3:=⟨m - 3,by omega⟩
 rfl
theorem Z0:Fz (1+1+1) (.tuple [.agg ((none:Option Nd).getD zNd).c,.bool (none:Option Nd).isSome]):=fun m hm lv own=>by
 obtain ⟨m,rfl⟩:∃ q,m=q+3:=⟨m - 3,by omega⟩
 rfl
theorem Ze (hS:NoS S) (p:Pn) (id:Int):Gives Ftab S 47 [.agg p.c,iv id] (.tuple [.agg ((p.ns.l.find? fun f=>f.id==id).getD zNd).c,.bool (p.ns.l.find? fun f=>f.id==id).isSome]):=by
 cases hf:p.ns.l.find? fun f=>f.id==id with
 | none =>
  refine zy (i:=i47) (k:=1+1+1) (ns hS (by rfl)) rfl rfl Z0 (p.ns.l.length+5) (by omega) fun m hm d out=>?_
  simp only [i47,W0,sevalprocAttr,Pn.c]
  refine zb (fun j st=>∃ i,j=p.ns.l.length - i/\i<=p.ns.l.length/\((p.ns.l.take i).find? fun f=>f.id==id)=none/\∃ J a3 a6 a7 a8 a12 a13 a14 a15 a16 a17 a18 a19 a20 a21,st=⟨[.agg p.c,iv id,.ptrM d 0 0,a3,.ptrM d 1 0,.bool false,a6,a7,a8,p.ns.v,iv (p.ns.l.length:Nat),iv i,a12,a13,a14,a15,a16,a17,a18,a19,a20,a21],.cells [p.ns.v,p.as.v,p.fs.v]::.cells zNd.c::J⟩) p.ns.l.length (by omega) ⟨0,by omega,by omega,by simp,[],_,_,_,_,_,_,_,_,_,_,_,_,_,_,rfl⟩ ?_
  rintro j st K ⟨i,rfl,hi,hc,J,a3,a6,a7,a8,a12,a13,a14,a15,a16,a17,a18,a19,a20,a21,rfl⟩ hn he hr
  by_cases h:i<p.ns.l.length
  ·have hx:p.ns.l[i]?=some p.ns.l[i]:=zcm h
   generalize p.ns.l[i]=x at hx
   have hrd:rdN (p.ns.l.flatMap Nd.c) (i*3) 3=some x.c:=(zc Nd.c_len 0 3 hx (by omega)).trans rfl
   have hw:wrapI .i64 ((i:Int)+1)=((i+1:Nat):Int):=zC (by have:=p.ns.few; omega)
   cases hb:x.id==id
   ·simp only [W0,sevalprocAttr,h,za p.ns h,hrd,hb,hw,Nd.c,ZQ]
    refine hn _ (p.ns.l.length - (i+1)) (by omega) ⟨i+1,rfl,by omega,zX hc hx hb,_,_,_,_,_,_,_,_,_,_,_,_,_,_,_,rfl⟩
   ·have hxf:=yg (p:=fun f=>f.id==id) hc hx hb
    rw [hf] at hxf
    simp at hxf
  ·have hxf:=ym hc h
   rw [hf] at hxf
   simp only [W0,sevalprocAttr,h,ZQ]
   refine he _ _ ?_
   simp only [W0,sevalprocAttr,ZQ]
   rfl
 | some f0 =>
  refine zy (i:=i47) (k:=1+1+1) (ns hS (by rfl)) rfl rfl (ZZ f0) (p.ns.l.length+8) (by omega) fun m hm d out=>?_
  simp only [i47,W0,sevalprocAttr,Pn.c]
  refine zb (fun j st=>∃ i,j=p.ns.l.length - i/\i<=p.ns.l.length/\((p.ns.l.take i).find? fun f=>f.id==id)=none/\∃ J a3 a6 a7 a8 a12 a13 a14 a15 a16 a17 a18 a19 a20 a21,st=⟨[.agg p.c,iv id,.ptrM d 0 0,a3,.ptrM d 1 0,.bool false,a6,a7,a8,p.ns.v,iv (p.ns.l.length:Nat),iv i,a12,a13,a14,a15,a16,a17,a18,a19,a20,a21],.cells [p.ns.v,p.as.v,p.fs.v]::.cells zNd.c::J⟩) p.ns.l.length (by omega) ⟨0,by omega,by omega,by simp,[],_,_,_,_,_,_,_,_,_,_,_,_,_,_,rfl⟩ ?_
  rintro j st K ⟨i,rfl,hi,hc,J,a3,a6,a7,a8,a12,a13,a14,a15,a16,a17,a18,a19,a20,a21,rfl⟩ hn he hr
  by_cases h:i<p.ns.l.length
  ·have hx:p.ns.l[i]?=some p.ns.l[i]:=zcm h
   generalize p.ns.l[i]=x at hx
   have hrd:rdN (p.ns.l.flatMap Nd.c) (i*3) 3=some x.c:=(zc Nd.c_len 0 3 hx (by omega)).trans rfl
   have hw:wrapI .i64 ((i:Int)+1)=((i+1:Nat):Int):=zC (by have:=p.ns.few; omega)
   cases hb:x.id==id
   ·simp only [W0,sevalprocAttr,h,za p.ns h,hrd,hb,hw,Nd.c,ZQ]
    refine hn _ (p.ns.l.length - (i+1)) (by omega) ⟨i+1,rfl,by omega,zX hc hx hb,_,_,_,_,_,_,_,_,_,_,_,_,_,_,_,rfl⟩
   ·have hxf:=yg (p:=fun f=>f.id==id) hc hx hb
    rw [hf] at hxf
    obtain rfl:=zd1 hxf
    simp only [W0,sevalprocAttr,h,za p.ns h,hrd,hb,Nd.c,ZQ]
    refine hr _ ?_
    simp only [W0,sevalprocAttr,ZQ]
    rfl
  ·have hxf:=ym hc h
   rw [hf] at hxf
   simp at hxf
end
end
section
section
variable {d k n0:Nat} {lk:Nat->Nat->Option IObj} {own:yLO} {p p':IV}
theorem app_zero {sz z len slot:Nat} {cs new:List IV} {tight:Bool}:appendI d n0 lk own sz (.slC cs len z tight) new 0 slot=some (.r,.slC cs len z tight,own):=by
 unfold appendI
 rw [if_pos rfl]
theorem Zs {f:IV->Option IV} {x y:IV} {l l':List IV} (h:f x=some y) (h2:l.mapM f=some l'):(x::l).mapM f=some (y::l'):=by
 rw [zep,h,h2]
 rfl
theorem mapM_n {f:IV->Option IV}:([]:List IV).mapM f=some []:=rfl
theorem YP {cs cs':List IV} (h:cs.mapM (freeze k d own)=some cs'):freeze (k+1) d own (.tuple cs)=some (.tuple cs'):=by simp only [freeze,h,zcp]
theorem freeze_agg {cs cs':List IV} (h:cs.mapM (freeze k d own)=some cs'):freeze (k+1) d own (.agg cs)=some (.agg cs'):=by simp only [freeze,h,zcp]
theorem freeze_ac {a b c e f:Int} {t:Bool} (hp:freeze (k+1) d own p=some p'):freeze (k+1+1+1) d own (.tuple [.agg [.int .i64 a,.int .i64 b,.int .i64 c,p,.int .i64 e,.int .i64 f],.bool t])=some (.tuple [.agg [.int .i64 a,.int .i64 b,.int .i64 c,p',.int .i64 e,.int .i64 f],.bool t]) :=
 YP (Zs (freeze_agg (Zs rfl (Zs rfl (Zs rfl (Zs hp (Zs rfl (Zs rfl mapM_n))))))) (Zs rfl mapM_n))
theorem freeze_slC0 {sz:Nat} {tight:Bool}:freeze (k+1) d own (.slC [] 0 sz tight)=some (.slC [] 0 sz tight):=by simp [freeze]
end
section
variable {S:ySM}
theorem gives_rarc (hS:NoS S) (p:Pn) (id:Int) (hsm:∀ f∈p.as.l,f.via.l.length<=1073741824):∃ q',q'.l=((p.as.l.find? fun f=>f.id==id).getD zAc).via.l /\
  Gives Ftab S 79 [.agg p.c,iv id] (.tuple [.agg ({ (p.as.l.find? fun f=>f.id==id).getD zAc with via:=q' }:Ac).c,.bool (p.as.l.find? fun f=>f.id==id).isSome]):=by
 cases hf:p.as.l.find? fun f=>f.id==id with
 | none =>
  refine ⟨nilS _ _,rfl,?_⟩
  refine zy (i:=i79) (k:=1+1+1) (ns hS (by rfl)) rfl rfl Yo (p.as.l.length+5) (by omega) fun m hm d out=>?_
  simp only [i79,W0,sevalprocAttr,Pn.c]
  refine zb (fun j st=>∃ i,j=p.as.l.length - i/\i<=p.as.l.length/\((p.as.l.take i).find? fun f=>f.id==id)=none/\∃ J a3 a7 a8 a9 a10 a11 a12 a13 a14 a15 a16 a17 a18 a19 a20 a21 a22 a23 a24 a25 a26 a27 a28 a29 a30 a31 a32 a33 a34,st=⟨[.agg p.c,iv id,.ptrM d 0 0,a3,.ptrM d 1 0,.bool false,iv i,a7,a8,a9,a10,a11,a12,a13,a14,a15,a16,a17,a18,a19,a20,a21,a22,a23,a24,a25,a26,a27,a28,a29,a30,a31,a32,a33,a34],.cells [p.ns.v,p.as.v,p.fs.v]::.cells zAc.c::J⟩) p.as.l.length (by omega) ⟨0,by omega,by omega,by simp,[],_,_,_,_,_,_,_,_,_,_,_,_,_,_,_,_,_,_,_,_,_,_,_,_,_,_,_,_,_,rfl⟩ ?_
  rintro j st K ⟨i,rfl,hi,hc,J,a3,a7,a8,a9,a10,a11,a12,a13,a14,a15,a16,a17,a18,a19,a20,a21,a22,a23,a24,a25,a26,a27,a28,a29,a30,a31,a32,a33,a34,rfl⟩ hn he hr
  by_cases h:i<p.as.l.length
  ·have hx:p.as.l[i]?=some p.as.l[i]:=zcm h
   generalize p.as.l[i]=x at hx
   have hrd:rdN (p.as.l.flatMap Ac.c) (i*6) 6=some x.c:=(zc Ac.c_len 0 6 hx (by omega)).trans rfl
   have hrd1:rdN (p.as.l.flatMap Ac.c) (i*6) 1=some [.int .i64 x.id]:=(zc Ac.c_len 0 1 hx (by omega)).trans rfl
   have hw:wrapI .i64 ((i:Int)+1)=((i+1:Nat):Int):=zC (by have:=p.as.few; omega)
   cases hb:x.id==id
   ·simp only [W0,sevalprocAttr,h,za p.as h,hrd1,hb,hw,Ac.c,Zd]
    refine hn _ (p.as.l.length - (i+1)) (by omega) ⟨i+1,rfl,by omega,zX hc hx hb,_,_,_,_,_,_,_,_,_,_,_,_,_,_,_,_,_,_,_,_,_,_,_,_,_,_,_,_,_,_,rfl⟩
   ·have hxf:=yg (p:=fun f=>f.id==id) hc hx hb
    rw [hf] at hxf
    simp at hxf
  ·have hxf:=ym hc h
   rw [hf] at hxf
   simp only [W0,sevalprocAttr,h,Zd]
   refine he _ _ ?_
   simp only [W0,sevalprocAttr,Zd]
   rfl
 | some f0 =>
  have hs0:=hsm f0 (zd4 hf)
  by_cases h0:f0.via.l.length=0
  ·refine ⟨⟨[],.slC [] 0 2 true,.row _ _ _ rfl,by simp⟩,(zdf.1 h0).symm,?_⟩
   refine yE (i:=i79) (ns hS (by rfl)) rfl rfl (p.as.l.length+8) fun m hm d out=>?_
   simp only [i79,W0,sevalprocAttr,Pn.c]
   refine zb (fun j st=>∃ i,j=p.as.l.length - i/\i<=p.as.l.length/\((p.as.l.take i).find? fun f=>f.id==id)=none/\∃ J a3 a7 a8 a9 a10 a11 a12 a13 a14 a15 a16 a17 a18 a19 a20 a21 a22 a23 a24 a25 a26 a27 a28 a29 a30 a31 a32 a33 a34,st=⟨[.agg p.c,iv id,.ptrM d 0 0,a3,.ptrM d 1 0,.bool false,iv i,a7,a8,a9,a10,a11,a12,a13,a14,a15,a16,a17,a18,a19,a20,a21,a22,a23,a24,a25,a26,a27,a28,a29,a30,a31,a32,a33,a34],.cells [p.ns.v,p.as.v,p.fs.v]::.cells zAc.c::J⟩) p.as.l.length (by omega) ⟨0,by omega,by omega,by simp,[],_,_,_,_,_,_,_,_,_,_,_,_,_,_,_,_,_,_,_,_,_,_,_,_,_,_,_,_,_,rfl⟩ ?_
   rintro j st K ⟨i,rfl,hi,hc,J,a3,a7,a8,a9,a10,a11,a12,a13,a14,a15,a16,a17,a18,a19,a20,a21,a22,a23,a24,a25,a26,a27,a28,a29,a30,a31,a32,a33,a34,rfl⟩ hn he hr
   by_cases h:i<p.as.l.length
   ·have hx:p.as.l[i]?=some p.as.l[i]:=zcm h
    generalize p.as.l[i]=x at hx
    have hrd:rdN (p.as.l.flatMap Ac.c) (i*6) 6=some x.c:=(zc Ac.c_len 0 6 hx (by omega)).trans rfl
    have hrd1:rdN (p.as.l.flatMap Ac.c) (i*6) 1=some [.int .i64 x.id]:=(zc Ac.c_len 0 1 hx (by omega)).trans rfl
    have hw:wrapI .i64 ((i:Int)+1)=((i+1:Nat):Int):=zC (by have:=p.as.few; omega)
    cases hb:x.id==id
    ·simp only [W0,sevalprocAttr,h,za p.as h,hrd1,hb,hw,Ac.c,Zd]
     refine hn _ (p.as.l.length - (i+1)) (by omega) ⟨i+1,rfl,by omega,zX hc hx hb,_,_,_,_,_,_,_,_,_,_,_,_,_,_,_,_,_,_,_,_,_,_,_,_,_,_,_,_,_,_,rfl⟩
    ·have hxf:=yg (p:=fun f=>f.id==id) hc hx hb
     rw [hf] at hxf
     obtain rfl:=zd1 hxf
     simp only [W0,sevalprocAttr,h,za p.as h,hrd1,hrd,hb,Ac.c,Zd,zr,zB,rep,zK,zH,h0,app_zero]
     refine hr _ ?_
     simp only [W0,sevalprocAttr,Zd]
     refine ⟨_,rfl,?_⟩
     obtain ⟨k,rfl⟩:∃ k,m=k+1+1+1:=⟨m - 3,by omega⟩
     exact freeze_ac freeze_slC0
   ·have hxf:=ym hc h
    rw [hf] at hxf
    simp at hxf
  ·refine ⟨⟨f0.via.l,.slC (f0.via.l.flatMap Pt.c) f0.via.l.length 2 (false&&true),.row _ _ _ (zE Pt.c_len),f0.via.few⟩,rfl,?_⟩
   refine yE (i:=i79) (ns hS (by rfl)) rfl rfl (p.as.l.length+8) fun m hm d out=>?_
   simp only [i79,W0,sevalprocAttr,Pn.c]
   refine zb (fun j st=>∃ i,j=p.as.l.length - i/\i<=p.as.l.length/\((p.as.l.take i).find? fun f=>f.id==id)=none/\∃ J a3 a7 a8 a9 a10 a11 a12 a13 a14 a15 a16 a17 a18 a19 a20 a21 a22 a23 a24 a25 a26 a27 a28 a29 a30 a31 a32 a33 a34,st=⟨[.agg p.c,iv id,.ptrM d 0 0,a3,.ptrM d 1 0,.bool false,iv i,a7,a8,a9,a10,a11,a12,a13,a14,a15,a16,a17,a18,a19,a20,a21,a22,a23,a24,a25,a26,a27,a28,a29,a30,a31,a32,a33,a34],.cells [p.ns.v,p.as.v,p.fs.v]::.cells zAc.c::J⟩) p.as.l.length (by omega) ⟨0,by omega,by omega,by simp,[],_,_,_,_,_,_,_,_,_,_,_,_,_,_,_,_,_,_,_,_,_,_,_,_,_,_,_,_,_,rfl⟩ ?_
   rintro j st K ⟨i,rfl,hi,hc,J,a3,a7,a8,a9,a10,a11,a12,a13,a14,a15,a16,a17,a18,a19,a20,a21,a22,a23,a24,a25,a26,a27,a28,a29,a30,a31,a32,a33,a34,rfl⟩ hn he hr
   by_cases h:i<p.as.l.length
   ·have hx:p.as.l[i]?=some p.as.l[i]:=zcm h
    generalize p.as.l[i]=x at hx
    have hrd:rdN (p.as.l.flatMap Ac.c) (i*6) 6=some x.c:=(zc Ac.c_len 0 6 hx (by omega)).trans rfl
    have hrd1:rdN (p.as.l.flatMap Ac.c) (i*6) 1=some [.int .i64 x.id]:=(zc Ac.c_len 0 1 hx (by omega)).trans rfl
    have hw:wrapI .i64 ((i:Int)+1)=((i+1:Nat):Int):=zC (by have:=p.as.few; omega)
    cases hb:x.id==id
    ·simp only [W0,sevalprocAttr,h,za p.as h,hrd1,hb,hw,Ac.c,Zd]
     refine hn _ (p.as.l.length - (i+1)) (by omega) ⟨i+1,rfl,by omega,zX hc hx hb,_,_,_,_,_,_,_,_,_,_,_,_,_,_,_,_,_,_,_,_,_,_,_,_,_,_,_,_,_,_,rfl⟩
    ·have hxf:=yg (p:=fun f=>f.id==id) hc hx hb
     rw [hf] at hxf
     obtain rfl:=zd1 hxf
     simp only [W0,sevalprocAttr,h,za p.as h,hrd1,hrd,hb,Ac.c,Zd,zr,zB,rep,zK,zH,app_row h0 (show 0+f0.via.l.length<=1073741824 by omega)]
     refine hr _ ?_
     simp only [W0,sevalprocAttr,Zd]
     refine ⟨_,rfl,?_⟩
     obtain ⟨k,rfl⟩:∃ k,m=k+1+1+1:=⟨m - 3,by omega⟩
     exact freeze_ac (yv (k:=1) ZL (by omega) rfl Pt.c_len (by simp only [W0,sevalprocAttr]))
   ·have hxf:=ym hc h
    rw [hf] at hxf
    simp at hxf
theorem Z1 (hS:NoS S) (p:Pn) (id:Int):Gives Ftab S 49 [.agg p.c,iv id] (.tuple [.agg ((p.ns.l.find? fun f=>f.id==id).getD zNd).c,.bool (p.ns.l.find? fun f=>f.id==id).isSome]):=by
 cases hf:p.ns.l.find? fun f=>f.id==id with
 | none =>
  refine zy (i:=i49) (k:=1+1+1) (ns hS (by rfl)) rfl rfl Z0 (p.ns.l.length+5) (by omega) fun m hm d out=>?_
  simp only [i49,W0,sevalprocAttr,Pn.c]
  refine zb (fun j st=>∃ i,j=p.ns.l.length - i/\i<=p.ns.l.length/\((p.ns.l.take i).find? fun f=>f.id==id)=none/\∃ J a3 a7 a8 a9 a10 a11 a12 a13 a14 a15 a16 a17 a18 a19 a20 a21 a22 a23 a24 a25 a26 a27,st=⟨[.agg p.c,iv id,.ptrM d 0 0,a3,.ptrM d 1 0,.bool false,iv i,a7,a8,a9,a10,a11,a12,a13,a14,a15,a16,a17,a18,a19,a20,a21,a22,a23,a24,a25,a26,a27],.cells [p.ns.v,p.as.v,p.fs.v]::.cells zNd.c::J⟩) p.ns.l.length (by omega) ⟨0,by omega,by omega,by simp,[],_,_,_,_,_,_,_,_,_,_,_,_,_,_,_,_,_,_,_,_,_,_,rfl⟩ ?_
  rintro j st K ⟨i,rfl,hi,hc,J,a3,a7,a8,a9,a10,a11,a12,a13,a14,a15,a16,a17,a18,a19,a20,a21,a22,a23,a24,a25,a26,a27,rfl⟩ hn he hr
  by_cases h:i<p.ns.l.length
  ·have hx:p.ns.l[i]?=some p.ns.l[i]:=zcm h
   generalize p.ns.l[i]=x at hx
   have hrd:rdN (p.ns.l.flatMap Nd.c) (i*3) 3=some x.c:=(zc Nd.c_len 0 3 hx (by omega)).trans rfl
   have hrd1:rdN (p.ns.l.flatMap Nd.c) (i*3) 1=some [.int .i64 x.id]:=(zc Nd.c_len 0 1 hx (by omega)).trans rfl
   have hw:wrapI .i64 ((i:Int)+1)=((i+1:Nat):Int):=zC (by have:=p.ns.few; omega)
   cases hb:x.id==id
   ·simp only [W0,sevalprocAttr,h,za p.ns h,hrd1,hb,hw,Nd.c,ZQ]
    refine hn _ (p.ns.l.length - (i+1)) (by omega) ⟨i+1,rfl,by omega,zX hc hx hb,_,_,_,_,_,_,_,_,_,_,_,_,_,_,_,_,_,_,_,_,_,_,_,rfl⟩
   ·have hxf:=yg (p:=fun f=>f.id==id) hc hx hb
    rw [hf] at hxf
    simp at hxf
  ·have hxf:=ym hc h
   rw [hf] at hxf
   simp only [W0,sevalprocAttr,h,ZQ]
   refine he _ _ ?_
   simp only [W0,sevalprocAttr,ZQ]
   rfl
 | some f0 =>
  refine zy (i:=i49) (k:=1+1+1) (ns hS (by rfl)) rfl rfl (ZZ f0) (p.ns.l.length+8) (by omega) fun m hm d out=>?_
  simp only [i49,W0,sevalprocAttr,Pn.c]
  refine zb (fun j st=>∃ i,j=p.ns.l.length - i/\i<=p.ns.l.length/\((p.ns.l.take i).find? fun f=>f.id==id)=none/\∃ J a3 a7 a8 a9 a10 a11 a12 a13 a14 a15 a16 a17 a18 a19 a20 a21 a22 a23 a24 a25 a26 a27,st=⟨[.agg p.c,iv id,.ptrM d 0 0,a3,.ptrM d 1 0,.bool false,iv i,a7,a8,a9,a10,a11,a12,a13,a14,a15,a16,a17,a18,a19,a20,a21,a22,a23,a24,a25,a26,a27],.cells [p.ns.v,p.as.v,p.fs.v]::.cells zNd.c::J⟩) p.ns.l.length (by omega) ⟨0,by omega,by omega,by simp,[],_,_,_,_,_,_,_,_,_,_,_,_,_,_,_,_,_,_,_,_,_,_,rfl⟩ ?_
  rintro j st K ⟨i,rfl,hi,hc,J,a3,a7,a8,a9,a10,a11,a12,a13,a14,a15,a16,a17,a18,a19,a20,a21,a22,a23,a24,a25,a26,a27,rfl⟩ hn he hr
  by_cases h:i<p.ns.l.length
  ·have hx:p.ns.l[i]?=some p.ns.l[i]:=zcm h
   generalize p.ns.l[i]=x at hx
   have hrd:rdN (p.ns.l.flatMap Nd.c) (i*3) 3=some x.c:=(zc Nd.c_len 0 3 hx (by omega)).trans rfl
   have hrd1:rdN (p.ns.l.flatMap Nd.c) (i*3) 1=some [.int .i64 x.id]:=(zc Nd.c_len 0 1 hx (by omega)).trans rfl
   have hw:wrapI .i64 ((i:Int)+1)=((i+1:Nat):Int):=zC (by have:=p.ns.few; omega)
   cases hb:x.id==id
   ·simp only [W0,sevalprocAttr,h,za p.ns h,hrd1,hb,hw,Nd.c,ZQ]
    refine hn _ (p.ns.l.length - (i+1)) (by omega) ⟨i+1,rfl,by omega,zX hc hx hb,_,_,_,_,_,_,_,_,_,_,_,_,_,_,_,_,_,_,_,_,_,_,_,rfl⟩
   ·have hxf:=yg (p:=fun f=>f.id==id) hc hx hb
    rw [hf] at hxf
    obtain rfl:=zd1 hxf
    simp only [W0,sevalprocAttr,h,za p.ns h,hrd,hrd1,hb,Nd.c,ZQ]
    refine hr _ ?_
    simp only [W0,sevalprocAttr,ZQ]
    rfl
  ·have hxf:=ym hc h
   rw [hf] at hxf
   simp at hxf
end
end
section
section
variable {C:Call} {d:Nat} {out:yLM} {n j:Nat} {st:St} {K:yKM} {a:IC}
def Lp (C:Call) (d:Nat) (out:yLM) (n j:Nat) (a:IC) (K:yKM) (st:St):Prop:=∃ o st',iter (exec C d out n a) j st=some (o,st')/\K o st'
theorem YQ:Ex C d out n (.loop a) K st=Lp C d out n n a K st:=by
 unfold Ex Lp
 simp only [exec]
theorem YR:Lp C d out n (j+1) a K st=Ex C d out n a (andThen (Lp C d out n j a K) K) st:=by
 refine propext ⟨fun ⟨o,st',h,hk⟩=>?_,fun ⟨o,st1,h1,h2⟩=>?_⟩
 ·simp only [iter] at h
  split at h
  ·rename_i st1 he
   exact ⟨.normal,st1,he,o,st',h,hk⟩
  ·rename_i hne
   refine ⟨o,st',h,?_⟩
   cases o with
   | normal=>exact absurd h (hne _)
   | exit id=>exact hk
   | ret=>exact hk
 ·cases o with
  | normal =>
   obtain ⟨o2,st2,h3,h4⟩:=h2
   exact ⟨o2,st2,by simp only [iter,h1,h3],h4⟩
  | exit id=>exact ⟨_,st1,by simp only [iter,h1],h2⟩
  | ret=>exact ⟨_,st1,by simp only [iter,h1],h2⟩
end
section
variable {F:FuncId->Option IFn} {S:ySM}
def FinO (d:Nat) (out:yLM) (rs:List IRes) (c:List IV) (len cap sz:Nat) (tight:Bool) (o:Out) (st:St):Prop:=(o=.normal∨o=.ret)/\∃ j,resultI d out st rs=some (.slM d j 0 len cap sz tight)/\st.own[j]?=some (.cells c)
theorem own_of {f:FuncId} {i:IFn} {args:List IV} {c:List IV} {len cap sz k:Nat} {tight:Bool} (hS:S f args=none) (hi:F f=some i) (hm:i.mode=1) (N:Nat) (hfz:∀ x∈c,Fz k x) (hk:k<=N) (hc:c.length=cap*sz)
  (h:∀ m,N<=m->∀ d out,Ex (callN F S m) d out m i.body (FinO d out i.res c len cap sz tight) ⟨args++List.replicate (i.ntmps - args.length) (.tuple []),[]⟩) :
  ∃ N',∀ m,N'<=m->∀ d out ownV own id,own[id]?=some .free->callN F S m d out ownV own id f args=some (.a,.slM d id 0 len cap sz tight,own.set id (.cells c)):=by
 refine ⟨N+1,fun m hN d out ownV own id hf=>?_⟩
 obtain ⟨m,rfl⟩:∃ q,m=q+1:=⟨m - 1,by omega⟩
 obtain ⟨o,st,h1,h2,j,h3,h4⟩:=h m (by omega) (d+1) (fun l=>if l=d then ownV else out l)
 have hm2:¬ i.mode=2:=by omega
 have hseg:seg c 0 (cap*sz)=some c:=by
  unfold seg
  rw [if_pos (by omega),zd,List.drop_zero,zcx (by omega)]
 have hmap:c.mapM (freeze m (d+1) (st.own.set j .gone))=some c:=yh fun x hx=>hfz x hx m (by omega) _ _
 simp only [callN,hS,hi,if_neg hm2,zd,h1]
 rcases h2 with rfl | rfl <;> simp only [ended,h3,zc9,leave,hm,if_true,handed,h4,hseg,hmap,mkAt,hf,zd]
variable {d:Nat} {out:yLM} {rs:List IRes} {c:List IV} {len cap sz:Nat} {tight:Bool} {st:St}
theorem FinO_ret:FinO d out rs c len cap sz tight .ret st=∃ j,resultI d out st rs=some (.slM d j 0 len cap sz tight)/\st.own[j]?=some (.cells c):=propext ⟨fun h=>h.2,fun h=>⟨.inr rfl,h⟩⟩
end
theorem rep_fz {z:List IV} {k:Nat} (h:∀ x∈z,Fz k x):∀ {n:Nat},∀ x∈rep z n,Fz k x
 | 0,x,hx=>by simp [rep] at hx
 | n+1,x,hx=>by
  simp only [rep,zek] at hx
  exact hx.elim (h x) (rep_fz h x)
section
variable {C:Call} {d n0:Nat} {out:yLM} {lk:Nat->Nat->Option IObj} {own ownV:yLO} {t:List IV}
theorem natI_0 {k:IntKind}:natI (.int k 0)=some 0:=zc3 rfl rfl
theorem app_src0 {z:List IV} {sz:Nat} {s x:Opd} {slot:Nat}:e_append d out n0 ownV own t z sz true s x slot=appV d n0 (look d out ownV) own sz (ρ t s) slot ((natI (ρ t x)).bind fun n=>if n<=bound then some (rep z n,n) else none):=zc3 rfl rfl
theorem Yd {sz slot n:Nat} {new:List IV} (h:n≠0) (hb:n<=bound):appendI d n0 lk own sz .nilsl new n slot=mkAt own (n0+slot) (.cells new) (.slM d (n0+slot) 0 n n sz false):=by
 unfold appendI
 rw [if_neg h]
 simp only
 rw [if_pos hb]
end
theorem wrap_lit0:wrapI .i64 (0 - 0)=0:=by rw [zD]; decide
theorem wrap_sub0 {n:Nat} (h:n<=1073741824):wrapI .i64 ((n:Int) - 0)=(n:Int):=by
 rw [zD,IntWalk.i64_in _ (by omega)]
 omega
section
variable {S:ySM}
theorem grow_at (hS:NoS S) (n:Nat) (h0:0<n) (hn:n<=1073741824):∃ N,∀ m,N<=m->∀ d out ownV own id,own[id]?=some .free->callN Ftab S m d out ownV own id 109 [.nilsl,iv n]=some (.a,.slM d id 0 0 n 2 false,own.set id (.cells (rep [.int .i64 0,.int .i64 0] n))):=by
 refine own_of (i:=i109) (ns hS (by rfl)) rfl rfl 2 (k:=1) (rep_fz fun x hx=>?_) (by omega) ?_ fun m hm d out=>?_
 ·simp only [zdi,zdo,or_false] at hx
  rcases hx with rfl | rfl <;> exact zx
 ·rw [Zm]
  rfl
 ·have d1:decide ((n:Int)<0)=false:=by simp
  have d2:decide ((n:Int) > 0)=true:=by simp; omega
  have hb:n<=bound:=by unfold bound; omega
  have hb2:0+n<=bound:=by unfold bound; omega
  have hne:n≠0:=by omega
  simp only [i109,W0,e_nilchk,e_pick,e_box,e_bslice,e_load,e_store,e_eqb,e_eqp,e_eqs,e_eqagg,e_conv,e_faddr,e_field,e_extract,e_call,e_mx,mkAt,List.replicate,look,mkv,binI,intBin,isShift,unI,fillI,cellV,Nat.reduceAdd,Nat.reduceMul,Nat.reduceLeDiff,reduceCtorEq,Nat.reduceEqDiff,d1,ev_cap,e_cap,wrap_lit0,wrap_sub0 hn,d2,zbp,sliceI,optI,natI_0,yf,zr,app_src0,if_pos hb,zH,Yd hne hb,Nat.zero_le,zdy,Nat.sub_zero,zex,Option.isSome_none,Bool.or_self,FinO_ret]
  exact ⟨0,rfl,rfl⟩
end
end
section
theorem wr_fill:∀ {B A R:List IV},B.length<=R.length->wrN (A++R) A.length B=A++B++R.drop B.length
 | [],A,R,_=>by simp [wrN]
 | b::B,A,R,h=>by
  cases R with
  | nil=>simp at h
  | cons r R =>
   simp only [wrN]
   rw [za5]
   have h2:=wr_fill (B:=B) (A:=A++[b]) (R:=R) (by simpa using h)
   rw [zcv,zda] at h2
   simp only [zc5,zdg,zco,zcu,zc8] at h2
   rw [h2]
   simp
theorem Z2 {B A R:List IV} {k:Nat} (hk:k=A.length) (h:B.length<=R.length):wrN (A++R) k B=A++B++R.drop B.length:=by rw [hk,wr_fill h]
theorem YS {d n0 sz len cap n slot:Nat} {out:yLM} {c new:List IV} {J:yLO} {tight:Bool} (h:n≠0) (hb:len+n<=1073741824) (hc:len+n<=cap) (hfit:0+(len+n)*sz<=c.length) (hs:new.all IV.scalar=true) :
  appendI d n0 (look d out (.cells c::J)) (.cells c::J) sz (.slM d 0 0 len cap sz tight) new n slot=some (.x,.slM d 0 0 (len+n) cap sz tight,.cells (wrN c (0+len*sz) new)::J):=by
 unfold appendI
 rw [if_neg h]
 simp only
 rw [if_pos ⟨by unfold bound; omega,trivial⟩]
 simp only [look,if_true,zde]
 rw [if_pos hc,if_pos ⟨trivial,hfit,hs⟩]
 simp only [zd,List.set_cons_zero]
theorem app_same {d n0 sz slot l i off len cap z:Nat} {lk:Nat->Nat->Option IObj} {own:yLO} {new:List IV} {tight:Bool}:appendI d n0 lk own sz (.slM l i off len cap z tight) new 0 slot=some (.r,.slM l i off len cap z tight,own):=by
 unfold appendI
 rw [if_pos rfl]
theorem app_same0 {d n0 sz slot l i off len cap z n:Nat} (h:n=0) {lk:Nat->Nat->Option IObj} {own:yLO} {new:List IV} {tight:Bool}:appendI d n0 lk own sz (.slM l i off len cap z tight) new n slot=some (.r,.slM l i off len cap z tight,own):=by
 subst h
 exact app_same
theorem Z3 {l:List Pt}:(l.flatMap Pt.c).all IV.scalar=true:=by
 rw [zd8]
 intro x hx
 obtain ⟨a,_,h⟩:=zef.1 hx
 simp only [Pt.c,zdi,zdo,or_false] at h
 rcases h with rfl | rfl <;> rfl
theorem Za {lk:Nat->Nat->Option IObj} {x y:Int} {tight:Bool}:cellsI lk 2 (.slC [.int .i64 x,.int .i64 y] 1 2 tight)=some ([.int .i64 x,.int .i64 y],1):=by
 simp [cellsI,seg,zd]
theorem iaddr0 {own:yLO} {z n sz:Nat} {cs:List IV} {tight:Bool} {k:IntKind} (h:0<n):iaddrV own z (.slC cs n sz tight) (.int k 0)=some (.p,.ptrC cs (0*z),own):=z6 (i:=0) h
theorem iaddr1 {own:yLO} {z n sz:Nat} {cs:List IV} {tight:Bool} {k:IntKind} (h:1<n):iaddrV own z (.slC cs n sz tight) (.int k 1)=some (.p,.ptrC cs (1*z),own):=z6 (i:=1) h
theorem iaddr2 {own:yLO} {z n sz:Nat} {cs:List IV} {tight:Bool} {k:IntKind} (h:2<n):iaddrV own z (.slC cs n sz tight) (.int k 2)=some (.p,.ptrC cs (2*z),own):=z6 (i:=2) h
theorem wrap_0_1:wrapI .i64 (0+1)=1:=by rw [zD]; decide
theorem wrap_1_1:wrapI .i64 (1+1)=2:=by rw [zD]; decide
theorem wrap_2_1:wrapI .i64 (2+1)=3:=by rw [zD]; decide
theorem lt03:decide ((0:Int)<((3:Nat):Int))=true:=by decide
theorem lt13:decide ((1:Int)<((3:Nat):Int))=true:=by decide
theorem lt23:decide ((2:Int)<((3:Nat):Int))=true:=by decide
theorem lt33:decide ((3:Int)<((3:Nat):Int))=false:=by decide
theorem YT {a b:Nat} (h:a+b<9223372036854775808):wrapI .i64 ((a:Int)+(b:Int))=((a+b:Nat):Int):=by
 rw [zD,IntWalk.i64_in _ (by omega)]
 rfl
theorem wrap_z1:wrapI .i64 (0+((1:Nat):Int))=((1:Nat):Int):=by rw [zD]; decide
theorem nlt {a:Nat}:decide ((a:Int)<0)=false:=by simp
def mkRow {α:Type} {g:α->List IV} {sz:Nat} (hs:∀ a,(g a).length=sz) (l:List α) (n:Nat) (tight:Bool) (h:l.length=n) (hf:n<9223372036854775808):SlOf sz g :=
 ⟨l,.slC (l.flatMap g) n sz tight,by subst h; exact .row _ _ _ (zE hs),by omega⟩
theorem filled {A B D R:List IV} {n:Nat} (hA:A.length=2) (hD:D.length=2) (hB:B.length=n*2) (hR:R.length=(1+n+1)*2):wrN (wrN (wrN R 0 A) 2 B) ((1+n)*2) D=A++(B++D):=by
 have h1:wrN R 0 A=A++R.drop 2:=by
  have:=Z2 (B:=A) (A:=[]) (R:=R) (k:=0) rfl (by omega)
  simpa [hA] using this
 rw [h1,Z2 (k:=2) hA.symm (by rw [List.length_drop]; omega),Z2 (k:=(1+n)*2) (by rw [zcv,hA,hB]; omega) (by simp only [List.length_drop]; omega),zda,zda]
 rw [List.drop_eq_nil_of_le (by simp only [List.length_drop]; omega),zdc]
theorem filled0 {A D R:List IV} (hA:A.length=2) (hD:D.length=2) (hR:R.length=4):wrN (wrN R 0 A) 2 D=A++D:=by
 have h1:wrN R 0 A=A++R.drop 2:=by
  have:=Z2 (B:=A) (A:=[]) (R:=R) (k:=0) rfl (by omega)
  simpa [hA] using this
 rw [h1,Z2 (k:=2) hA.symm (by rw [List.length_drop]; omega),List.drop_eq_nil_of_le (by simp only [List.length_drop]; omega),zdc]
section
variable {S:ySM}
theorem gives_concat (hS:NoS S) (p1 p2:Pt) (q:SlOf 2 Pt.c) (hq:q.l.length<=1000000):∃ q':SlOf 2 Pt.c,q'.l=p1::(q.l++[p2])/\Gives Ftab S 70 [.slC [.slC [iv p1.x,iv p1.y] 1 2 true,q.v,.slC [iv p2.x,iv p2.y] 1 2 true] 3 1 true] q'.v:=by
 obtain ⟨N,hN⟩:=grow_at hS (1+q.l.length+1) (by omega) (by omega)
 have hlen:(p1::(q.l++[p2])).length=1+q.l.length+1:=by simp; omega
 refine ⟨mkRow Pt.c_len (p1::(q.l++[p2])) (1+q.l.length+1) false hlen (by omega),rfl,?_⟩
 refine yE (i:=i70) (ns hS (by rfl)) rfl rfl (N+5) fun m hm d out=>?_
 have hg:=hN m (by omega) d out [.free] [.free] 0 rfl
 have hfr:∀ own:yLO,own[0]?=some (.cells ((p1::(q.l++[p2])).flatMap Pt.c))->freeze m d own (.slM d 0 0 (1+q.l.length+1) (1+q.l.length+1) 2 false)=some (mkRow Pt.c_len (p1::(q.l++[p2])) (1+q.l.length+1) false hlen (by omega)).v:=fun own ho=>yv (k:=1) ZL (by omega) hlen Pt.c_len ho
 have w1:wrapI .i64 (((1:Nat):Int)+(q.l.length:Int))=((1+q.l.length:Nat):Int):=YT (by omega)
 have w2:wrapI .i64 (((1+q.l.length:Nat):Int)+((1:Nat):Int))=((1+q.l.length+1:Nat):Int):=YT (by omega)
 obtain ⟨k,rfl⟩:∃ k,m=k+1+1+1+1:=⟨m - 4,by omega⟩
 simp only [zg] at hg
 have hr0:(rep [.int .i64 0,.int .i64 0] (1+q.l.length+1)).length=(1+q.l.length+1)*2:=by rw [Zm]; rfl
 generalize rep [.int .i64 0,.int .i64 0] (1+q.l.length+1)=R at hg hr0
 by_cases h0:q.l.length=0
 ·have hl:q.l=[]:=zdf.1 h0
  have a1:=fun n0 slot=>YS (d:=d) (n0:=n0) (sz:=2) (len:=0) (cap:=1+q.l.length+1) (n:=1) (slot:=slot) (out:=out) (c:=R) (new:=[.int .i64 p1.x,.int .i64 p1.y]) (J:=[.free]) (tight:=false) (by omega) (by omega) (by omega) (by omega) rfl
  have a3:=fun n0 slot=>YS (d:=d) (n0:=n0) (sz:=2) (len:=1) (cap:=1+q.l.length+1) (n:=1) (slot:=slot) (out:=out) (c:=wrN R 0 [.int .i64 p1.x,.int .i64 p1.y]) (new:=[.int .i64 p2.x,.int .i64 p2.y]) (J:=[.free,.free,.free]) (tight:=false) (by omega) (by omega) (by omega) (by rw [YD]; omega) rfl
  simp only [zc8,Nat.add_zero,zdy,zen] at a1 a3
  simp only [i70,W0,e_nilchk,e_pick,e_box,e_bslice,e_load,e_store,e_eqb,e_eqp,e_eqs,e_eqagg,e_conv,e_faddr,e_field,e_extract,e_call,e_mx,mkAt,List.replicate,look,mkv,binI,intBin,isShift,unI,fillI,cellV,Nat.reduceAdd,Nat.reduceMul,Nat.reduceLeDiff,reduceCtorEq,Nat.reduceEqDiff,YQ,YR,lt03,lt13,lt23,lt33,iaddr0 (show 0<3 by omega),iaddr1 (show 1<3 by omega),iaddr2 (show 2<3 by omega),wrap_0_1,wrap_1_1,wrap_2_1,wrap_z1,w1,w2,nlt,hg,zr,zB,zH,zK,Za,a1,app_same0 h0,a3,zdy,zen]
  refine ⟨_,rfl,?_⟩
  have e:(2:Nat)=1+q.l.length+1:=by omega
  have h2:=hfr [IObj.cells (wrN (wrN R 0 [.int .i64 p1.x,.int .i64 p1.y]) 2 [.int .i64 p2.x,.int .i64 p2.y]),IObj.free,IObj.free,IObj.free] (by
   rw [zde,filled0 rfl rfl (by rw [hr0,h0]),hl]
   simp [Pt.c,zg])
  rw [show (IV.slM d 0 0 (1+q.l.length+1) (1+q.l.length+1) 2 false)=.slM d 0 0 2 (1+q.l.length+1) 2 false by rw [← e]] at h2
  exact h2
 ·have a1:=fun n0 slot=>YS (d:=d) (n0:=n0) (sz:=2) (len:=0) (cap:=1+q.l.length+1) (n:=1) (slot:=slot) (out:=out) (c:=R) (new:=[.int .i64 p1.x,.int .i64 p1.y]) (J:=[.free]) (tight:=false) (by omega) (by omega) (by omega) (by omega) rfl
  have a2:=fun n0 slot=>YS (d:=d) (n0:=n0) (sz:=2) (len:=1) (cap:=1+q.l.length+1) (n:=q.l.length) (slot:=slot) (out:=out) (c:=wrN R 0 [.int .i64 p1.x,.int .i64 p1.y]) (new:=q.l.flatMap Pt.c) (J:=[.free,.free]) (tight:=false) h0 (by omega) (by omega) (by rw [YD]; omega) Z3
  have a3:=fun n0 slot=>YS (d:=d) (n0:=n0) (sz:=2) (len:=1+q.l.length) (cap:=1+q.l.length+1) (n:=1) (slot:=slot) (out:=out) (c:=wrN (wrN R 0 [.int .i64 p1.x,.int .i64 p1.y]) 2 (q.l.flatMap Pt.c)) (new:=[.int .i64 p2.x,.int .i64 p2.y]) (J:=[.free,.free,.free]) (tight:=false) (by omega) (by omega) (by omega) (by rw [YD,YD]; omega) rfl
  simp only [zc8,Nat.add_zero,zdy,zen] at a1 a2 a3
  simp only [i70,W0,e_nilchk,e_pick,e_box,e_bslice,e_load,e_store,e_eqb,e_eqp,e_eqs,e_eqagg,e_conv,e_faddr,e_field,e_extract,e_call,e_mx,mkAt,List.replicate,look,mkv,binI,intBin,isShift,unI,fillI,cellV,Nat.reduceAdd,Nat.reduceMul,Nat.reduceLeDiff,reduceCtorEq,Nat.reduceEqDiff,YQ,YR,lt03,lt13,lt23,lt33,iaddr0 (show 0<3 by omega),iaddr1 (show 1<3 by omega),iaddr2 (show 2<3 by omega),wrap_0_1,wrap_1_1,wrap_2_1,wrap_z1,w1,w2,nlt,hg,zr,zB,zH,zK,Za,a1,a2,a3,zdy,zen]
  refine ⟨_,rfl,hfr _ ?_⟩
  rw [zde,filled (n:=q.l.length) rfl rfl (zE Pt.c_len) hr0]
  simp [Pt.c,zg]
end
end
section
def arcF (p:Pn) (id:Int):Option Ac:=p.as.l.find? fun f=>f.id==id
def nodeF (p:Pn) (id:Int):Option Nd:=p.ns.l.find? fun f=>f.id==id
def arcD (p:Pn) (id:Int):Ac:=(arcF p id).getD zAc
def nodeD (p:Pn) (id:Int):Nd:=(nodeF p id).getD zNd
def pathOk (p:Pn) (id:Int):Bool:=(arcF p id).isSome&&((nodeF p (arcD p id).fr).isSome&&(nodeF p (arcD p id).to).isSome)
def pathL (p:Pn) (id:Int):List Pt:=(nodeD p (arcD p id).fr).at'::((arcD p id).via.l++[(nodeD p (arcD p id).to).at'])
def FewVia (p:Pn):Prop:=∀ f∈p.as.l,f.via.l.length<=100000
theorem fewD {p:Pn} (h:FewVia p) (id:Int):(arcD p id).via.l.length<=100000:=by
 unfold arcD
 cases hf:arcF p id with
 | none=>simp [zAc,nilS]
 | some a=>exact h a (zd4 hf)
theorem Zf (q:SlOf 2 Pt.c) (e:Int):Fz (1+1+1+1) (.tuple [q.v,.int .i64 e]):=by
 refine YI fun x hx=>?_
 simp only [zdi,zdo,or_false] at hx
 rcases hx with rfl | rfl
 ·exact yF ZL q
 ·exact zx.le (by omega)
section
variable {S:ySM}
theorem Zg (hS:NoS S) (p:Pn) (id:Int) (hv:FewVia p):∃ q':SlOf 2 Pt.c,(pathOk p id=true->q'.l=pathL p id)/\Gives Ftab S 32 [.agg p.c,iv id] (.tuple [q'.v,iv (bif pathOk p id then 0 else 7)]):=by
 obtain ⟨q1,hq1,N1,h1⟩:=zaf hS p id (fun f hf=>by have:=hv f hf; omega)
 have hq1':q1.l=(arcD p id).via.l:=hq1
 have hlen:q1.l.length<=100000:=by rw [hq1']; exact fewD hv id
 obtain ⟨N2,h2⟩:=Ze hS p (arcD p id).fr
 obtain ⟨N3,h3⟩:=Ze hS p (arcD p id).to
 obtain ⟨q',hq',N4,h4⟩:=gives_concat hS (nodeD p (arcD p id).fr).at' (nodeD p (arcD p id).to).at' q1 (by omega)
 have c1:=fun m (hm:N1+N2+N3+N4+5<=m) d out ownV own i=>h1 m (by omega) d out ownV own i
 have c2:=fun m (hm:N1+N2+N3+N4+5<=m) d out ownV own i=>h2 m (by omega) d out ownV own i
 have c3:=fun m (hm:N1+N2+N3+N4+5<=m) d out ownV own i=>h3 m (by omega) d out ownV own i
 have c4:=fun m (hm:N1+N2+N3+N4+5<=m) d out ownV own i=>h4 m (by omega) d out ownV own i
 have e1:(p.as.l.find? fun f=>f.id==id)=arcF p id:=rfl
 have e2:((arcF p id).getD zAc)=arcD p id:=rfl
 have e3:∀ k:Int,(p.ns.l.find? fun f=>f.id==k)=nodeF p k:=fun k=>rfl
 have e4:∀ k:Int,((nodeF p k).getD zNd)=nodeD p k:=fun k=>rfl
 simp only [e1,e2,e3,e4,zg,Pn.c,Ac.c,Nd.c] at c1 c2 c3 c4
 cases b1:(arcF p id).isSome
 ·refine ⟨nilS _ _,by simp [pathOk,b1],?_⟩
  refine zy (i:=i32) (ns hS (by rfl)) rfl rfl (Zf _ _) (N1+N2+N3+N4+5) (by omega) fun m hm d out=>?_
  simp only [b1] at c1
  simp only [i32,W0,sevalprocAttr,Pn.c,c1 m hm,c2 m hm,c3 m hm,pathOk,b1,zcy,cond_false]
  rfl
 ·cases b2:(nodeF p (arcD p id).fr).isSome
  ·refine ⟨nilS _ _,by simp [pathOk,b2],?_⟩
   refine zy (i:=i32) (ns hS (by rfl)) rfl rfl (Zf _ _) (N1+N2+N3+N4+5) (by omega) fun m hm d out=>?_
   simp only [b1] at c1
   simp only [b2] at c2
   simp only [i32,W0,sevalprocAttr,Pn.c,c1 m hm,c2 m hm,c3 m hm,pathOk,b1,b2,zcy,zdx,cond_false]
   rfl
  ·cases b3:(nodeF p (arcD p id).to).isSome
   ·refine ⟨nilS _ _,by simp [pathOk,b3],?_⟩
    refine zy (i:=i32) (ns hS (by rfl)) rfl rfl (Zf _ _) (N1+N2+N3+N4+5) (by omega) fun m hm d out=>?_
    simp only [b1] at c1
    simp only [b2] at c2
    simp only [b3] at c3
    simp only [i32,W0,sevalprocAttr,Pn.c,c1 m hm,c2 m hm,c3 m hm,pathOk,b1,b2,b3,zcy,zdx,cond_false]
    rfl
   ·refine ⟨q',fun _=>by rw [hq',hq1']; rfl,?_⟩
    refine zy (i:=i32) (ns hS (by rfl)) rfl rfl (Zf _ _) (N1+N2+N3+N4+5) (by omega) fun m hm d out=>?_
    simp only [b1] at c1
    simp only [b2] at c2
    simp only [b3] at c3
    simp only [i32,W0,sevalprocAttr,Pn.c,rep,c1 m hm,c2 m hm,c3 m hm,c4 m hm,pathOk,b1,b2,b3,cond_true]
end
end
section
theorem app_zero0 {d n0 sz z len slot n:Nat} (h:n=0) {lk:Nat->Nat->Option IObj} {own:yLO} {cs new:List IV} {tight:Bool}:appendI d n0 lk own sz (.slC cs len z tight) new n slot=some (.r,.slC cs len z tight,own):=by
 subst h
 exact app_zero
theorem app_slC {d n0 sz len slot n:Nat} (h:n≠0) {lk:Nat->Nat->Option IObj} {own:yLO} {cs new:List IV} (hb:len+n<=1073741824) (hc:cs.length=len*sz) :
  appendI d n0 lk own sz (.slC cs len sz true) new n slot=mkAt own (n0+slot) (.cells (cs++new)) (.slM d (n0+slot) 0 (len+n) (len+n) sz false):=by
 unfold appendI
 rw [if_neg h]
 simp only
 rw [if_pos ⟨by unfold bound; omega,trivial⟩]
 have hseg:seg cs 0 (len*sz)=some cs:=by
  unfold seg
  rw [if_pos (by omega),zd,List.drop_zero,zcx (by omega)]
 simp only [hseg,zd]
theorem Zz {d n0 sz len slot n i:Nat} (h:n≠0) {lk:Nat->Nat->Option IObj} {own:yLO} {c new:List IV} (hb:len+n<=1073741824) (hc:c.length=len*sz) (hs:new.all IV.scalar=true) (hl:lk d i=some (.cells c)) :
  appendI d n0 lk own sz (.slM d i 0 len len sz false) new n slot=killAt own i (n0+slot) (.cells (c++new)) (.slM d (n0+slot) 0 (len+n) (len+n) sz false):=by
 unfold appendI
 rw [if_neg h]
 simp only
 rw [if_pos ⟨by unfold bound; omega,trivial⟩]
 have hseg:seg c 0 (len*sz)=some c:=by
  unfold seg
  rw [if_pos (by omega),zd,List.drop_zero,zcx (by omega)]
 simp only [hl,hseg,zd]
 rw [if_neg (by omega)]
 simp only [zc6,if_false]
 rw [if_pos ⟨trivial,hs⟩]
section
variable {S:ySM}
theorem gives_line (hS:NoS S) (p:Pn) (a:Ac) (hv:a.via.l.length<=100000):∃ q':SlOf 2 Pt.c,q'.l=(nodeD p a.fr).at'::(a.via.l++[(nodeD p a.to).at']) /\
  Gives Ftab S 76 [.agg p.c,.agg a.c] (.tuple [q'.v,.bool ((nodeF p a.fr).isSome&&(nodeF p a.to).isSome)]):=by
 obtain ⟨N2,h2⟩:=Z1 hS p a.fr
 obtain ⟨N3,h3⟩:=Z1 hS p a.to
 have hlen:((nodeD p a.fr).at'::(a.via.l++[(nodeD p a.to).at'])).length=1+a.via.l.length+1:=by simp; omega
 refine ⟨mkRow Pt.c_len _ (1+a.via.l.length+1) false hlen (by omega),rfl,?_⟩
 refine yE (i:=i76) (ns hS (by rfl)) rfl rfl (N2+N3+5) fun m hm d out=>?_
 have c2:=h2 m (by omega)
 have c3:=h3 m (by omega)
 have e3:∀ k:Int,(p.ns.l.find? fun f=>f.id==k)=nodeF p k:=fun k=>rfl
 have e4:∀ k:Int,((nodeF p k).getD zNd)=nodeD p k:=fun k=>rfl
 simp only [e3,e4,zg,Pn.c,Nd.c] at c2 c3
 have hfr:∀ (own:yLO) (i:Nat) (b:Bool),own[i]?=some (.cells (((nodeD p a.fr).at'::(a.via.l++[(nodeD p a.to).at'])).flatMap Pt.c))->freeze m d own (.tuple [.slM d i 0 (1+a.via.l.length+1) (1+a.via.l.length+1) 2 false,.bool b])=some (.tuple [(mkRow Pt.c_len _ (1+a.via.l.length+1) false hlen (by omega)).v,.bool b]):=fun own i b ho=>by
  obtain ⟨k,rfl⟩:∃ k,m=k+1+1+1:=⟨m - 3,by omega⟩
  exact YP (Zs (yv (k:=1) ZL (by omega) hlen Pt.c_len ho) (Zs rfl mapM_n))
 by_cases h0:a.via.l.length=0
 ·have hl:a.via.l=[]:=zdf.1 h0
  have e:1+a.via.l.length+1=2:=by omega
  have hfr2:∀ (own:yLO) (i:Nat) (b:Bool),own[i]?=some (.cells (((nodeD p a.fr).at'::(a.via.l++[(nodeD p a.to).at'])).flatMap Pt.c))->freeze m d own (.tuple [.slM d i 0 2 2 2 false,.bool b])=some (.tuple [(mkRow Pt.c_len _ (1+a.via.l.length+1) false hlen (by omega)).v,.bool b]):=fun own i b ho=>by
   have:=hfr own i b ho
   rwa [show (IV.slM d i 0 (1+a.via.l.length+1) (1+a.via.l.length+1) 2 false)=.slM d i 0 2 2 2 false by rw [e]] at this
  have a2:=fun n0 slot lk own=>app_slC (d:=d) (n0:=n0) (sz:=2) (len:=1) (slot:=slot) (n:=1) (by omega) (lk:=lk) (own:=own) (cs:=[.int .i64 (nodeD p a.fr).at'.x,.int .i64 (nodeD p a.fr).at'.y]) (new:=[.int .i64 (nodeD p a.to).at'.x,.int .i64 (nodeD p a.to).at'.y]) (by omega) rfl
  cases b1:(nodeF p a.fr).isSome <;> cases b2:(nodeF p a.to).isSome
  all_goals
   simp only [b1] at c2
   simp only [b2] at c3
   simp only [i76,W0,sevalprocAttr,Pn.c,Ac.c,rep,c2,c3,zr,zB,zH,zK,Za,app_zero0 h0,a2]
   refine ⟨rfl,?_⟩
   simp only [W0,sevalprocAttr]
   refine ⟨_,rfl,?_⟩
   exact hfr2 _ _ _ (by simp [hl,Pt.c,zg])
 ·have a1:=fun n0 slot lk own=>app_slC (d:=d) (n0:=n0) (sz:=2) (len:=1) (slot:=slot) (n:=a.via.l.length) h0 (lk:=lk) (own:=own) (cs:=[.int .i64 (nodeD p a.fr).at'.x,.int .i64 (nodeD p a.fr).at'.y]) (new:=a.via.l.flatMap Pt.c) (by omega) rfl
  have a2:=fun o0 o1 o2 o3 o4 o5 J slot own=>Zz (d:=d) (n0:=6) (sz:=2) (len:=1+a.via.l.length) (slot:=slot) (n:=1) (i:=6) (by omega) (lk:=look d out (hide [0] 6 (o0::o1::o2::o3::o4::o5::.cells (.int .i64 (nodeD p a.fr).at'.x::.int .i64 (nodeD p a.fr).at'.y::a.via.l.flatMap Pt.c)::J))) (own:=own) (c:=.int .i64 (nodeD p a.fr).at'.x::.int .i64 (nodeD p a.fr).at'.y::a.via.l.flatMap Pt.c)
   (new:=[.int .i64 (nodeD p a.to).at'.x,.int .i64 (nodeD p a.to).at'.y]) (by omega) (by rw [zco,zco,zE Pt.c_len]; omega) rfl (by simp [look,zF])
  cases b1:(nodeF p a.fr).isSome <;> cases b2:(nodeF p a.to).isSome
  all_goals
   simp only [b1] at c2
   simp only [b2] at c3
   simp only [i76,W0,sevalprocAttr,Pn.c,Ac.c,rep,c2,c3,zr,zB,zH,zK,Za,a1,a2,killAt]
   refine ⟨rfl,?_⟩
   simp only [W0,sevalprocAttr]
   refine ⟨_,rfl,?_⟩
   exact hfr _ _ _ (by simp [Pt.c,zg])
theorem zaq (hS:NoS S) (p:Pn) (id:Int) (hv:FewVia p):∃ q':SlOf 2 Pt.c,(pathOk p id=true->q'.l=pathL p id)/\Gives Ftab S 36 [.agg p.c,iv id] (.tuple [q'.v,iv (bif pathOk p id then 0 else 7)]):=by
 obtain ⟨q1,hq1,N1,h1⟩:=gives_rarc hS p id (fun f hf=>by have:=hv f hf; omega)
 have hq1':q1.l=(arcD p id).via.l:=hq1
 have hlen:q1.l.length<=100000:=by rw [hq1']; exact fewD hv id
 obtain ⟨q',hq',N4,h4⟩:=gives_line hS p { arcD p id with via:=q1 } hlen
 have c1:=fun m (hm:N1+N4+5<=m) d out ownV own i=>h1 m (by omega) d out ownV own i
 have c4:=fun m (hm:N1+N4+5<=m) d out ownV own i=>h4 m (by omega) d out ownV own i
 have e1:(p.as.l.find? fun f=>f.id==id)=arcF p id:=rfl
 have e2:((arcF p id).getD zAc)=arcD p id:=rfl
 simp only [e1,e2,zg,Pn.c,Ac.c] at c1 c4
 cases b1:(arcF p id).isSome
 ·refine ⟨nilS _ _,by simp [pathOk,b1],?_⟩
  refine zy (i:=i36) (ns hS (by rfl)) rfl rfl (Zf _ _) (N1+N4+5) (by omega) fun m hm d out=>?_
  simp only [b1] at c1
  simp only [i36,W0,sevalprocAttr,Pn.c,c1 m hm,c4 m hm,pathOk,b1,zcy,cond_false]
  rfl
 ·cases b2:(nodeF p (arcD p id).fr).isSome&&(nodeF p (arcD p id).to).isSome
  ·refine ⟨nilS _ _,by simp [pathOk,b2],?_⟩
   refine zy (i:=i36) (ns hS (by rfl)) rfl rfl (Zf _ _) (N1+N4+5) (by omega) fun m hm d out=>?_
   simp only [b1] at c1
   simp only [b2] at c4
   simp only [i36,W0,sevalprocAttr,Pn.c,c1 m hm,c4 m hm,pathOk,b1,b2,zcy,zdx,cond_false]
   rfl
  ·refine ⟨q',fun _=>by rw [hq',hq1']; rfl,?_⟩
   refine zy (i:=i36) (ns hS (by rfl)) rfl rfl (Zf _ _) (N1+N4+5) (by omega) fun m hm d out=>?_
   simp only [b1] at c1
   simp only [b2] at c4
   simp only [i36,W0,sevalprocAttr,Pn.c,c1 m hm,c4 m hm,pathOk,b1,b2,cond_true]
end
end
section
theorem yc {F:FuncId->Option IFn} {S:ySM} {α:Type} {f:FuncId} {a:α->List IV} {v:α->IV}:∀ (l:List α),(∀ x∈l,Gives F S f (a x) (v x))->∃ N,∀ x∈l,∀ m,N<=m->∀ d out ownV own id,callN F S m d out ownV own id f (a x)=some (.r,v x,own)
 | [],_=>⟨0,fun x hx=>by simp at hx⟩
 | y::l,h=>by
  obtain ⟨N1,h1⟩:=h y (zdv ..)
  obtain ⟨N2,h2⟩:=yc l fun x hx=>h x (zed _ hx)
  refine ⟨N1+N2,fun x hx m hm=>?_⟩
  rcases zdi.1 hx with rfl | hx
  ·exact h1 m (by omega)
  ·exact h2 x hx m (by omega)
theorem ZN (k:Int):0<=shapeI k/\shapeI k<=3:=by
 unfold shapeI
 cases k==1||k==2||k==8 <;> cases k==3||k==4 <;> cases k==5||k==6||k==7 <;> simp
def OwnI (d:Nat) (J:yLO) (lv:IV) (xs:List Int):Prop:=(xs=[]/\lv=.nilsl)∨∃ b,xs≠[]/\lv=.slM d (b+1) 0 xs.length xs.length 1 false/\J[b]?=some (.cells (xs.flatMap intc))
theorem OwnI.more {d:Nat} {J:yLO} {lv:IV} {xs:List Int} (h:OwnI d J lv xs) (r:yLO):OwnI d (J++r) lv xs:=by
 rcases h with h | ⟨b,hne,h1,h2⟩
 ·exact .inl h
 ·exact .inr ⟨b,hne,h1,by rw [zcn (zcl.1 h2).1]; exact h2⟩
section
variable {S:ySM}
theorem yO {lk:Nat->Nat->Option IObj} {x:Int} {tight:Bool}:cellsI lk 1 (.slC [.int .i64 x] 1 1 tight)=some ([.int .i64 x],1):=by
 simp [cellsI,seg,zd]
end
end
section
structure Bx where
 a:Int
 b:Int
 c:Int
 e:Int
def Bx.r (x:Bx):List IV:=[.int .i64 x.a,.int .i64 x.b,.int .i64 x.c,.int .i64 x.e]
def stepB (x:Bx) (p:Pt):Bx:=⟨if p.x<x.a then p.x else x.a,if p.y<x.b then p.y else x.b,if p.x > x.c then p.x else x.c,if p.y > x.e then p.y else x.e⟩
def startB (p:Pt):Bx:=⟨p.x,p.y,p.x,p.y⟩
def boxL (p:Pt) (l:List Pt):Bx:=l.foldl stepB (startB p)
theorem box_next {p x:Pt} {l:List Pt} {i:Nat} (hx:l[i]?=some x):boxL p (l.take (i+1))=stepB (boxL p (l.take i)) x:=by
 unfold boxL
 rw [zee,hx,zet,List.foldl_append]
 rfl
theorem box_fz (x:Bx):Fz (1+1) (.agg x.r):=fz_agg fun y hy=>by
 simp only [Bx.r,zdi,zdo,or_false] at hy
 rcases hy with rfl | rfl | rfl | rfl <;> exact zx
end
section
section
variable {α:Type} {g:α->List IV} {sz:Nat}
def OwnJ (g:α->List IV) (sz d k0:Nat) (J:yLO) (lv:IV) (xs:List α):Prop:=(xs=[]/\lv=.nilsl)∨∃ b,xs≠[]/\lv=.slM d (k0+b) 0 xs.length xs.length sz false/\J[b]?=some (.cells (xs.flatMap g))
theorem OwnJ.more {d k0:Nat} {J:yLO} {lv:IV} {xs:List α} (h:OwnJ g sz d k0 J lv xs) (r:yLO):OwnJ g sz d k0 (J++r) lv xs:=by
 rcases h with h | ⟨b,hne,h1,h2⟩
 ·exact .inl h
 ·exact .inr ⟨b,hne,h1,by rw [zcn (zcl.1 h2).1]; exact h2⟩
def rowQ (hs:∀ a,(g a).length=sz) (xs:List α) (hx:xs.length<9223372036854775808):SlOf sz g:=match xs,hx with
 | [],_=>nilS _ _
 | x::t,hx=>mkRow hs (x::t) (x::t).length false rfl hx
theorem yP (hs:∀ a,(g a).length=sz) (xs:List α) (hx:xs.length<9223372036854775808):(rowQ hs xs hx).l=xs:=by cases xs <;> rfl
theorem zY {Pre L:yLO} {b:Nat}:(Pre++L)[Pre.length+b]?=L[b]?:=by
 rw [zcq (by omega),zdw]
theorem yd {Pre L:yLO} {b:Nat} {v:IObj}:(Pre++L).set (Pre.length+b) v=Pre++L.set b v:=by
 rw [zd2 _ _ (by omega),zdw]
theorem Zo (hs:∀ a,(g a).length=sz) (hf:∀ a,∀ x∈g a,Fz 1 x) {d m:Nat} {Pre J:yLO} {lv:IV} {xs:List α} (hm:2<=m) (hx:xs.length<9223372036854775808) (h:OwnJ g sz d Pre.length J lv xs):freeze m d (Pre++J) lv=some (rowQ hs xs hx).v:=by
 rcases h with ⟨rfl,rfl⟩ | ⟨b,hne,rfl,h2⟩
 ·exact yU m (by omega) d _
 ·cases xs with
  | nil=>exact absurd rfl hne
  | cons x t=>exact yv (k:=1) hf (by omega) rfl hs (by rw [zY]; exact h2)
theorem yp (hs:∀ a,(g a).length=sz) {d n0 slot k:Nat} {out:yLM} {Pre J R:yLO} {lv:IV} {xs ys:List α} (h:OwnJ g sz d Pre.length J lv xs) (hy:ys.length≠0) (hx:xs.length+ys.length<=1073741824) (hk:n0+slot=Pre.length+(J.length+k)) (hf:R[k]?=some .free)
  (hsc:(ys.flatMap g).all IV.scalar=true) :
  ∃ e lv' J2,appendI d n0 (look d out (Pre++(J++R))) (Pre++(J++R)) sz lv (ys.flatMap g) ys.length slot=some (e,lv',Pre++J2)/\OwnJ g sz d Pre.length J2 lv' (xs++ys):=by
 have hkl:k<R.length:=(zcl.1 hf).1
 have hget:(J++R)[J.length+k]?=some .free:=by
  rw [zcq (by omega),zdw]
  exact hf
 have hlt:J.length+k<(J++R).length:=by rw [zcv]; omega
 have hne:xs++ys≠[]:=by
  intro he
  exact hy (by rw [(List.append_eq_nil_iff.1 he).2]; rfl)
 rcases h with ⟨rfl,rfl⟩ | ⟨b,_,rfl,h2⟩
 ·rw [Yd hy (by unfold bound; simp at hx; omega)]
  unfold mkAt
  rw [hk,zY,hget]
  simp only [zd]
  rw [yd]
  refine ⟨_,_,_,rfl,.inr ⟨J.length+k,hne,by simp,?_⟩⟩
  rw [zdt hlt]
  rfl
 ·have hb:b<J.length:=(zcl.1 h2).1
  have hb2:(J++R)[b]?=some (.cells (xs.flatMap g)):=by rw [zcn hb]; exact h2
  rw [Zz hy hx (zE hs) hsc (by simp only [look,if_true,zY]; exact hb2)]
  unfold killAt
  rw [hk,zY,hget]
  simp only [zd]
  rw [yd,yd]
  refine ⟨_,_,_,rfl,.inr ⟨J.length+k,hne,by simp,?_⟩⟩
  rw [zdt (by rw [zeb]; exact hlt)]
  simp
end
theorem yr {α β:Type} {g:α->List β} {c:Nat}:∀ {l:List α},(∀ x∈l,(g x).length<=c)->(l.flatMap g).length<=l.length*c
 | [],_=>by simp
 | x::l,h=>by
  rw [zc7,zcv,zco,Nat.succ_mul]
  have h1:=h x (zdv ..)
  have h2:=yr (l:=l) fun y hy=>h y (zed _ hy)
  omega
def nodeP (p:Pn) (k:Int):List Pt:=bif (nodeF p k).isSome then [(nodeD p k).at'] else []
def pathP (p:Pn) (k:Int):List Pt:=bif pathOk p k then pathL p k else []
def arcIn (f:Ft) (a:Ac):Bool:=(shapeI f.kind==2&&f.parts.l.contains a.id)||(shapeI f.kind==3&&(f.parts.l.contains a.l||f.parts.l.contains a.r))
def arcP (p:Pn) (f:Ft) (a:Ac):List Pt:=bif arcIn f a then pathP p a.id else []
def refPts (p:Pn) (f:Ft):List Pt:=bif shapeI f.kind==1 then f.parts.l.flatMap (nodeP p) else bif decide (shapeI f.kind > 1) then p.as.l.flatMap (arcP p f) else []
theorem yx {α β:Type} {g:α->List β} {l:List α} {i:Nat} {x:α} (hx:l[i]?=some x):(l.take (i+1)).flatMap g=(l.take i).flatMap g++g x:=by
 rw [zee,hx,zet,List.flatMap_append,zc7,zd3,zdc]
theorem YU (p:Pn) (k:Int):(nodeP p k).length<=1:=by
 unfold nodeP
 cases (nodeF p k).isSome <;> simp
theorem ZA {p:Pn} (h:FewVia p) (k:Int):(pathP p k).length<=100002:=by
 unfold pathP
 cases pathOk p k
 ·simp
 ·have:=fewD h k
  simp [pathL]
  omega
theorem arcP_le {p:Pn} (h:FewVia p) (f:Ft) (a:Ac):(arcP p f a).length<=100002:=by
 unfold arcP
 cases arcIn f a
 ·simp
 ·exact ZA h _
end
section
theorem yW {t:List IV} {n:Nat} (h:t.length=n):t=(List.range n).map (getK (.tuple []) t):=by
 apply List.ext_getElem?
 intro i
 rw [zdh]
 by_cases hi:i<n
 ·rw [List.getElem?_range hi,zcp,zL,zdq,zcm (by omega),zei]
 ·rw [List.getElem?_eq_none (by omega),List.getElem?_eq_none (by simp; omega),zdd]
theorem zz0:((0:Int)==0)=true:=by decide
theorem zz7:((7:Int)==0)=false:=by decide
theorem lt0 {n:Nat}:decide ((0:Int)<(n:Int))=decide (0<n):=by
 rw [Bool.eq_iff_iff]
 simp
section
variable {S:ySM}
theorem points_near (hS:NoS S) (s:Sv) (f:Ft) (h1:(shapeI f.kind==1)=true) (hpa:f.parts.l.length<=1000) (hlx:(refPts s.pl f).length<9223372036854775808):Gives Ftab S 21 [.agg s.c,.agg f.c] (rowQ Pt.c_len (refPts s.pl f) hlx).v:=by
 obtain ⟨N0,hN0⟩:=ZM hS f.kind
 obtain ⟨N1,hN1⟩:=yc (f:=49) (a:=fun x:Int=>[.agg s.pl.c,iv x]) (v:=fun x=>.tuple [.agg (nodeD s.pl x).c,.bool (nodeF s.pl x).isSome]) f.parts.l fun x _=>Z1 hS s.pl x
 have hre:refPts s.pl f=f.parts.l.flatMap (nodeP s.pl):=by simp [refPts,h1]
 have hg:decide (shapeI f.kind > 1)=false:=by
  have:shapeI f.kind=1:=by simpa using h1
  simp [this]
 refine yE (i:=i21) (ns hS (by rfl)) rfl rfl (N0+N1+f.parts.l.length+8) fun m hm d out=>?_
 obtain ⟨k,rfl⟩:∃ k,m=k+1:=⟨m - 1,by omega⟩
 have c0:=fun d out ownV own i=>hN0 (k+1) (by omega) d out ownV own i
 simp only [zg] at c0
 simp only [i21,W0,sevalprocAttr,Sv.c,Ft.c,c0]
 refine zb (fun j st=>∃ i J lv,j=f.parts.l.length - i/\i<=f.parts.l.length/\OwnJ Pt.c 2 d 2 J lv ((f.parts.l.take i).flatMap (nodeP s.pl))/\st.t.length=108/\getK (.tuple []) st.t 0=.agg s.c/\getK (.tuple []) st.t 1=.agg f.c/\getK (.tuple []) st.t 2=.ptrM d 0 0/\getK (.tuple []) st.t 3=.ptrM d 1 0/\getK (.tuple []) st.t 4=.nilsl/\getK (.tuple []) st.t 5=lv/\getK (.tuple []) st.t 6=iv (shapeI f.kind)/\getK (.tuple []) st.t 7=iv i/\st.own=.cells [s.pl.ns.v,s.pl.as.v,s.pl.fs.v,s.ft.v]::.cells [.int .i64 f.id,.int .i64 f.kind,.int .i64 f.cls,.str f.name.1,f.parts.v]::J) f.parts.l.length (by omega) ⟨0,[.free],.nilsl,by omega,by omega,.inl ⟨rfl,rfl⟩,rfl,rfl,rfl,rfl,rfl,rfl,rfl,rfl,rfl,rfl⟩ ?_
 rintro j ⟨t,own⟩ K ⟨i,J,lv,rfl,hi,hO,hl,k0,k1,k2,k3,k4,k5,k6,k7,ho⟩ hn he hr
 dsimp only at hl k0 k1 k2 k3 k4 k5 k6 k7 ho
 have ht:t=[getK (.tuple []) t 0,getK (.tuple []) t 1,getK (.tuple []) t 2,getK (.tuple []) t 3,getK (.tuple []) t 4,getK (.tuple []) t 5,getK (.tuple []) t 6,getK (.tuple []) t 7,getK (.tuple []) t 8,getK (.tuple []) t 9,getK (.tuple []) t 10,getK (.tuple []) t 11,getK (.tuple []) t 12,getK (.tuple []) t 13,getK (.tuple []) t 14,getK (.tuple []) t 15,getK (.tuple []) t 16,getK (.tuple []) t 17,getK (.tuple []) t 18,getK (.tuple []) t 19,getK (.tuple []) t 20,getK (.tuple []) t 21,getK (.tuple []) t 22,getK (.tuple []) t 23,getK (.tuple []) t 24,getK (.tuple []) t 25,getK (.tuple []) t 26,getK (.tuple []) t 27,getK (.tuple []) t 28,getK (.tuple []) t 29,getK (.tuple []) t 30,getK (.tuple []) t 31,getK (.tuple []) t 32,getK (.tuple []) t 33,getK (.tuple []) t 34,getK (.tuple []) t 35,getK (.tuple []) t 36,getK (.tuple []) t 37,getK (.tuple []) t 38,getK (.tuple []) t 39,getK (.tuple []) t 40,getK (.tuple []) t 41,getK (.tuple []) t 42,getK (.tuple []) t 43,getK (.tuple []) t 44,getK (.tuple []) t 45,getK (.tuple []) t 46,getK (.tuple []) t 47,getK (.tuple []) t 48,getK (.tuple []) t 49,getK (.tuple []) t 50,getK (.tuple []) t 51,getK (.tuple []) t 52,getK (.tuple []) t 53,getK (.tuple []) t 54,getK (.tuple []) t 55,getK (.tuple []) t 56,getK (.tuple []) t 57,getK (.tuple []) t 58,getK (.tuple []) t 59,getK (.tuple []) t 60,getK (.tuple []) t 61,getK (.tuple []) t 62,getK (.tuple []) t 63,getK (.tuple []) t 64,getK (.tuple []) t 65,getK (.tuple []) t 66,getK (.tuple []) t 67,getK (.tuple []) t 68,getK (.tuple []) t 69,getK (.tuple []) t 70,getK (.tuple []) t 71,getK (.tuple []) t 72,getK (.tuple []) t 73,getK (.tuple []) t 74,getK (.tuple []) t 75,getK (.tuple []) t 76,getK (.tuple []) t 77,getK (.tuple []) t 78,getK (.tuple []) t 79,getK (.tuple []) t 80,getK (.tuple []) t 81,getK (.tuple []) t 82,getK (.tuple []) t 83,getK (.tuple []) t 84,getK (.tuple []) t 85,getK (.tuple []) t 86,getK (.tuple []) t 87,getK (.tuple []) t 88,getK (.tuple []) t 89,getK (.tuple []) t 90,getK (.tuple []) t 91,getK (.tuple []) t 92,getK (.tuple []) t 93,getK (.tuple []) t 94,getK (.tuple []) t 95,getK (.tuple []) t 96,getK (.tuple []) t 97,getK (.tuple []) t 98,getK (.tuple []) t 99,getK (.tuple []) t 100,getK (.tuple []) t 101,getK (.tuple []) t 102,getK (.tuple []) t 103,getK (.tuple []) t 104,getK (.tuple []) t 105,getK (.tuple []) t 106,getK (.tuple []) t 107]:=yW hl
 simp only [k0,k1,k2,k3,k4,k5,k6,k7] at ht
 generalize getK (.tuple []) t=r at ht
 subst ht
 subst ho
 by_cases h:i<f.parts.l.length
 ·have hx:f.parts.l[i]?=some f.parts.l[i]:=zcm h
  generalize f.parts.l[i]=x at hx
  have hmem:=zev hx
  have hrd:rdN (f.parts.l.flatMap intc) (i*1) 1=some [iv x]:=zc zn 0 1 hx (by omega)
  have hw:wrapI .i64 ((i:Int)+1)=((i+1:Nat):Int):=zC (by have:=f.parts.few; omega)
  have c1:=fun d out ownV own i=>hN1 x hmem (k+1) (by omega) d out ownV own i
  simp only [zg,Pn.c,Nd.c] at c1
  have hnx:=yx (g:=nodeP s.pl) hx
  have hle:((f.parts.l.take i).flatMap (nodeP s.pl)).length<=1000*1:=by
   refine zej (yr fun a _=>YU s.pl a) (zd5 _ ?_)
   rw [zd9]
   omega
  cases hb:(nodeF s.pl x).isSome
  ·simp only [nodeP,hb,cond_false,zdc] at hnx
   simp only [hb] at c1
   simp only [W0,sevalprocAttr,h,h1,za f.parts h,hrd,c1]
   refine ⟨by simp [comm],?_⟩
   simp only [W0,sevalprocAttr,hw]
   exact hn _ (f.parts.l.length - (i+1)) (by omega) ⟨i+1,_,lv,rfl,by omega,by rw [hnx]; exact hO.more _,rfl,rfl,rfl,rfl,rfl,rfl,rfl,rfl,rfl,rfl⟩
  ·simp only [nodeP,hb,cond_true] at hnx
   simp only [hb] at c1
   obtain ⟨e,lv',J2,happ,hO2⟩:=yp (Pre:=[.cells [s.pl.ns.v,s.pl.as.v,s.pl.fs.v,s.ft.v],.cells [.int .i64 f.id,.int .i64 f.kind,.int .i64 f.cls,.str f.name.1,f.parts.v]]) (n0:=J.length+2+1+1) (slot:=0) (k:=2) (out:=out) (R:=[.free,.cells [.int .i64 (nodeD s.pl x).id,.int .i64 (nodeD s.pl x).at'.x,.int .i64 (nodeD s.pl x).at'.y],.free]) Pt.c_len hO (ys:=[(nodeD s.pl x).at']) (by simp) (by simp only [zco,zcu]; omega) (by simp only [zco,zcu]; omega) rfl Z3
   simp only [zc5,zdg,zc7,zd3,Pt.c,zg,zco,zcu,zdc,zc8] at happ
   simp only [W0,sevalprocAttr,h,h1,za f.parts h,hrd,c1]
   refine ⟨by simp [comm],?_⟩
   simp only [W0,sevalprocAttr,hw,rep,zr,zB,zH,Za,happ]
   exact hn _ (f.parts.l.length - (i+1)) (by omega) ⟨i+1,J2,lv',rfl,by omega,by rw [hnx]; exact hO2,rfl,rfl,rfl,rfl,rfl,rfl,rfl,rfl,rfl,rfl⟩
 ·simp only [W0,sevalprocAttr,h]
  refine he _ _ ?_
  rw [zcx (by omega),← hre] at hO
  cases hlt:decide (0<s.pl.as.l.length)
  all_goals
   simp only [W0,sevalprocAttr,YQ,YR,lt0,hlt,hg]
   exact ⟨_,rfl,Zo (Pre:=[_,_]) Pt.c_len ZL (by omega) hlx hO⟩
theorem points_far (hS:NoS S) (s:Sv) (f:Ft) (h1:(shapeI f.kind==1)=false) (hg:decide (shapeI f.kind > 1)=true) (hv:FewVia s.pl) (has:s.pl.as.l.length<=1000) (hlx:(refPts s.pl f).length<9223372036854775808):Gives Ftab S 21 [.agg s.c,.agg f.c] (rowQ Pt.c_len (refPts s.pl f) hlx).v:=by
 obtain ⟨N0,hN0⟩:=ZM hS f.kind
 obtain ⟨N1,hN1⟩:=yc (f:=18) (a:=fun x:Ac=>[f.parts.v,iv x.id]) (v:=fun x=>.bool (f.parts.l.contains x.id)) s.pl.as.l fun x _=>zae hS f.parts x.id
 obtain ⟨N2,hN2⟩:=yc (f:=18) (a:=fun x:Ac=>[f.parts.v,iv x.l]) (v:=fun x=>.bool (f.parts.l.contains x.l)) s.pl.as.l fun x _=>zae hS f.parts x.l
 obtain ⟨N3,hN3⟩:=yc (f:=18) (a:=fun x:Ac=>[f.parts.v,iv x.r]) (v:=fun x=>.bool (f.parts.l.contains x.r)) s.pl.as.l fun x _=>zae hS f.parts x.r
 let rq:Ac->SlOf 2 Pt.c:=fun x=>Classical.choose (zaq hS s.pl x.id hv)
 have hrq:∀ x,(pathOk s.pl x.id=true->(rq x).l=pathL s.pl x.id)/\Gives Ftab S 36 [.agg s.pl.c,iv x.id] (.tuple [(rq x).v,iv (bif pathOk s.pl x.id then 0 else 7)]):=fun x=>Classical.choose_spec (zaq hS s.pl x.id hv)
 generalize rq=rq at hrq
 obtain ⟨N4,hN4⟩:=yc (f:=36) (a:=fun x:Ac=>[.agg s.pl.c,iv x.id]) (v:=fun x=>.tuple [(rq x).v,iv (bif pathOk s.pl x.id then 0 else 7)]) s.pl.as.l fun x _=>(hrq x).2
 have hre:refPts s.pl f=s.pl.as.l.flatMap (arcP s.pl f):=by simp only [refPts,h1,hg,cond_false,cond_true]
 refine yE (i:=i21) (ns hS (by rfl)) rfl rfl (N0+N1+N2+N3+N4+s.pl.as.l.length+8) fun m hm d out=>?_
 obtain ⟨k,rfl⟩:∃ k,m=k+1:=⟨m - 1,by omega⟩
 have c0:=fun d out ownV own i=>hN0 (k+1) (by omega) d out ownV own i
 simp only [zg] at c0
 have hsh:shapeI f.kind=2∨shapeI f.kind=3:=by
  have:=ZN f.kind
  have h2:shapeI f.kind > 1:=by simpa using hg
  omega
 have start:∀ (hlt:Bool),decide (0<f.parts.l.length)=hlt->Ex (callN Ftab S (k+1)) d out (k+1) i21.body (FinF d out i21.res (k+1) (rowQ Pt.c_len (refPts s.pl f) hlx).v) ⟨[.agg s.c,.agg f.c]++List.replicate (i21.ntmps - 2) (.tuple []),[]⟩:=by
  intro hlt hlt'
  cases hlt
  all_goals
   simp only [i21,W0,sevalprocAttr,Sv.c,Ft.c,c0,Nat.reduceSub]
   rw [YQ,YR]
   simp only [W0,sevalprocAttr,lt0,hlt',h1]
   refine zb (fun j st=>∃ i J lv,j=s.pl.as.l.length - i/\i<=s.pl.as.l.length/\OwnJ Pt.c 2 d 2 J lv ((s.pl.as.l.take i).flatMap (arcP s.pl f))/\st.t.length=108/\getK (.tuple []) st.t 0=.agg s.c/\getK (.tuple []) st.t 1=.agg f.c/\getK (.tuple []) st.t 2=.ptrM d 0 0/\getK (.tuple []) st.t 3=.ptrM d 1 0/\getK (.tuple []) st.t 4=.nilsl/\getK (.tuple []) st.t 5=lv/\getK (.tuple []) st.t 6=iv (shapeI f.kind)/\getK (.tuple []) st.t 10=iv i/\st.own=.cells [s.pl.ns.v,s.pl.as.v,s.pl.fs.v,s.ft.v]::.cells [.int .i64 f.id,.int .i64 f.kind,.int .i64 f.cls,.str f.name.1,f.parts.v]::J) s.pl.as.l.length (by omega) ⟨0,[.free],.nilsl,by omega,by omega,.inl ⟨rfl,rfl⟩,rfl,rfl,rfl,rfl,rfl,rfl,rfl,rfl,rfl,rfl⟩ ?_
   rintro j ⟨t,own⟩ K ⟨i,J,lv,rfl,hi,hO,hl,k0,k1,k2,k3,k4,k5,k6,k10,ho⟩ hn he hr
   dsimp only at hl k0 k1 k2 k3 k4 k5 k6 k10 ho
   have ht:t=[getK (.tuple []) t 0,getK (.tuple []) t 1,getK (.tuple []) t 2,getK (.tuple []) t 3,getK (.tuple []) t 4,getK (.tuple []) t 5,getK (.tuple []) t 6,getK (.tuple []) t 7,getK (.tuple []) t 8,getK (.tuple []) t 9,getK (.tuple []) t 10,getK (.tuple []) t 11,getK (.tuple []) t 12,getK (.tuple []) t 13,getK (.tuple []) t 14,getK (.tuple []) t 15,getK (.tuple []) t 16,getK (.tuple []) t 17,getK (.tuple []) t 18,getK (.tuple []) t 19,getK (.tuple []) t 20,getK (.tuple []) t 21,getK (.tuple []) t 22,getK (.tuple []) t 23,getK (.tuple []) t 24,getK (.tuple []) t 25,getK (.tuple []) t 26,getK (.tuple []) t 27,getK (.tuple []) t 28,getK (.tuple []) t 29,getK (.tuple []) t 30,getK (.tuple []) t 31,getK (.tuple []) t 32,getK (.tuple []) t 33,getK (.tuple []) t 34,getK (.tuple []) t 35,getK (.tuple []) t 36,getK (.tuple []) t 37,getK (.tuple []) t 38,getK (.tuple []) t 39,getK (.tuple []) t 40,getK (.tuple []) t 41,getK (.tuple []) t 42,getK (.tuple []) t 43,getK (.tuple []) t 44,getK (.tuple []) t 45,getK (.tuple []) t 46,getK (.tuple []) t 47,getK (.tuple []) t 48,getK (.tuple []) t 49,getK (.tuple []) t 50,getK (.tuple []) t 51,getK (.tuple []) t 52,getK (.tuple []) t 53,getK (.tuple []) t 54,getK (.tuple []) t 55,getK (.tuple []) t 56,getK (.tuple []) t 57,getK (.tuple []) t 58,getK (.tuple []) t 59,getK (.tuple []) t 60,getK (.tuple []) t 61,getK (.tuple []) t 62,getK (.tuple []) t 63,getK (.tuple []) t 64,getK (.tuple []) t 65,getK (.tuple []) t 66,getK (.tuple []) t 67,getK (.tuple []) t 68,getK (.tuple []) t 69,getK (.tuple []) t 70,getK (.tuple []) t 71,getK (.tuple []) t 72,getK (.tuple []) t 73,getK (.tuple []) t 74,getK (.tuple []) t 75,getK (.tuple []) t 76,getK (.tuple []) t 77,getK (.tuple []) t 78,getK (.tuple []) t 79,getK (.tuple []) t 80,getK (.tuple []) t 81,getK (.tuple []) t 82,getK (.tuple []) t 83,getK (.tuple []) t 84,getK (.tuple []) t 85,getK (.tuple []) t 86,getK (.tuple []) t 87,getK (.tuple []) t 88,getK (.tuple []) t 89,getK (.tuple []) t 90,getK (.tuple []) t 91,getK (.tuple []) t 92,getK (.tuple []) t 93,getK (.tuple []) t 94,getK (.tuple []) t 95,getK (.tuple []) t 96,getK (.tuple []) t 97,getK (.tuple []) t 98,getK (.tuple []) t 99,getK (.tuple []) t 100,getK (.tuple []) t 101,getK (.tuple []) t 102,getK (.tuple []) t 103,getK (.tuple []) t 104,getK (.tuple []) t 105,getK (.tuple []) t 106,getK (.tuple []) t 107]:=yW hl
   simp only [k0,k1,k2,k3,k4,k5,k6,k10] at ht
   generalize getK (.tuple []) t=r at ht
   subst ht
   subst ho
   by_cases h:i<s.pl.as.l.length
   ·have hx:s.pl.as.l[i]?=some s.pl.as.l[i]:=zcm h
    generalize s.pl.as.l[i]=x at hx
    have hmem:=zev hx
    have hrd:rdN (s.pl.as.l.flatMap Ac.c) (i*6) 6=some x.c:=(zc Ac.c_len 0 6 hx (by omega)).trans rfl
    have hw:wrapI .i64 ((i:Int)+1)=((i+1:Nat):Int):=zC (by have:=s.pl.as.few; omega)
    have c1:=fun d out ownV own i=>hN1 x hmem (k+1) (by omega) d out ownV own i
    have c2:=fun d out ownV own i=>hN2 x hmem (k+1) (by omega) d out ownV own i
    have c3:=fun d out ownV own i=>hN3 x hmem (k+1) (by omega) d out ownV own i
    have c4:=fun d out ownV own i=>hN4 x hmem (k+1) (by omega) d out ownV own i
    simp only [zg,Pn.c] at c1 c2 c3 c4
    have hql:=(hrq x).1
    have hnx:=yx (g:=arcP s.pl f) hx
    have hle:((s.pl.as.l.take i).flatMap (arcP s.pl f)).length<=1000*100002:=by
     refine zej (yr fun a _=>arcP_le hv f a) (zd5 _ ?_)
     rw [zd9]
     omega
    have hple:=ZA hv x.id
    have hn2:∀ lv2 J2,OwnJ Pt.c 2 d 2 J2 lv2 ((s.pl.as.l.take i).flatMap (arcP s.pl f)++arcP s.pl f x)->∀ t own,t.length=108->getK (.tuple []) t 0=.agg s.c->getK (.tuple []) t 1=.agg f.c->getK (.tuple []) t 2=.ptrM d 0 0->getK (.tuple []) t 3=.ptrM d 1 0->getK (.tuple []) t 4=.nilsl->getK (.tuple []) t 5=lv2->getK (.tuple []) t 6=iv (shapeI f.kind)->getK (.tuple []) t 10=iv (i+1:Nat)->own=.cells [s.pl.ns.v,s.pl.as.v,s.pl.fs.v,s.ft.v]::.cells [.int .i64 f.id,.int .i64 f.kind,.int .i64 f.cls,.str f.name.1,f.parts.v]::J2->K .normal ⟨t,own⟩:=fun lv2 J2 hO2 t own e1 q0 q1 q2 q3 q4 q5 q6 q10 e3=>hn _ (s.pl.as.l.length - (i+1)) (by omega) ⟨i+1,J2,lv2,rfl,by omega,by rw [hnx]; exact hO2,e1,q0,q1,q2,q3,q4,q5,q6,q10,e3⟩
    have hpl:pathOk s.pl x.id=true->(pathL s.pl x.id).length<=100002:=fun hp=>by simpa [pathP,hp] using hple
    have hap:=fun (hp:pathOk s.pl x.id=true)=>yp (Pre:=[.cells [s.pl.ns.v,s.pl.as.v,s.pl.fs.v,s.ft.v],.cells [.int .i64 f.id,.int .i64 f.kind,.int .i64 f.cls,.str f.name.1,f.parts.v]]) (n0:=J.length+5+1+1) (slot:=0) (k:=5) (out:=out) (R:=[.cells [.int .i64 x.id,.int .i64 x.fr,.int .i64 x.to,x.via.v,.int .i64 x.l,.int .i64 x.r],.free,.free,.free,.free,.free]) Pt.c_len hO (ys:=pathL s.pl x.id) (by simp [pathL]) (by have h9:=hpl hp; omega) (by simp only [zco,zcu]; omega) rfl Z3
    simp only [zc5,zdg] at hap
    rcases hsh with hs2 | hs3
    ·have b2:(shapeI f.kind==2)=true:=by simp [hs2]
     have b3:(shapeI f.kind==3)=false:=by simp [hs2]
     cases ba:f.parts.l.contains x.id
     ·-- not a part
      have hz:arcP s.pl f x=[]:=by simp only [arcP,arcIn,b2,b3,ba,zdx,zeh,zdk,zcy,zd6,Bool.or_false,Bool.or_true,zds,zdj,Bool.or_self,cond_false,cond_true]
      simp only [W0,sevalprocAttr,h,hg,za s.pl.as h,hrd,Ac.c,c1,c2,c3,c4,b2,b3,ba,hw]
      exact hn2 lv _ (by rw [hz,zdc]; exact hO.more _) _ _ rfl rfl rfl rfl rfl rfl rfl rfl rfl rfl
     ·-- a part
      have hin:arcIn f x=true:=by simp only [arcIn,b2,b3,ba,zdx,zeh,zdk,zcy,zd6,Bool.or_false,Bool.or_true,zds,zdj,Bool.or_self,cond_false,cond_true]
      cases hp:pathOk s.pl x.id
      ·have hz:arcP s.pl f x=[]:=by simp only [arcP,pathP,hin,hp,zdx,zeh,zdk,zcy,zd6,Bool.or_false,Bool.or_true,zds,zdj,Bool.or_self,cond_false,cond_true]
       simp only [hp,cond_false] at c4
       simp only [W0,sevalprocAttr,h,hg,za s.pl.as h,hrd,Ac.c,c1,c2,c3,c4,b2,b3,ba,zz7,hw]
       exact hn2 lv _ (by rw [hz,zdc]; exact hO.more _) _ _ rfl rfl rfl rfl rfl rfl rfl rfl rfl rfl
      ·have hz:arcP s.pl f x=pathL s.pl x.id:=by simp only [arcP,pathP,hin,hp,zdx,zeh,zdk,zcy,zd6,Bool.or_false,Bool.or_true,zds,zdj,Bool.or_self,cond_false,cond_true]
       obtain ⟨e,lv2,J2,happ,hO2⟩:=hap hp
       simp only [hp,cond_true] at c4
       simp only [W0,sevalprocAttr,h,hg,za s.pl.as h,hrd,Ac.c,c1,c2,c3,c4,b2,b3,ba,zz0,hw,zr,zB,zH,zK,hql hp,happ]
       exact hn2 lv2 J2 (by rw [hz]; exact hO2) _ _ rfl rfl rfl rfl rfl rfl rfl rfl rfl rfl
    ·have b2:(shapeI f.kind==2)=false:=by simp [hs3]
     have b3:(shapeI f.kind==3)=true:=by simp [hs3]
     cases bl:f.parts.l.contains x.l
     ·cases br:f.parts.l.contains x.r
      ·-- neither side
       have hz:arcP s.pl f x=[]:=by simp only [arcP,arcIn,b2,b3,bl,br,zdx,zeh,zdk,zcy,zd6,Bool.or_false,Bool.or_true,zds,zdj,Bool.or_self,cond_false,cond_true]
       simp only [W0,sevalprocAttr,h,hg,za s.pl.as h,hrd,Ac.c,c1,c2,c3,c4,b2,b3,bl,br,hw]
       exact hn2 lv _ (by rw [hz,zdc]; exact hO.more _) _ _ rfl rfl rfl rfl rfl rfl rfl rfl rfl rfl
      ·-- the right side
       have hin:arcIn f x=true:=by simp only [arcIn,b2,b3,bl,br,zdx,zeh,zdk,zcy,zd6,Bool.or_false,Bool.or_true,zds,zdj,Bool.or_self,cond_false,cond_true]
       cases hp:pathOk s.pl x.id
       ·have hz:arcP s.pl f x=[]:=by simp only [arcP,pathP,hin,hp,zdx,zeh,zdk,zcy,zd6,Bool.or_false,Bool.or_true,zds,zdj,Bool.or_self,cond_false,cond_true]
        simp only [hp,cond_false] at c4
        simp only [W0,sevalprocAttr,h,hg,za s.pl.as h,hrd,Ac.c,c1,c2,c3,c4,b2,b3,bl,br,zz7,hw]
        exact hn2 lv _ (by rw [hz,zdc]; exact hO.more _) _ _ rfl rfl rfl rfl rfl rfl rfl rfl rfl rfl
       ·have hz:arcP s.pl f x=pathL s.pl x.id:=by simp only [arcP,pathP,hin,hp,zdx,zeh,zdk,zcy,zd6,Bool.or_false,Bool.or_true,zds,zdj,Bool.or_self,cond_false,cond_true]
        obtain ⟨e,lv2,J2,happ,hO2⟩:=hap hp
        simp only [hp,cond_true] at c4
        simp only [W0,sevalprocAttr,h,hg,za s.pl.as h,hrd,Ac.c,c1,c2,c3,c4,b2,b3,bl,br,zz0,hw,zr,zB,zH,zK,hql hp,happ]
        exact hn2 lv2 J2 (by rw [hz]; exact hO2) _ _ rfl rfl rfl rfl rfl rfl rfl rfl rfl rfl
     ·-- the left side
      have hin:arcIn f x=true:=by simp only [arcIn,b2,b3,bl,zdx,zeh,zdk,zcy,zd6,Bool.or_false,Bool.or_true,zds,zdj,Bool.or_self,cond_false,cond_true]
      cases hp:pathOk s.pl x.id
      ·have hz:arcP s.pl f x=[]:=by simp only [arcP,pathP,hin,hp,zdx,zeh,zdk,zcy,zd6,Bool.or_false,Bool.or_true,zds,zdj,Bool.or_self,cond_false,cond_true]
       simp only [hp,cond_false] at c4
       simp only [W0,sevalprocAttr,h,hg,za s.pl.as h,hrd,Ac.c,c1,c2,c3,c4,b2,b3,bl,zz7,hw]
       exact hn2 lv _ (by rw [hz,zdc]; exact hO.more _) _ _ rfl rfl rfl rfl rfl rfl rfl rfl rfl rfl
      ·have hz:arcP s.pl f x=pathL s.pl x.id:=by simp only [arcP,pathP,hin,hp,zdx,zeh,zdk,zcy,zd6,Bool.or_false,Bool.or_true,zds,zdj,Bool.or_self,cond_false,cond_true]
       obtain ⟨e,lv2,J2,happ,hO2⟩:=hap hp
       simp only [hp,cond_true] at c4
       simp only [W0,sevalprocAttr,h,hg,za s.pl.as h,hrd,Ac.c,c1,c2,c3,c4,b2,b3,bl,zz0,hw,zr,zB,zH,zK,hql hp,happ]
       exact hn2 lv2 J2 (by rw [hz]; exact hO2) _ _ rfl rfl rfl rfl rfl rfl rfl rfl rfl rfl
   ·simp only [W0,sevalprocAttr,h]
    refine he _ _ ?_
    rw [zcx (by omega),← hre] at hO
    simp only [W0,sevalprocAttr]
    exact ⟨_,rfl,Zo (Pre:=[_,_]) Pt.c_len ZL (by omega) hlx hO⟩
 exact start _ rfl
end
end
section
section
variable {S:ySM}
theorem points_none (hS:NoS S) (s:Sv) (f:Ft) (h1:(shapeI f.kind==1)=false) (hg:decide (shapeI f.kind > 1)=false) (hlx:(refPts s.pl f).length<9223372036854775808):Gives Ftab S 21 [.agg s.c,.agg f.c] (rowQ Pt.c_len (refPts s.pl f) hlx).v:=by
 obtain ⟨N0,hN0⟩:=ZM hS f.kind
 have hre:refPts s.pl f=[]:=by simp only [refPts,h1,hg,cond_false]
 refine yE (i:=i21) (ns hS (by rfl)) rfl rfl (N0+8) fun m hm d out=>?_
 obtain ⟨k,rfl⟩:∃ k,m=k+1:=⟨m - 1,by omega⟩
 have c0:=fun d out ownV own i=>hN0 (k+1) (by omega) d out ownV own i
 simp only [zg] at c0
 have hfin:∀ own:yLO,freeze (k+1) d own .nilsl=some (rowQ Pt.c_len (refPts s.pl f) hlx).v:=fun own=>by
  generalize refPts s.pl f=xs at hre hlx
  subst hre
  rfl
 cases ha:decide (0<f.parts.l.length) <;> cases hb:decide (0<s.pl.as.l.length)
 all_goals
  simp only [i21,W0,sevalprocAttr,Sv.c,Ft.c,c0,YQ,YR,lt0,ha,hb,h1,hg]
  exact ⟨_,rfl,hfin _⟩
theorem gives_points (hS:NoS S) (s:Sv) (f:Ft) (hv:FewVia s.pl) (has:s.pl.as.l.length<=1000) (hpa:f.parts.l.length<=1000) (hlx:(refPts s.pl f).length<9223372036854775808):Gives Ftab S 21 [.agg s.c,.agg f.c] (rowQ Pt.c_len (refPts s.pl f) hlx).v:=by
 cases h1:shapeI f.kind==1
 ·cases hg:decide (shapeI f.kind > 1)
  ·exact points_none hS s f h1 hg hlx
  ·exact points_far hS s f h1 hg hv has hlx
 ·exact points_near hS s f h1 hpa hlx
theorem refPts_lt {p:Pn} {f:Ft} (hv:FewVia p) (has:p.as.l.length<=1000) (hpa:f.parts.l.length<=1000):(refPts p f).length<=100002000:=by
 unfold refPts
 cases shapeI f.kind==1
 ·cases decide (shapeI f.kind > 1)
  ·simp
  ·have h1:=yr (l:=p.as.l) fun a _=>arcP_le hv f a
   have h2:=zd5 100002 has
   simp only [cond_false,cond_true]
   omega
 ·have h1:=yr (l:=f.parts.l) fun a _=>YU p a
  simp only [cond_true]
  omega
def findD (s:Sv) (id:Int):Ft:=(s.ft.l.find? fun f=>f.id==id).getD zFt
def findOk (s:Sv) (id:Int):Bool:=(s.ft.l.find? fun f=>f.id==id).isSome
end
end
section
def zBox:Bx:=⟨0,0,0,0⟩
theorem bndR_fz (x:Bx) (b:Bool):Fz (1+1+1) (.tuple [.agg x.r,.bool b]):=by
 refine YI fun y hy=>?_
 simp only [zdi,zdo,or_false] at hy
 rcases hy with rfl | rfl
 ·exact box_fz x
 ·exact zw.le (by omega)
def boxP (l:List Pt):Bx:=match l with
 | []=>zBox
 | p::t=>boxL p (p::t)
def hasP (l:List Pt):Bool:=match l with
 | []=>false
 | _::_=>true
end
section
section
variable {F:FuncId->Option IFn} {S:ySM}
theorem gives_at {f:FuncId} {i:IFn} {args:Nat->List IV} {v:IV} {k dc m:Nat} {out:yLM} {ownV own:yLO} {id:Nat} (hS:S f (args dc)=none) (hi:F f=some i) (hm:i.mode=0) (hv:Fz k v) (hN:k<=m)
  (h:Ex (callN F S m) (dc+1) (fun l=>if l=dc then ownV else out l) m i.body (Fin (dc+1) (fun l=>if l=dc then ownV else out l) i.res v) ⟨args dc++List.replicate (i.ntmps - (args dc).length) (.tuple []),[]⟩):callN F S (m+1) dc out ownV own id f (args dc)=some (.r,v,own):=by
 obtain ⟨o,st,h1,h2,h3⟩:=h
 have hm2:¬ i.mode=2:=by omega
 have hm1:¬ i.mode=1:=by omega
 have h4:=hv m hN (dc+1) st.own
 simp only [callN,hS,hi,if_neg hm2,zd,h1]
 rcases h2 with rfl | rfl <;> simp only [ended,h3,zc9,leave,if_neg hm1,h4,zcp]
end
section
variable {S:ySM}
theorem zbx (hS:NoS S) (l:List Pt) (p:Pt) (hp:l[0]?=some p) (hl:l.length<=1073741824):∀ m,l.length+6<=m->∀ dc out ownV own id b,ownV[b]?=some (.cells (l.flatMap Pt.c))->callN Ftab S m dc out ownV own id 48 [.slM dc b 0 l.length l.length 2 false]=some (.r,.agg (boxL p l).r,own):=by
 intro m hm dc out ownV own id b hob
 obtain ⟨m,rfl⟩:∃ q,m=q+1:=⟨m - 1,by omega⟩
 refine gives_at (i:=i48) (args:=fun dc=>[.slM dc b 0 l.length l.length 2 false]) (ns hS (by rfl)) rfl rfl (box_fz _) (by omega) ?_
 have hpos:0<l.length:=(zcl.1 hp).1
 have hne:(((l.length:Nat):Int)==0)=false:=by rw [beq_eq_false_iff_ne]; omega
 have d1:¬ dc=dc+1:=by omega
 have d2:dc<dc+1:=by omega
 have hr0:rdN (l.flatMap Pt.c) (0*2) 1=some [.int .i64 p.x]:=(zc Pt.c_len 0 1 hp (by omega)).trans rfl
 have hr1:rdN (l.flatMap Pt.c) (0*2+1) 1=some [.int .i64 p.y]:=(zc Pt.c_len 1 1 hp (by omega)).trans rfl
 have hia:=fun own=>zJ (own:=own) (l:=dc) (b:=b) (off:=0) (cap:=l.length) (z:=2) (z':=2) (tight:=false) (k:=.i64) hpos
 simp only [zdy,zc8,Nat.add_zero] at hr0 hr1 hia
 have hia0:∀ own,iaddrV own 2 (.slM dc b 0 l.length l.length 2 false) (.int .i64 0)=some (.p,.ptrM dc b 0,own):=fun own=>hia own
 simp only [i48,W0,sevalprocAttr,hne,hia0,d1,d2,hob,hr0,hr1]
 refine ⟨by simp [comm],?_⟩
 simp only [W0,sevalprocAttr]
 refine zb (fun j st=>∃ i J,j=l.length - i/\i<=l.length/\st.t.length=58/\getK (.tuple []) st.t 0=.slM dc b 0 l.length l.length 2 false/\getK (.tuple []) st.t 2=.ptrM (dc+1) 0 0/\getK (.tuple []) st.t 26=.slM dc b 0 l.length l.length 2 false/\getK (.tuple []) st.t 27=iv (l.length:Nat)/\getK (.tuple []) st.t 28=iv i/\st.own=.cells (boxL p (l.take i)).r::J) l.length (by omega) ⟨0,[],by omega,by omega,rfl,rfl,rfl,rfl,rfl,rfl,rfl⟩ ?_
 rintro j ⟨t,own⟩ K ⟨i,J,rfl,hi,hl,k0,k2,k26,k27,k28,ho⟩ hn he hr
 dsimp only at hl k0 k2 k26 k27 k28 ho
 have ht:t=[getK (.tuple []) t 0,getK (.tuple []) t 1,getK (.tuple []) t 2,getK (.tuple []) t 3,getK (.tuple []) t 4,getK (.tuple []) t 5,getK (.tuple []) t 6,getK (.tuple []) t 7,getK (.tuple []) t 8,getK (.tuple []) t 9,getK (.tuple []) t 10,getK (.tuple []) t 11,getK (.tuple []) t 12,getK (.tuple []) t 13,getK (.tuple []) t 14,getK (.tuple []) t 15,getK (.tuple []) t 16,getK (.tuple []) t 17,getK (.tuple []) t 18,getK (.tuple []) t 19,getK (.tuple []) t 20,getK (.tuple []) t 21,getK (.tuple []) t 22,getK (.tuple []) t 23,getK (.tuple []) t 24,getK (.tuple []) t 25,getK (.tuple []) t 26,getK (.tuple []) t 27,getK (.tuple []) t 28,getK (.tuple []) t 29,getK (.tuple []) t 30,getK (.tuple []) t 31,getK (.tuple []) t 32,getK (.tuple []) t 33,getK (.tuple []) t 34,getK (.tuple []) t 35,getK (.tuple []) t 36,getK (.tuple []) t 37,getK (.tuple []) t 38,getK (.tuple []) t 39,getK (.tuple []) t 40,getK (.tuple []) t 41,getK (.tuple []) t 42,getK (.tuple []) t 43,getK (.tuple []) t 44,getK (.tuple []) t 45,getK (.tuple []) t 46,getK (.tuple []) t 47,getK (.tuple []) t 48,getK (.tuple []) t 49,getK (.tuple []) t 50,getK (.tuple []) t 51,getK (.tuple []) t 52,getK (.tuple []) t 53,getK (.tuple []) t 54,getK (.tuple []) t 55,getK (.tuple []) t 56,getK (.tuple []) t 57]:=yW hl
 simp only [k0,k2,k26,k27,k28] at ht
 generalize getK (.tuple []) t=r at ht
 subst ht
 subst ho
 by_cases h:i<l.length
 ·have hx:l[i]?=some l[i]:=zcm h
  generalize l[i]=x at hx
  have hrd:rdN (l.flatMap Pt.c) (i*2) 2=some x.c:=(zc Pt.c_len 0 2 hx (by omega)).trans rfl
  have hw:wrapI .i64 ((i:Int)+1)=((i+1:Nat):Int):=zC (by omega)
  have hi2:=fun own=>zJ (own:=own) (l:=dc) (b:=b) (off:=0) (cap:=l.length) (z:=2) (z':=2) (tight:=false) (k:=.i64) h
  simp only [zc8] at hi2
  have hnx:=box_next (p:=p) hx
  generalize boxL p (l.take i)=bx at hnx
  simp only [W0,sevalprocAttr,h,hi2,d1,d2,hob,hrd,Pt.c,Bx.r]
  refine ⟨by simp [comm],?_⟩
  simp only [W0,sevalprocAttr]
  refine ⟨by simp [comm],?_⟩
  simp only [W0,sevalprocAttr,hw]
  exact hn _ (l.length - (i+1)) (by omega) ⟨i+1,_,rfl,by omega,rfl,rfl,rfl,rfl,rfl,rfl,by rw [hnx]; rfl⟩
 ·simp only [W0,sevalprocAttr,h,Bx.r]
  refine he _ _ ?_
  rw [zcx (by omega)]
  simp only [W0,sevalprocAttr,Bx.r]
end
end
section
section
variable {F:FuncId->Option IFn} {S:ySM}
def FinX (d:Nat) (out:yLM) (rs:List IRes) (v:IV) (Q:List IObj->Prop) (o:Out) (st:St):Prop:=(o=.normal∨o=.ret)/\resultI d out st rs=some v/\Q st.own
variable {d:Nat} {out:yLM} {rs:List IRes} {v:IV} {Q:List IObj->Prop} {st:St}
theorem zar:FinX d out rs v Q .normal st=(resultI d out st rs=some v/\Q st.own):=propext ⟨fun h=>h.2,fun h=>⟨.inl rfl,h⟩⟩
theorem gives_x {f:FuncId} {i:IFn} {args:List IV} {m:Nat} {ownV own:yLO} {id:Nat} (hS:S f args=none) (hi:F f=some i) (hm:i.mode=2)
  (h:Ex (callN F S m) d out m i.body (FinX d out i.res v Q) ⟨args++List.replicate (i.ntmps - args.length) (.tuple []),own⟩):∃ own',callN F S (m+1) d out ownV own id f args=some (.x,v,own')/\Q own':=by
 obtain ⟨o,st,h1,h2,h3,h4⟩:=h
 refine ⟨st.own,?_,h4⟩
 simp only [callN,hS,hi,hm,if_true,zd,h1]
 rcases h2 with rfl | rfl <;> simp only [ended,h3,zcp]
end
theorem OwnJ.one {α:Type} {g:α->List IV} {sz d k0:Nat} {J:yLO} {lv:IV} {xs:List α} (h:OwnJ g sz d k0 J lv xs):lv.cells=[lv]/\lv.scalar=true:=by
 rcases h with ⟨_,rfl⟩ | ⟨b,_,rfl,_⟩ <;> exact ⟨rfl,rfl⟩
theorem yn {d:Nat} {out:yLM} {st:St}:resultI d out st []=some (.tuple []):=zc3 rfl rfl
section
variable {S:ySM}
theorem clos_add (hS:NoS S) (s:Sv) (k:Int) (hv:FewVia s.pl):∃ N,∀ m,N<=m->∀ d out ownV id o1 o2 o3 J lv xs,OwnJ Pt.c 2 d 5 J lv xs->xs.length+100002<=1073741824 ->
  ∃ lv' J',callN Ftab S m d out ownV (.cells [s.pl.ns.v,s.pl.as.v,s.pl.fs.v,s.ft.v]::o1::o2::o3::.cells [lv]::J) id 46 [iv k,.ptrM d 0 0,.ptrM d 4 0]=some (.x,.tuple [],.cells [s.pl.ns.v,s.pl.as.v,s.pl.fs.v,s.ft.v]::o1::o2::o3::.cells [lv']::J')/\OwnJ Pt.c 2 d 5 J' lv' (xs++pathP s.pl k):=by
 obtain ⟨q',hql,N,hN⟩:=Zg hS s.pl k hv
 refine ⟨N+3,fun m hm d out ownV id o1 o2 o3 J lv xs hO hx=>?_⟩
 obtain ⟨m,rfl⟩:∃ q,m=q+1:=⟨m - 1,by omega⟩
 have c1:=hN m (by omega)
 simp only [zg,Pn.c] at c1
 have hpl:=ZA hv k
 have main:∃ own',callN Ftab S (m+1) d out ownV (.cells [s.pl.ns.v,s.pl.as.v,s.pl.fs.v,s.ft.v]::o1::o2::o3::.cells [lv]::J) id 46 [iv k,.ptrM d 0 0,.ptrM d 4 0]=some (.x,.tuple [],own')/\∃ lv' J',own'=(.cells [s.pl.ns.v,s.pl.as.v,s.pl.fs.v,s.ft.v]::o1::o2::o3::.cells [lv']::J')/\OwnJ Pt.c 2 d 5 J' lv' (xs++pathP s.pl k):=by
  refine gives_x (i:=i46) (ns hS (by rfl)) rfl rfl ?_
  cases hp:pathOk s.pl k
  ·have hz:pathP s.pl k=[]:=by simp only [pathP,hp,cond_false]
   simp only [hp,cond_false] at c1
   simp only [i46,W0,sevalprocAttr,c1,zz7,zar,yn]
   exact ⟨lv,_,rfl,by rw [hz,zdc]; exact hO.more _⟩
  ·have hz:pathP s.pl k=pathL s.pl k:=by simp only [pathP,hp,cond_true]
   rw [hz] at hpl
   simp only [hp,cond_true] at c1
   obtain ⟨e,lv',J2,happ,hO2⟩:=yp (Pre:=[.cells [s.pl.ns.v,s.pl.as.v,s.pl.fs.v,s.ft.v],o1,o2,o3,.cells [lv]]) (n0:=J.length+1+1+1+1+1+1) (slot:=0) (k:=1) (out:=out) (R:=[.free,.free]) Pt.c_len hO (ys:=pathL s.pl k) (by simp [pathL]) (by omega) (by simp only [zco,zcu]; omega) rfl Z3
   simp only [zc5,zdg] at happ
   obtain ⟨v1,v2⟩:=hO2.one
   simp only [i46,W0,sevalprocAttr,c1,zz0,zr,zB,zH,zK,hql hp,happ,v1,v2,zar,yn]
   exact ⟨lv',_,rfl,by rw [hz]; exact hO2⟩
 obtain ⟨own',h1,lv',J',rfl,h2⟩:=main
 exact ⟨lv',J',h1,h2⟩
end
end
section
theorem ZS {α:Type} {P:α->Nat->Prop}:∀ (l:List α),(∀ x∈l,∃ N,∀ m,N<=m->P x m)->∃ N,∀ x∈l,∀ m,N<=m->P x m
 | [],_=>⟨0,fun x hx=>by simp at hx⟩
 | y::l,h=>by
  obtain ⟨N1,h1⟩:=h y (zdv ..)
  obtain ⟨N2,h2⟩:=ZS l fun x hx=>h x (zed _ hx)
  refine ⟨N1+N2,fun x hx m hm=>?_⟩
  rcases zdi.1 hx with rfl | hx
  ·exact h1 m (by omega)
  ·exact h2 x hx m (by omega)
def sideIn (f:Ft) (a:Ac):Bool:=f.parts.l.contains a.l||f.parts.l.contains a.r
def sideP (p:Pn) (f:Ft) (a:Ac):List Pt:=bif sideIn f a then pathP p a.id else []
def progPts (p:Pn) (f:Ft):List Pt:=bif shapeI f.kind==1 then f.parts.l.flatMap (nodeP p) else bif shapeI f.kind==2 then f.parts.l.flatMap (pathP p) else bif shapeI f.kind==3 then p.as.l.flatMap (sideP p f) else []
theorem sideP_le {p:Pn} (h:FewVia p) (f:Ft) (a:Ac):(sideP p f a).length<=100002:=by
 unfold sideP
 cases sideIn f a
 ·simp
 ·exact ZA h _
theorem progPts_le {p:Pn} {f:Ft} (hv:FewVia p) (has:p.as.l.length<=1000) (hpa:f.parts.l.length<=1000):(progPts p f).length<=100002000:=by
 have h1:=yr (l:=p.as.l) fun a _=>sideP_le hv f a
 have h2:=zd5 100002 has
 have h3:=yr (l:=f.parts.l) fun a _=>YU p a
 have h4:=yr (l:=f.parts.l) fun a _=>ZA hv a
 have h5:=zd5 100002 hpa
 unfold progPts
 cases shapeI f.kind==1 <;> cases shapeI f.kind==2 <;> cases shapeI f.kind==3 <;> simp only [cond_false,cond_true,zcu] <;> omega
section
variable {S:ySM}
theorem gives_bounds (hS:NoS S) (s:Sv) (id:Int) (hv:FewVia s.pl) (has:s.pl.as.l.length<=1000) (hpa:∀ f∈s.ft.l,f.parts.l.length<=1000) :
  Gives Ftab S 20 [.agg s.c,iv id] (.tuple [.agg (boxP (bif findOk s id then progPts s.pl (findD s id) else [])).r,.bool (findOk s id&&hasP (progPts s.pl (findD s id)))]):=by
 obtain ⟨q',hq',N1,hN1⟩:=gives_find hS s id (fun f hf=>by have:=hpa f hf; omega)
 have hq2:q'.l=(findD s id).parts.l:=hq'
 have hpd:q'.l.length<=1000:=by
  rw [hq2]
  unfold findD
  cases hf:s.ft.l.find? fun f=>f.id==id with
  | none=>simp [zFt,nilS]
  | some f=>exact hpa f (zd4 hf)
 have hple:(progPts s.pl (findD s id)).length<=100002000:=progPts_le hv has (by rw [← hq2]; exact hpd)
 obtain ⟨N2,hN2⟩:=gives_shape hS (findD s id).kind
 obtain ⟨N3,hN3⟩:=yc (f:=47) (a:=fun x:Int=>[.agg s.pl.c,iv x]) (v:=fun x=>.tuple [.agg (nodeD s.pl x).c,.bool (nodeF s.pl x).isSome]) q'.l fun x _=>Ze hS s.pl x
 obtain ⟨N4,hN4⟩:=ZS q'.l fun x _=>clos_add hS s x hv
 obtain ⟨N5,hN5⟩:=ZS s.pl.as.l fun x _=>clos_add hS s x.id hv
 obtain ⟨N6,hN6⟩:=yc (f:=31) (a:=fun x:Ac=>[q'.v,iv x.l]) (v:=fun x=>.bool (q'.l.contains x.l)) s.pl.as.l fun x _=>Zc hS q' x.l
 obtain ⟨N7,hN7⟩:=yc (f:=31) (a:=fun x:Ac=>[q'.v,iv x.r]) (v:=fun x=>.bool (q'.l.contains x.r)) s.pl.as.l fun x _=>Zc hS q' x.r
 have e1:((s.ft.l.find? fun f=>f.id==id).getD zFt)=findD s id:=rfl
 have e2:(s.ft.l.find? fun f=>f.id==id).isSome=findOk s id:=rfl
 refine zy (i:=i20) (ns hS (by rfl)) rfl rfl (bndR_fz _ _) (N1+N2+N3+N4+N5+N6+N7+q'.l.length+s.pl.as.l.length+(progPts s.pl (findD s id)).length+8) (by omega) fun m hm d out=>?_
 have c1:=hN1 m (by omega)
 have c2:=hN2 m (by omega)
 simp only [e1,e2,zg,Sv.c,Ft.c] at c1 c2
 cases hok:findOk s id
 ·simp only [hok] at c1
  simp only [i20,W0,sevalprocAttr,Sv.c,c1,cond_false,zcy,boxP,zBox,Bx.r]
 ·simp only [hok] at c1
  simp only [cond_true,zdk]
  cases b1:shapeI (findD s id).kind==1
  ·cases b2:shapeI (findD s id).kind==2
   ·cases b3:shapeI (findD s id).kind==3
    ·have hpp:progPts s.pl (findD s id)=[]:=by simp only [progPts,b1,b2,b3,cond_false]
     simp only [i20,W0,sevalprocAttr,Sv.c,c1,c2,b1,b2,b3,zz0,hpp,boxP,zBox,Bx.r,hasP]
    ·have hpp:progPts s.pl (findD s id)=s.pl.as.l.flatMap (sideP s.pl (findD s id)):=by simp only [progPts,b1,b2,b3,cond_false,cond_true]
     simp only [i20,W0,sevalprocAttr,Sv.c,c1,c2,b1,b2,b3]
     refine zb (fun j st=>∃ i J lv,j=s.pl.as.l.length - i/\i<=s.pl.as.l.length/\OwnJ Pt.c 2 d 5 J lv ((s.pl.as.l.take i).flatMap (sideP s.pl (findD s id)))/\st.t.length=99/\getK (.tuple []) st.t 2=.ptrM d 0 0/\getK (.tuple []) st.t 4=.ptrM d 1 0/\getK (.tuple []) st.t 5=.bool true/\getK (.tuple []) st.t 6=.ptrM d 3 0/\getK (.tuple []) st.t 7=.ptrM d 4 0/\getK (.tuple []) st.t 8=.fn 46 [] [.ptrM d 0 0,.ptrM d 4 0]/\getK (.tuple []) st.t 70=s.pl.as.v/\getK (.tuple []) st.t 71=iv (s.pl.as.l.length:Nat)/\getK (.tuple []) st.t 72=iv i/\st.own=.cells [s.pl.ns.v,s.pl.as.v,s.pl.fs.v,s.ft.v]::.cells [.int .i64 0,.int .i64 0,.int .i64 0,.int .i64 0]::.free::.cells [.int .i64 (findD s id).id,.int .i64 (findD s id).kind,.int .i64 (findD s id).cls,.str (findD s id).name.1,q'.v]::.cells [lv]::J) s.pl.as.l.length (by omega) ⟨0,[.free],.nilsl,by omega,by omega,.inl ⟨rfl,rfl⟩,rfl,rfl,rfl,rfl,rfl,rfl,rfl,rfl,rfl,rfl,rfl⟩ ?_
     rintro j ⟨t,own⟩ K ⟨i,J,lv,rfl,hi,hO,hl,k2,k4,k5,k6,k7,k8,k70,k71,k72,ho⟩ hn he hr
     dsimp only at hl k2 k4 k5 k6 k7 k8 k70 k71 k72 ho
     have ht:t=[getK (.tuple []) t 0,getK (.tuple []) t 1,getK (.tuple []) t 2,getK (.tuple []) t 3,getK (.tuple []) t 4,getK (.tuple []) t 5,getK (.tuple []) t 6,getK (.tuple []) t 7,getK (.tuple []) t 8,getK (.tuple []) t 9,getK (.tuple []) t 10,getK (.tuple []) t 11,getK (.tuple []) t 12,getK (.tuple []) t 13,getK (.tuple []) t 14,getK (.tuple []) t 15,getK (.tuple []) t 16,getK (.tuple []) t 17,getK (.tuple []) t 18,getK (.tuple []) t 19,getK (.tuple []) t 20,getK (.tuple []) t 21,getK (.tuple []) t 22,getK (.tuple []) t 23,getK (.tuple []) t 24,getK (.tuple []) t 25,getK (.tuple []) t 26,getK (.tuple []) t 27,getK (.tuple []) t 28,getK (.tuple []) t 29,getK (.tuple []) t 30,getK (.tuple []) t 31,getK (.tuple []) t 32,getK (.tuple []) t 33,getK (.tuple []) t 34,getK (.tuple []) t 35,getK (.tuple []) t 36,getK (.tuple []) t 37,getK (.tuple []) t 38,getK (.tuple []) t 39,getK (.tuple []) t 40,getK (.tuple []) t 41,getK (.tuple []) t 42,getK (.tuple []) t 43,getK (.tuple []) t 44,getK (.tuple []) t 45,getK (.tuple []) t 46,getK (.tuple []) t 47,getK (.tuple []) t 48,getK (.tuple []) t 49,getK (.tuple []) t 50,getK (.tuple []) t 51,getK (.tuple []) t 52,getK (.tuple []) t 53,getK (.tuple []) t 54,getK (.tuple []) t 55,getK (.tuple []) t 56,getK (.tuple []) t 57,getK (.tuple []) t 58,getK (.tuple []) t 59,getK (.tuple []) t 60,getK (.tuple []) t 61,getK (.tuple []) t 62,getK (.tuple []) t 63,getK (.tuple []) t 64,getK (.tuple []) t 65,getK (.tuple []) t 66,getK (.tuple []) t 67,getK (.tuple []) t 68,getK (.tuple []) t 69,getK (.tuple []) t 70,getK (.tuple []) t 71,getK (.tuple []) t 72,getK (.tuple []) t 73,getK (.tuple []) t 74,getK (.tuple []) t 75,getK (.tuple []) t 76,getK (.tuple []) t 77,getK (.tuple []) t 78,getK (.tuple []) t 79,getK (.tuple []) t 80,getK (.tuple []) t 81,getK (.tuple []) t 82,getK (.tuple []) t 83,getK (.tuple []) t 84,getK (.tuple []) t 85,getK (.tuple []) t 86,getK (.tuple []) t 87,getK (.tuple []) t 88,getK (.tuple []) t 89,getK (.tuple []) t 90,getK (.tuple []) t 91,getK (.tuple []) t 92,getK (.tuple []) t 93,getK (.tuple []) t 94,getK (.tuple []) t 95,getK (.tuple []) t 96,getK (.tuple []) t 97,getK (.tuple []) t 98]:=yW hl
     simp only [k2,k4,k5,k6,k7,k8,k70,k71,k72] at ht
     generalize getK (.tuple []) t=r at ht
     subst ht
     subst ho
     by_cases h:i<s.pl.as.l.length
     ·have hx:s.pl.as.l[i]?=some s.pl.as.l[i]:=zcm h
      generalize s.pl.as.l[i]=x at hx
      have hmem:=zev hx
      have hrd:rdN (s.pl.as.l.flatMap Ac.c) (i*6) 6=some x.c:=(zc Ac.c_len 0 6 hx (by omega)).trans rfl
      have hw:wrapI .i64 ((i:Int)+1)=((i+1:Nat):Int):=zC (by have:=s.pl.as.few; omega)
      have c6:=hN6 x hmem m (by omega)
      have c7:=hN7 x hmem m (by omega)
      simp only [zg] at c6 c7
      have hnx:=yx (g:=sideP s.pl (findD s id)) hx
      have hle:((s.pl.as.l.take i).flatMap (sideP s.pl (findD s id))).length<=1000*100002:=by
       refine zej (yr fun a _=>sideP_le hv _ a) (zd5 _ ?_)
       rw [zd9]
       omega
      have hcl:=hN5 x hmem m (by omega) d out (.cells [s.pl.ns.v,s.pl.as.v,s.pl.fs.v,s.ft.v]::.cells [.int .i64 0,.int .i64 0,.int .i64 0,.int .i64 0]::.free::.cells [.int .i64 (findD s id).id,.int .i64 (findD s id).kind,.int .i64 (findD s id).cls,.str (findD s id).name.1,q'.v]::.cells [lv]::(J++[.cells [.int .i64 x.id,.int .i64 x.fr,.int .i64 x.to,x.via.v,.int .i64 x.l,.int .i64 x.r],.free,.free,.free])) (J.length+3+1+1+1+1+1) (.cells [.int .i64 0,.int .i64 0,.int .i64 0,.int .i64 0]) .free (.cells [.int .i64 (findD s id).id,.int .i64 (findD s id).kind,.int .i64 (findD s id).cls,.str (findD s id).name.1,q'.v]) (J++[.cells [.int .i64 x.id,.int .i64 x.fr,.int .i64 x.to,x.via.v,.int .i64 x.l,.int .i64 x.r],.free,.free,.free]) lv _ (hO.more _) (by omega)
      obtain ⟨lv',J',hcall,hO2⟩:=hcl
      simp only [zg] at hcall
      cases bl:q'.l.contains x.l
      ·cases br:q'.l.contains x.r
       ·have hz:sideP s.pl (findD s id) x=[]:=by simp only [sideP,sideIn,← hq2,bl,br,Bool.or_self,cond_false]
        simp only [W0,sevalprocAttr,h,za s.pl.as h,hrd,Ac.c,c6,c7,bl,br,hw]
        exact hn _ (s.pl.as.l.length - (i+1)) (by omega) ⟨i+1,_,lv,rfl,by omega,by rw [hnx,hz,zdc]; exact hO.more _,rfl,rfl,rfl,rfl,rfl,rfl,rfl,rfl,rfl,rfl,rfl⟩
       ·have hz:sideP s.pl (findD s id) x=pathP s.pl x.id:=by simp only [sideP,sideIn,← hq2,bl,br,Bool.or_true,cond_true]
        simp only [W0,sevalprocAttr,h,za s.pl.as h,hrd,Ac.c,c6,c7,bl,br,hw,hcall]
        exact hn _ (s.pl.as.l.length - (i+1)) (by omega) ⟨i+1,J',lv',rfl,by omega,by rw [hnx,hz]; exact hO2,rfl,rfl,rfl,rfl,rfl,rfl,rfl,rfl,rfl,rfl,rfl⟩
      ·have hz:sideP s.pl (findD s id) x=pathP s.pl x.id:=by simp only [sideP,sideIn,← hq2,bl,zds,cond_true]
       simp only [W0,sevalprocAttr,h,za s.pl.as h,hrd,Ac.c,c6,c7,bl,hw,hcall]
       exact hn _ (s.pl.as.l.length - (i+1)) (by omega) ⟨i+1,J',lv',rfl,by omega,by rw [hnx,hz]; exact hO2,rfl,rfl,rfl,rfl,rfl,rfl,rfl,rfl,rfl,rfl,rfl⟩
     ·simp only [W0,sevalprocAttr,h]
      refine he _ _ ?_
      rw [zcx (by omega),← hpp] at hO
      rcases hO with ⟨hxs,rfl⟩ | ⟨b,hxs,rfl,hb⟩
      ·simp only [W0,sevalprocAttr,zz0,Bx.r]
       rw [hxs]
       rfl
      ·obtain ⟨p0,tl,hpt⟩:∃ p0 tl,progPts s.pl (findD s id)=p0::tl:=by
        cases hh:progPts s.pl (findD s id) with
        | nil=>exact absurd hh hxs
        | cons p0 tl=>exact ⟨p0,tl,rfl⟩
       have hz:(((progPts s.pl (findD s id)).length:Int)==0)=false:=by
        rw [beq_eq_false_iff_ne,hpt]
        simp only [zco]
        omega
       have hring:=fun own hob=>zbx hS (progPts s.pl (findD s id)) p0 (by rw [hpt]; rfl) (by omega) m (by omega) d out own own (J.length+1+1+1+1+1) (5+b) hob
       have hring2:=hring (.cells [s.pl.ns.v,s.pl.as.v,s.pl.fs.v,s.ft.v]::.cells [.int .i64 0,.int .i64 0,.int .i64 0,.int .i64 0]::.free::.cells [.int .i64 (findD s id).id,.int .i64 (findD s id).kind,.int .i64 (findD s id).cls,.str (findD s id).name.1,q'.v]::.cells [.slM d (5+b) 0 (progPts s.pl (findD s id)).length (progPts s.pl (findD s id)).length 2 false]::(J++[.free])) (by
        rw [show 5+b=b+1+1+1+1+1 by omega]
        simp only [zct]
        rw [zcn (zcl.1 hb).1]
        exact hb)
       simp only [W0,sevalprocAttr,hz,hring2,Bx.r]
       rw [hpt]
       rfl
   ·have hpp:progPts s.pl (findD s id)=q'.l.flatMap (pathP s.pl):=by simp only [progPts,b1,b2,cond_false,cond_true,hq2]
    simp only [i20,W0,sevalprocAttr,Sv.c,c1,c2,b1,b2]
    refine zb (fun j st=>∃ i J lv,j=q'.l.length - i/\i<=q'.l.length/\OwnJ Pt.c 2 d 5 J lv ((q'.l.take i).flatMap (pathP s.pl))/\st.t.length=99/\getK (.tuple []) st.t 2=.ptrM d 0 0/\getK (.tuple []) st.t 4=.ptrM d 1 0/\getK (.tuple []) st.t 5=.bool true/\getK (.tuple []) st.t 6=.ptrM d 3 0/\getK (.tuple []) st.t 7=.ptrM d 4 0/\getK (.tuple []) st.t 8=.fn 46 [] [.ptrM d 0 0,.ptrM d 4 0]/\getK (.tuple []) st.t 56=q'.v/\getK (.tuple []) st.t 57=iv (q'.l.length:Nat)/\getK (.tuple []) st.t 58=iv i/\st.own=.cells [s.pl.ns.v,s.pl.as.v,s.pl.fs.v,s.ft.v]::.cells [.int .i64 0,.int .i64 0,.int .i64 0,.int .i64 0]::.free::.cells [.int .i64 (findD s id).id,.int .i64 (findD s id).kind,.int .i64 (findD s id).cls,.str (findD s id).name.1,q'.v]::.cells [lv]::J) q'.l.length (by omega) ⟨0,[.free],.nilsl,by omega,by omega,.inl ⟨rfl,rfl⟩,rfl,rfl,rfl,rfl,rfl,rfl,rfl,rfl,rfl,rfl,rfl⟩ ?_
    rintro j ⟨t,own⟩ K ⟨i,J,lv,rfl,hi,hO,hl,k2,k4,k5,k6,k7,k8,k56,k57,k58,ho⟩ hn he hr
    dsimp only at hl k2 k4 k5 k6 k7 k8 k56 k57 k58 ho
    have ht:t=[getK (.tuple []) t 0,getK (.tuple []) t 1,getK (.tuple []) t 2,getK (.tuple []) t 3,getK (.tuple []) t 4,getK (.tuple []) t 5,getK (.tuple []) t 6,getK (.tuple []) t 7,getK (.tuple []) t 8,getK (.tuple []) t 9,getK (.tuple []) t 10,getK (.tuple []) t 11,getK (.tuple []) t 12,getK (.tuple []) t 13,getK (.tuple []) t 14,getK (.tuple []) t 15,getK (.tuple []) t 16,getK (.tuple []) t 17,getK (.tuple []) t 18,getK (.tuple []) t 19,getK (.tuple []) t 20,getK (.tuple []) t 21,getK (.tuple []) t 22,getK (.tuple []) t 23,getK (.tuple []) t 24,getK (.tuple []) t 25,getK (.tuple []) t 26,getK (.tuple []) t 27,getK (.tuple []) t 28,getK (.tuple []) t 29,getK (.tuple []) t 30,getK (.tuple []) t 31,getK (.tuple []) t 32,getK (.tuple []) t 33,getK (.tuple []) t 34,getK (.tuple []) t 35,getK (.tuple []) t 36,getK (.tuple []) t 37,getK (.tuple []) t 38,getK (.tuple []) t 39,getK (.tuple []) t 40,getK (.tuple []) t 41,getK (.tuple []) t 42,getK (.tuple []) t 43,getK (.tuple []) t 44,getK (.tuple []) t 45,getK (.tuple []) t 46,getK (.tuple []) t 47,getK (.tuple []) t 48,getK (.tuple []) t 49,getK (.tuple []) t 50,getK (.tuple []) t 51,getK (.tuple []) t 52,getK (.tuple []) t 53,getK (.tuple []) t 54,getK (.tuple []) t 55,getK (.tuple []) t 56,getK (.tuple []) t 57,getK (.tuple []) t 58,getK (.tuple []) t 59,getK (.tuple []) t 60,getK (.tuple []) t 61,getK (.tuple []) t 62,getK (.tuple []) t 63,getK (.tuple []) t 64,getK (.tuple []) t 65,getK (.tuple []) t 66,getK (.tuple []) t 67,getK (.tuple []) t 68,getK (.tuple []) t 69,getK (.tuple []) t 70,getK (.tuple []) t 71,getK (.tuple []) t 72,getK (.tuple []) t 73,getK (.tuple []) t 74,getK (.tuple []) t 75,getK (.tuple []) t 76,getK (.tuple []) t 77,getK (.tuple []) t 78,getK (.tuple []) t 79,getK (.tuple []) t 80,getK (.tuple []) t 81,getK (.tuple []) t 82,getK (.tuple []) t 83,getK (.tuple []) t 84,getK (.tuple []) t 85,getK (.tuple []) t 86,getK (.tuple []) t 87,getK (.tuple []) t 88,getK (.tuple []) t 89,getK (.tuple []) t 90,getK (.tuple []) t 91,getK (.tuple []) t 92,getK (.tuple []) t 93,getK (.tuple []) t 94,getK (.tuple []) t 95,getK (.tuple []) t 96,getK (.tuple []) t 97,getK (.tuple []) t 98]:=yW hl
    simp only [k2,k4,k5,k6,k7,k8,k56,k57,k58] at ht
    generalize getK (.tuple []) t=r at ht
    subst ht
    subst ho
    by_cases h:i<q'.l.length
    ·have hx:q'.l[i]?=some q'.l[i]:=zcm h
     generalize q'.l[i]=x at hx
     have hmem:=zev hx
     have hrd:rdN (q'.l.flatMap intc) (i*1) 1=some [iv x]:=zc zn 0 1 hx (by omega)
     have hw:wrapI .i64 ((i:Int)+1)=((i+1:Nat):Int):=zC (by have:=q'.few; omega)
     have hnx:=yx (g:=pathP s.pl) hx
     have hle:((q'.l.take i).flatMap (pathP s.pl)).length<=1000*100002:=by
      refine zej (yr fun a _=>ZA hv a) (zd5 _ ?_)
      rw [zd9]
      omega
     have hcl:=hN4 x hmem m (by omega) d out (.cells [s.pl.ns.v,s.pl.as.v,s.pl.fs.v,s.ft.v]::.cells [.int .i64 0,.int .i64 0,.int .i64 0,.int .i64 0]::.free::.cells [.int .i64 (findD s id).id,.int .i64 (findD s id).kind,.int .i64 (findD s id).cls,.str (findD s id).name.1,q'.v]::.cells [lv]::(J++[.free])) (J.length+1+1+1+1+1) (.cells [.int .i64 0,.int .i64 0,.int .i64 0,.int .i64 0]) .free (.cells [.int .i64 (findD s id).id,.int .i64 (findD s id).kind,.int .i64 (findD s id).cls,.str (findD s id).name.1,q'.v]) (J++[.free]) lv _ (hO.more _) (by omega)
     obtain ⟨lv',J',hcall,hO2⟩:=hcl
     simp only [zg] at hcall
     simp only [W0,sevalprocAttr,h,za q' h,hrd,hw,hcall]
     exact hn _ (q'.l.length - (i+1)) (by omega) ⟨i+1,J',lv',rfl,by omega,by rw [hnx]; exact hO2,rfl,rfl,rfl,rfl,rfl,rfl,rfl,rfl,rfl,rfl,rfl⟩
    ·simp only [W0,sevalprocAttr,h]
     refine he _ _ ?_
     rw [zcx (by omega),← hpp] at hO
     rcases hO with ⟨hxs,rfl⟩ | ⟨b,hxs,rfl,hb⟩
     ·simp only [W0,sevalprocAttr,zz0,Bx.r]
      rw [hxs]
      rfl
     ·obtain ⟨p0,tl,hpt⟩:∃ p0 tl,progPts s.pl (findD s id)=p0::tl:=by
       cases hh:progPts s.pl (findD s id) with
       | nil=>exact absurd hh hxs
       | cons p0 tl=>exact ⟨p0,tl,rfl⟩
      have hz:(((progPts s.pl (findD s id)).length:Int)==0)=false:=by
       rw [beq_eq_false_iff_ne,hpt]
       simp only [zco]
       omega
      have hring:=fun own hob=>zbx hS (progPts s.pl (findD s id)) p0 (by rw [hpt]; rfl) (by omega) m (by omega) d out own own (J.length+1+1+1+1+1) (5+b) hob
      have hring2:=hring (.cells [s.pl.ns.v,s.pl.as.v,s.pl.fs.v,s.ft.v]::.cells [.int .i64 0,.int .i64 0,.int .i64 0,.int .i64 0]::.free::.cells [.int .i64 (findD s id).id,.int .i64 (findD s id).kind,.int .i64 (findD s id).cls,.str (findD s id).name.1,q'.v]::.cells [.slM d (5+b) 0 (progPts s.pl (findD s id)).length (progPts s.pl (findD s id)).length 2 false]::(J++[.free])) (by
       rw [show 5+b=b+1+1+1+1+1 by omega]
       simp only [zct]
       rw [zcn (zcl.1 hb).1]
       exact hb)
      simp only [W0,sevalprocAttr,hz,hring2,Bx.r]
      rw [hpt]
      rfl
  ·have hpp:progPts s.pl (findD s id)=q'.l.flatMap (nodeP s.pl):=by simp only [progPts,b1,cond_true,hq2]
   simp only [i20,W0,sevalprocAttr,Sv.c,c1,c2,b1]
   refine zb (fun j st=>∃ i J lv,j=q'.l.length - i/\i<=q'.l.length/\OwnJ Pt.c 2 d 5 J lv ((q'.l.take i).flatMap (nodeP s.pl))/\st.t.length=99/\getK (.tuple []) st.t 2=.ptrM d 0 0/\getK (.tuple []) st.t 4=.ptrM d 1 0/\getK (.tuple []) st.t 5=.bool true/\getK (.tuple []) st.t 6=.ptrM d 3 0/\getK (.tuple []) st.t 7=.ptrM d 4 0/\getK (.tuple []) st.t 33=q'.v/\getK (.tuple []) st.t 34=iv (q'.l.length:Nat)/\getK (.tuple []) st.t 35=iv i/\st.own=.cells [s.pl.ns.v,s.pl.as.v,s.pl.fs.v,s.ft.v]::.cells [.int .i64 0,.int .i64 0,.int .i64 0,.int .i64 0]::.free::.cells [.int .i64 (findD s id).id,.int .i64 (findD s id).kind,.int .i64 (findD s id).cls,.str (findD s id).name.1,q'.v]::.cells [lv]::J) q'.l.length (by omega) ⟨0,[.free],.nilsl,by omega,by omega,.inl ⟨rfl,rfl⟩,rfl,rfl,rfl,rfl,rfl,rfl,rfl,rfl,rfl,rfl⟩ ?_
   rintro j ⟨t,own⟩ K ⟨i,J,lv,rfl,hi,hO,hl,k2,k4,k5,k6,k7,k33,k34,k35,ho⟩ hn he hr
   dsimp only at hl k2 k4 k5 k6 k7 k33 k34 k35 ho
   have ht:t=[getK (.tuple []) t 0,getK (.tuple []) t 1,getK (.tuple []) t 2,getK (.tuple []) t 3,getK (.tuple []) t 4,getK (.tuple []) t 5,getK (.tuple []) t 6,getK (.tuple []) t 7,getK (.tuple []) t 8,getK (.tuple []) t 9,getK (.tuple []) t 10,getK (.tuple []) t 11,getK (.tuple []) t 12,getK (.tuple []) t 13,getK (.tuple []) t 14,getK (.tuple []) t 15,getK (.tuple []) t 16,getK (.tuple []) t 17,getK (.tuple []) t 18,getK (.tuple []) t 19,getK (.tuple []) t 20,getK (.tuple []) t 21,getK (.tuple []) t 22,getK (.tuple []) t 23,getK (.tuple []) t 24,getK (.tuple []) t 25,getK (.tuple []) t 26,getK (.tuple []) t 27,getK (.tuple []) t 28,getK (.tuple []) t 29,getK (.tuple []) t 30,getK (.tuple []) t 31,getK (.tuple []) t 32,getK (.tuple []) t 33,getK (.tuple []) t 34,getK (.tuple []) t 35,getK (.tuple []) t 36,getK (.tuple []) t 37,getK (.tuple []) t 38,getK (.tuple []) t 39,getK (.tuple []) t 40,getK (.tuple []) t 41,getK (.tuple []) t 42,getK (.tuple []) t 43,getK (.tuple []) t 44,getK (.tuple []) t 45,getK (.tuple []) t 46,getK (.tuple []) t 47,getK (.tuple []) t 48,getK (.tuple []) t 49,getK (.tuple []) t 50,getK (.tuple []) t 51,getK (.tuple []) t 52,getK (.tuple []) t 53,getK (.tuple []) t 54,getK (.tuple []) t 55,getK (.tuple []) t 56,getK (.tuple []) t 57,getK (.tuple []) t 58,getK (.tuple []) t 59,getK (.tuple []) t 60,getK (.tuple []) t 61,getK (.tuple []) t 62,getK (.tuple []) t 63,getK (.tuple []) t 64,getK (.tuple []) t 65,getK (.tuple []) t 66,getK (.tuple []) t 67,getK (.tuple []) t 68,getK (.tuple []) t 69,getK (.tuple []) t 70,getK (.tuple []) t 71,getK (.tuple []) t 72,getK (.tuple []) t 73,getK (.tuple []) t 74,getK (.tuple []) t 75,getK (.tuple []) t 76,getK (.tuple []) t 77,getK (.tuple []) t 78,getK (.tuple []) t 79,getK (.tuple []) t 80,getK (.tuple []) t 81,getK (.tuple []) t 82,getK (.tuple []) t 83,getK (.tuple []) t 84,getK (.tuple []) t 85,getK (.tuple []) t 86,getK (.tuple []) t 87,getK (.tuple []) t 88,getK (.tuple []) t 89,getK (.tuple []) t 90,getK (.tuple []) t 91,getK (.tuple []) t 92,getK (.tuple []) t 93,getK (.tuple []) t 94,getK (.tuple []) t 95,getK (.tuple []) t 96,getK (.tuple []) t 97,getK (.tuple []) t 98]:=yW hl
   simp only [k2,k4,k5,k6,k7,k33,k34,k35] at ht
   generalize getK (.tuple []) t=r at ht
   subst ht
   subst ho
   by_cases h:i<q'.l.length
   ·have hx:q'.l[i]?=some q'.l[i]:=zcm h
    generalize q'.l[i]=x at hx
    have hmem:=zev hx
    have hrd:rdN (q'.l.flatMap intc) (i*1) 1=some [iv x]:=zc zn 0 1 hx (by omega)
    have hw:wrapI .i64 ((i:Int)+1)=((i+1:Nat):Int):=zC (by have:=q'.few; omega)
    have c3:=hN3 x hmem m (by omega)
    simp only [zg,Pn.c,Nd.c] at c3
    have hnx:=yx (g:=nodeP s.pl) hx
    have hle:((q'.l.take i).flatMap (nodeP s.pl)).length<=1000*1:=by
     refine zej (yr fun a _=>YU s.pl a) (zd5 _ ?_)
     rw [zd9]
     omega
    cases hb:(nodeF s.pl x).isSome
    ·simp only [nodeP,hb,cond_false,zdc] at hnx
     simp only [hb] at c3
     simp only [W0,sevalprocAttr,h,za q' h,hrd,c3,hw]
     exact hn _ (q'.l.length - (i+1)) (by omega) ⟨i+1,_,lv,rfl,by omega,by rw [hnx]; exact hO.more _,rfl,rfl,rfl,rfl,rfl,rfl,rfl,rfl,rfl,rfl⟩
    ·simp only [nodeP,hb,cond_true] at hnx
     simp only [hb] at c3
     obtain ⟨e,lv',J2,happ,hO2⟩:=yp (Pre:=[.cells [s.pl.ns.v,s.pl.as.v,s.pl.fs.v,s.ft.v],.cells [.int .i64 0,.int .i64 0,.int .i64 0,.int .i64 0],.free,.cells [.int .i64 (findD s id).id,.int .i64 (findD s id).kind,.int .i64 (findD s id).cls,.str (findD s id).name.1,q'.v],.cells [lv]]) (n0:=J.length+2+1+1+1+1+1) (slot:=0) (k:=2) (out:=out) (R:=[.free,.cells [.int .i64 (nodeD s.pl x).id,.int .i64 (nodeD s.pl x).at'.x,.int .i64 (nodeD s.pl x).at'.y],.free]) Pt.c_len hO (ys:=[(nodeD s.pl x).at']) (by simp) (by simp only [zco,zcu]; omega) (by simp only [zco,zcu]; omega) rfl Z3
     simp only [zc5,zdg,zc7,zd3,Pt.c,zg,zco,zcu,zdc,zc8] at happ
     obtain ⟨v1,v2⟩:=hO2.one
     simp only [W0,sevalprocAttr,h,za q' h,hrd,c3,hw,rep,zr,zB,zH,Za,happ,v1,v2]
     exact hn _ (q'.l.length - (i+1)) (by omega) ⟨i+1,J2,lv',rfl,by omega,by rw [hnx]; exact hO2,rfl,rfl,rfl,rfl,rfl,rfl,rfl,rfl,rfl,rfl⟩
   ·simp only [W0,sevalprocAttr,h]
    refine he _ _ ?_
    rw [zcx (by omega),← hpp] at hO
    rcases hO with ⟨hxs,rfl⟩ | ⟨b,hxs,rfl,hb⟩
    ·simp only [W0,sevalprocAttr,zz0,Bx.r]
     rw [hxs]
     rfl
    ·obtain ⟨p0,tl,hpt⟩:∃ p0 tl,progPts s.pl (findD s id)=p0::tl:=by
      cases hh:progPts s.pl (findD s id) with
      | nil=>exact absurd hh hxs
      | cons p0 tl=>exact ⟨p0,tl,rfl⟩
     have hz:(((progPts s.pl (findD s id)).length:Int)==0)=false:=by
      rw [beq_eq_false_iff_ne,hpt]
      simp only [zco]
      omega
     have hring:=fun own hob=>zbx hS (progPts s.pl (findD s id)) p0 (by rw [hpt]; rfl) (by omega) m (by omega) d out own own (J.length+1+1+1+1+1) (5+b) hob
     have hring2:=hring (.cells [s.pl.ns.v,s.pl.as.v,s.pl.fs.v,s.ft.v]::.cells [.int .i64 0,.int .i64 0,.int .i64 0,.int .i64 0]::.free::.cells [.int .i64 (findD s id).id,.int .i64 (findD s id).kind,.int .i64 (findD s id).cls,.str (findD s id).name.1,q'.v]::.cells [.slM d (5+b) 0 (progPts s.pl (findD s id)).length (progPts s.pl (findD s id)).length 2 false]::(J++[.free])) (by
      rw [show 5+b=b+1+1+1+1+1 by omega]
      simp only [zct]
      rw [zcn (zcl.1 hb).1]
      exact hb)
     simp only [W0,sevalprocAttr,hz,hring2,Bx.r]
     rw [hpt]
     rfl
end
end
section
structure IsBox (l:List Pt) (x:Bx):Prop where
 all:∀ q∈l,x.a<=q.x/\x.b<=q.y/\q.x<=x.c/\q.y<=x.e
 a:∃ q∈l,q.x=x.a
 b:∃ q∈l,q.y=x.b
 c:∃ q∈l,q.x=x.c
 e:∃ q∈l,q.y=x.e
theorem isBox_start (p:Pt):IsBox [p] (startB p):=by
 refine ⟨fun q hq=>?_,⟨p,by simp,rfl⟩,⟨p,by simp,rfl⟩,⟨p,by simp,rfl⟩,⟨p,by simp,rfl⟩⟩
 rw [zec] at hq
 subst hq
 simp [startB]
theorem isBox_step {l:List Pt} {x:Bx} (h:IsBox l x) (q:Pt):IsBox (l++[q]) (stepB x q):=by
 have last:q∈l++[q]:=by simp
 have old:∀ r∈l,r∈l++[q]:=fun r hr=>List.mem_append_left _ hr
 constructor
 ·intro r hr
  rcases zek.1 hr with hr | hr
  ·have:=h.all r hr
   simp only [stepB]
   refine ⟨?_,?_,?_,?_⟩ <;> split <;> omega
  ·rw [zec] at hr
   subst hr
   simp only [stepB]
   refine ⟨?_,?_,?_,?_⟩ <;> split <;> omega
 ·simp only [stepB]
  split
  ·exact ⟨q,last,rfl⟩
  ·obtain ⟨r,hr,he⟩:=h.a; exact ⟨r,old r hr,he⟩
 ·simp only [stepB]
  split
  ·exact ⟨q,last,rfl⟩
  ·obtain ⟨r,hr,he⟩:=h.b; exact ⟨r,old r hr,he⟩
 ·simp only [stepB]
  split
  ·exact ⟨q,last,rfl⟩
  ·obtain ⟨r,hr,he⟩:=h.c; exact ⟨r,old r hr,he⟩
 ·simp only [stepB]
  split
  ·exact ⟨q,last,rfl⟩
  ·obtain ⟨r,hr,he⟩:=h.e; exact ⟨r,old r hr,he⟩
theorem zcf:∀ {l acc:List Pt} {x:Bx},IsBox acc x->IsBox (acc++l) (l.foldl stepB x)
 | [],acc,x,h=>by simpa using h
 | q::l,acc,x,h=>by
  have:=zcf (l:=l) (isBox_step h q)
  rw [zda] at this
  exact this
theorem isBox_mem {l l':List Pt} {x:Bx} (h:IsBox l x) (hm:∀ q,q∈l↔q∈l'):IsBox l' x :=
 ⟨fun q hq=>h.all q ((hm q).2 hq),let ⟨q,h1,h2⟩:=h.a; ⟨q,(hm q).1 h1,h2⟩,let ⟨q,h1,h2⟩:=h.b; ⟨q,(hm q).1 h1,h2⟩,let ⟨q,h1,h2⟩:=h.c; ⟨q,(hm q).1 h1,h2⟩,let ⟨q,h1,h2⟩:=h.e; ⟨q,(hm q).1 h1,h2⟩⟩
theorem isBox_boxP {p:Pt} {t:List Pt}:IsBox (p::t) (boxP (p::t)):=by
 have h:=zcf (l:=p::t) (isBox_start p)
 refine isBox_mem h fun q=>?_
 simp
theorem pts_same (p:Pn) (f:Ft):∀ q,q∈progPts p f↔q∈refPts p f:=by
 intro q
 unfold progPts refPts
 cases b1:shapeI f.kind==1
 ·simp only [cond_false]
  cases b2:shapeI f.kind==2
  ·simp only [cond_false]
   have hs:=ZN f.kind
   cases b3:shapeI f.kind==3
   ·have hg:decide (shapeI f.kind > 1)=false:=by
     have h1:shapeI f.kind≠1:=by simpa using b1
     have h2:shapeI f.kind≠2:=by simpa using b2
     have h3:shapeI f.kind≠3:=by simpa using b3
     rw [decide_eq_false_iff_not]
     omega
    rw [hg]
    rfl
   ·have h3:shapeI f.kind=3:=by simpa using b3
    have hg:decide (shapeI f.kind > 1)=true:=by rw [decide_eq_true_iff]; omega
    rw [hg]
    have he:sideP p f=arcP p f:=by
     funext a
     simp only [sideP,arcP,sideIn,arcIn,b2,b3,zcy,zdj,zdk]
    simp only [cond_true,he]
  ·have h2:shapeI f.kind=2:=by simpa using b2
   have b3:(shapeI f.kind==3)=false:=by rw [beq_eq_false_iff_ne]; omega
   have hg:decide (shapeI f.kind > 1)=true:=by rw [decide_eq_true_iff]; omega
   rw [hg]
   simp only [cond_true,zef]
   constructor
   ·rintro ⟨k,hk,hq⟩
    have hok:pathOk p k=true:=by
     cases h:pathOk p k
     ·simp [pathP,h] at hq
     ·rfl
    have hso:(arcF p k).isSome=true:=by
     unfold pathOk at hok
     rw [zc0] at hok
     exact hok.1
    obtain ⟨a,ha⟩:=Option.isSome_iff_exists.1 hso
    have hid:a.id=k:=by
     have:=List.find?_some ha
     simpa using this
    refine ⟨a,zd4 ha,?_⟩
    have hin:arcIn f a=true:=by
     simp only [arcIn,b2,zdk,zel]
     exact .inl (zem.2 (hid ▸ hk))
    simp only [arcP,hin,cond_true,hid]
    exact hq
   ·rintro ⟨a,ha,hq⟩
    cases hin:arcIn f a
    ·simp [arcP,hin] at hq
    ·simp only [arcP,hin,cond_true] at hq
     refine ⟨a.id,?_,hq⟩
     simp only [arcIn,b2,b3,zdk,zcy,Bool.or_false] at hin
     exact zem.1 hin
 ·rfl
end
end Go.Proofs.YthodhjagohdcnaaGreatDoor
end
