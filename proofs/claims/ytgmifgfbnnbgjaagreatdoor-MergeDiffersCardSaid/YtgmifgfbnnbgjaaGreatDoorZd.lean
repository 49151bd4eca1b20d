/-
  A part of the proof: the small machine, its simulation and its walks.
-/
import Derived.Test.YtgmifgfbnnbgjaaGreatDoorZb
import Derived.Test.YtgmifgfbnnbgjaaGreatDoorZc
set_option linter.unusedVariables false
set_option linter.unusedSimpArgs false
set_option maxRecDepth 1000000
set_option maxHeartbeats 3200000
section
namespace Go.Proofs.YtgmifgfbnnbgjaaGreatDoor
open Go Go.RowKit
section
def NoS (S:ySM):Prop:=∀ f args,f≠87->f≠6->f≠186->f≠80->S f args=none
def sf (f:FuncId):Bool:=!(Nat.beq f 87)&&!(Nat.beq f 6)&&!(Nat.beq f 186)&&!(Nat.beq f 80)
theorem ns {S:ySM} (hS:NoS S) {f:FuncId} {args:List IV} (h:sf f=true):S f args=none:=by
 simp only [sf,za3,Bool.not_eq_true'] at h
 obtain ⟨⟨⟨h1,h2⟩,h3⟩,h4⟩:=h
 exact hS f args (fun e=>by subst e; simp at h1) (fun e=>by subst e; simp at h2) (fun e=>by subst e; simp at h3) (fun e=>by subst e; simp at h4)
theorem lb {a b:Nat} (h:Nat.ble a b=true):a<=b:=zam h
theorem contains_app {l:List Int} {x n:Int}:(l++[x]).contains n=(l.contains n||x==n):=by
 rw [Bool.eq_iff_iff]
 simp only [List.contains_iff_mem,List.mem_append,List.mem_singleton,Bool.or_eq_true,beq_iff_eq]
 exact ⟨fun h=>h.imp id Eq.symm,fun h=>h.imp id Eq.symm⟩
theorem contains_at {l:List Int} {x n:Int} {i:Nat} (hx:l[i]?=some x) (hb:(x==n)=true):l.contains n=true:=by
 have:=List.mem_of_getElem? hx
 have h2:x=n:=by simpa using hb
 subst h2
 exact List.contains_iff_mem.2 this
end
section
def shapeI (k:Int):Int:=bif k==1||k==2||k==8 then 1 else bif k==3||k==4 then 2 else bif k==5||k==6||k==7 then 3 else 0
theorem yH:∀ a,∀ x∈intc a,Fz 1 x:=fun a x hx=>by
 simp only [intc,List.mem_singleton] at hx
 subst hx
 exact yE
theorem ptc_fz:∀ a:Pt,∀ x∈a.c,Fz 1 x:=fun a x hx=>by
 simp only [Pt.c,za4,zbp,or_false] at hx
 rcases hx with rfl | rfl <;> exact yE
section
variable {C:Call} {d:Nat} {out:yLM} {n0:Nat} {own ownV:yLO} {t:List IV}
noncomputable def appV (d n0:Nat) (lk:Nat->Nat->Option IObj) (own:yLO) (sz:Nat) (s:IV) (slot:Nat) (r:Option (List IV × Nat)):Res:=match r with
 | some (new,n)=>appendI d n0 lk own sz s new n slot
 | none=>none
theorem zy {z:List IV} {sz:Nat} {s x:Opd} {slot:Nat}:e_append d out n0 ownV own t z sz false s x slot=appV d n0 (look d out ownV) own sz (ρ t s) slot (cellsI (look d out ownV) sz (ρ t x)):=zax rfl rfl
theorem zH {lk:Nat->Nat->Option IObj} {sz slot n:Nat} {s:IV} {new:List IV}:appV d n0 lk own sz s slot (some (new,n))=appendI d n0 lk own sz s new n slot:=zax rfl rfl
theorem YF {lk:Nat->Nat->Option IObj} {sz slot n:Nat} {new:List IV} (h:n≠0) (hb:0+n<=1073741824):appendI d n0 lk own sz (.slC [] 0 sz true) new n slot=mkAt own (n0+slot) (.cells new) (.slM d (n0+slot) 0 n n sz false):=by
 unfold appendI
 rw [if_neg h]
 simp only
 rw [if_pos ⟨by unfold bound; omega,trivial⟩]
 simp [seg,zf]
end
end
section
theorem yz {α:Type} {p:α->Bool} {l:List α} {i:Nat} {x:α} (h:(l.take i).find? p=none) (hx:l[i]?=some x) (hp:p x=true):l.find? p=some x:=by
 have hi:=(zal.1 hx).1
 have h1:l=l.take i++x::l.drop (i+1):=by
  conv=>lhs; rw [← List.take_append_drop i l]
  congr 1
  rw [List.drop_eq_getElem_cons hi]
  congr 1
  rw [zak hi] at hx
  exact zbh hx
 rw [h1,List.find?_append,h,Option.none_or,List.find?_cons,hp]
theorem yh {α:Type} {p:α->Bool} {l:List α} {i:Nat} {x:α} (h:(l.take i).find? p=none) (hx:l[i]?=some x) (hp:p x=false):(l.take (i+1)).find? p=none:=by
 rw [List.take_add_one,hx,Option.toList_some,List.find?_append,h,Option.none_or,List.find?_cons,hp]
 rfl
theorem yA {α:Type} {p:α->Bool} {l:List α} {i:Nat} (h:(l.take i).find? p=none) (hi:¬ i<l.length):l.find? p=none:=by
 rwa [za0 (by omega)] at h
def nilS (sz:Nat) {α:Type} (g:α->List IV):SlOf sz g:=⟨[],.nilsl,.nil,by simp⟩
def zFt:Ft:=⟨0,0,0,⟨bs [],by decide⟩,nilS 1 intc⟩
def zAc:Ac:=⟨0,0,0,nilS 2 Pt.c,0,0⟩
def zNd:Nd:=⟨0,⟨0,0⟩⟩
theorem Z0:zFt.c=[.int .i64 0,.int .i64 0,.int .i64 0,.str (bs []),.nilsl]:=rfl
theorem Z1:zAc.c=[.int .i64 0,.int .i64 0,.int .i64 0,.nilsl,.int .i64 0,.int .i64 0]:=rfl
theorem zNd_c:zNd.c=[.int .i64 0,.int .i64 0,.int .i64 0]:=rfl
section
variable {S:ySM}
theorem Zk {α:Type} {g:α->List IV} {sz:Nat} (hg:∀ a,∀ x∈g a,Fz 1 x) (q:SlOf sz g):Fz (1+1+1) q.v:=by
 obtain ⟨l,v,ok,few⟩:=q
 have key:∀ (cs:List IV) (n:Nat) (v:IV),Sl sz cs n v->cs=l.flatMap g->Fz (1+1+1) v:=fun cs n v h hcs=>by
  cases h with
  | nil=>exact fz_nilsl.le (by omega)
  | row _ _ tight h=>subst hcs; exact (sl_fz (k:=1) hg).le (by omega)
 exact key _ _ _ ok rfl
theorem Y7:Fz (1+1+1) (.tuple [.agg ({ (none:Option Ft).getD zFt with parts:=nilS _ _ }:Ft).c,.bool (none:Option Ft).isSome]):=fun m hm lv own=>by
 obtain ⟨m,rfl⟩:∃ q,m=q+3:=⟨m - 3,by omega⟩
 rfl
theorem gives_arc_fz0:Fz (1+1+1) (.tuple [.agg ({ (none:Option Ac).getD zAc with via:=nilS _ _ }:Ac).c,.bool (none:Option Ac).isSome]):=fun m hm lv own=>by
 obtain ⟨m,rfl⟩:∃ q,m=q+3:=⟨m - 3,by omega⟩
 rfl
theorem Y8 (f0:Nd):Fz (1+1+1) (.tuple [.agg ((some f0).getD zNd).c,.bool (some f0).isSome]):=fun m hm lv own=>by
 obtain ⟨m,rfl⟩:∃ q,m=q+3:=⟨m - 3,by omega⟩
 rfl
theorem Y9:Fz (1+1+1) (.tuple [.agg ((none:Option Nd).getD zNd).c,.bool (none:Option Nd).isSome]):=fun m hm lv own=>by
 obtain ⟨m,rfl⟩:∃ q,m=q+3:=⟨m - 3,by omega⟩
 rfl
end
end
section
section
variable {d k n0:Nat} {lk:Nat->Nat->Option IObj} {own:yLO} {p p':IV}
theorem Z2 {sz z len slot:Nat} {cs new:List IV} {tight:Bool}:appendI d n0 lk own sz (.slC cs len z tight) new 0 slot=some (.r,.slC cs len z tight,own):=by
 unfold appendI
 rw [if_pos rfl]
theorem yd {f:IV->Option IV} {x y:IV} {l l':List IV} (h:f x=some y) (h2:l.mapM f=some l'):(x::l).mapM f=some (y::l'):=by
 rw [List.mapM_cons,h,h2]
 rfl
theorem mapM_n {f:IV->Option IV}:([]:List IV).mapM f=some []:=rfl
theorem Z3 {cs cs':List IV} (h:cs.mapM (freeze k d own)=some cs'):freeze (k+1) d own (.tuple cs)=some (.tuple cs'):=by simp only [freeze,h,za5]
theorem zaa {cs cs':List IV} (h:cs.mapM (freeze k d own)=some cs'):freeze (k+1) d own (.agg cs)=some (.agg cs'):=by simp only [freeze,h,za5]
theorem freeze_ft {a b c:Int} {s:ByteArray} {t:Bool} (hp:freeze (k+1) d own p=some p'):freeze (k+1+1+1) d own (.tuple [.agg [.int .i64 a,.int .i64 b,.int .i64 c,.str s,p],.bool t])=some (.tuple [.agg [.int .i64 a,.int .i64 b,.int .i64 c,.str s,p'],.bool t]) :=
 Z3 (yd (zaa (yd rfl (yd rfl (yd rfl (yd rfl (yd hp mapM_n)))))) (yd rfl mapM_n))
theorem freeze_ac {a b c e f:Int} {t:Bool} (hp:freeze (k+1) d own p=some p'):freeze (k+1+1+1) d own (.tuple [.agg [.int .i64 a,.int .i64 b,.int .i64 c,p,.int .i64 e,.int .i64 f],.bool t])=some (.tuple [.agg [.int .i64 a,.int .i64 b,.int .i64 c,p',.int .i64 e,.int .i64 f],.bool t]) :=
 Z3 (yd (zaa (yd rfl (yd rfl (yd rfl (yd hp (yd rfl (yd rfl mapM_n))))))) (yd rfl mapM_n))
theorem Yw {sz:Nat} {tight:Bool}:freeze (k+1) d own (.slC [] 0 sz tight)=some (.slC [] 0 sz tight):=by simp [freeze]
end
section
variable {S:ySM}
theorem mkv_ff {x:IV}:mkv false [x]=some x:=zax rfl rfl
theorem mkv_tt {l:List IV}:mkv true l=some (.agg l):=by cases l with
 | nil=>rfl
 | cons x l=>cases l <;> rfl
theorem sh_shl:isShift .shl=true:=zax rfl rfl
theorem sh_shr:isShift .shr=true:=zax rfl rfl
theorem sh_add:isShift .add=false:=zax rfl rfl
theorem sh_sub:isShift .sub=false:=zax rfl rfl
theorem sh_mul:isShift .mul=false:=zax rfl rfl
theorem sh_quo:isShift .quo=false:=zax rfl rfl
theorem sh_rem:isShift .rem=false:=zax rfl rfl
theorem sh_and:isShift .and=false:=zax rfl rfl
theorem sh_or:isShift .or=false:=zax rfl rfl
theorem sh_xor:isShift .xor=false:=zax rfl rfl
theorem sh_eql:isShift .eql=false:=zax rfl rfl
theorem sh_neq:isShift .neq=false:=zax rfl rfl
theorem sh_lss:isShift .lss=false:=zax rfl rfl
theorem sh_leq:isShift .leq=false:=zax rfl rfl
theorem sh_gtr:isShift .gtr=false:=zax rfl rfl
theorem sh_geq:isShift .geq=false:=zax rfl rfl
theorem repl_0 {x:IObj}:List.replicate 0 x=[]:=zax rfl rfl
theorem repl_1 {x:IObj}:List.replicate 1 x=[x]:=zax rfl rfl
theorem repl_2 {x:IObj}:List.replicate 2 x=[x,x]:=zax rfl rfl
theorem repl_3 {x:IObj}:List.replicate 3 x=[x,x,x]:=zax rfl rfl
theorem repl_4 {x:IObj}:List.replicate 4 x=[x,x,x,x]:=zax rfl rfl
theorem repl_5 {x:IObj}:List.replicate 5 x=[x,x,x,x,x]:=zax rfl rfl
theorem repl_6 {x:IObj}:List.replicate 6 x=[x,x,x,x,x,x]:=zax rfl rfl
theorem W0:(type_of% @Wall)/\(type_of% @zbd.{0})/\(type_of% @zbk.{0})/\(type_of% @zbv.{0})/\(type_of% @List.all_cons.{0})/\(type_of% @List.all_nil.{0})/\(type_of% @Bool.and_self)/\(type_of% @Bool.and_true)/\(type_of% @Bool.true_and)/\(type_of% @if_true.{1})/\(type_of% @zbc.{0})/\(type_of% @zau.{0})/\(type_of% @zap)/\(type_of% @Nat.add_zero)/\(type_of% @zaq)/\(type_of% @and_self)/\(type_of% @and_true)/\(type_of% @true_and)/\(type_of% @za8.{0})/\(type_of% @za1.{0})/\(type_of% @za5.{0,0})/\(type_of% @Option.map_none.{0,0})/\(type_of% @za7.{0,0})/\(type_of% @zaz)/\(type_of% @if_false.{1})/\(type_of% @List.map_cons.{0,0})/\(type_of% @List.map_nil.{0,0})/\(type_of% @Int.ofNat_lt)/\(type_of% @decide_true)/\(type_of% @decide_false)/\(type_of% @beq_iff_eq.{0})/\(type_of% @za9.{0})/\(type_of% @zaw.{0})/\(type_of% @zbm)/\(type_of% @zbj)/\(type_of% @mkAt.eq_1)/\(type_of% @Go.Proofs.YtgmifgfbnnbgjaaGreatDoor.look.eq_1)/\(type_of% @mkv_ff)/\(type_of% @mkv_tt)/\(type_of% @binI.eq_1)/\(type_of% @binI.eq_2)/\(type_of% @intBin.eq_1)/\(type_of% @intBin.eq_2)/\(type_of% @intBin.eq_3)/\(type_of% @intBin.eq_4)/\(type_of% @intBin.eq_5)/\(type_of% @intBin.eq_6)/\(type_of% @intBin.eq_7)/\(type_of% @intBin.eq_8)/\(type_of% @intBin.eq_9)/\(type_of% @intBin.eq_10)/\(type_of% @intBin.eq_11)/\(type_of% @intBin.eq_12)/\(type_of% @intBin.eq_13)/\(type_of% @intBin.eq_14)/\(type_of% @sh_shl)/\(type_of% @sh_shr)/\(type_of% @sh_add)/\(type_of% @sh_sub)/\(type_of% @sh_mul)/\(type_of% @sh_quo)/\(type_of% @sh_rem)/\(type_of% @sh_and)/\(type_of% @sh_or)/\(type_of% @sh_xor)/\(type_of% @sh_eql)/\(type_of% @sh_neq)/\(type_of% @sh_lss)/\(type_of% @sh_leq)/\(type_of% @sh_gtr)/\(type_of% @sh_geq)/\(type_of% @unI.eq_1)/\(type_of% @unI.eq_2)/\(type_of% @fillI.eq_1)/\(type_of% @fillI.eq_2)/\(type_of% @cellV.eq_1)/\(type_of% @e_nilchk.eq_1)/\(type_of% @e_pick.eq_1)/\(type_of% @e_box.eq_1)/\(type_of% @e_bslice.eq_1)/\(type_of% @e_load.eq_1)/\(type_of% @e_store.eq_1)/\(type_of% @e_eqb.eq_1)/\(type_of% @e_eqp.eq_1)/\(type_of% @e_eqs.eq_1)/\(type_of% @e_eqagg.eq_1)/\(type_of% @e_conv.eq_1)/\(type_of% @e_faddr.eq_1)/\(type_of% @e_field.eq_1)/\(type_of% @e_extract.eq_1)/\(type_of% @e_call.eq_1)/\(type_of% @e_mx.eq_1)/\(type_of% @repl_0)/\(type_of% @repl_1)/\(type_of% @repl_2)/\(type_of% @repl_3)/\(type_of% @repl_4)/\(type_of% @repl_5)/\(type_of% @repl_6) :=
 ⟨@Wall,@zbd.{0},@zbk.{0},@zbv.{0},@List.all_cons.{0},@List.all_nil.{0},@Bool.and_self,@Bool.and_true,@Bool.true_and,@if_true.{1},@zbc.{0},@zau.{0},@zap,@Nat.add_zero,@zaq,@and_self,@and_true,@true_and,@za8.{0},@za1.{0},@za5.{0,0},@Option.map_none.{0,0},@za7.{0,0},@zaz,@if_false.{1},@List.map_cons.{0,0},@List.map_nil.{0,0},@Int.ofNat_lt,@decide_true,@decide_false,@beq_iff_eq.{0},@za9.{0},@zaw.{0},@zbm,@zbj,@mkAt.eq_1,@Go.Proofs.YtgmifgfbnnbgjaaGreatDoor.look.eq_1,@mkv_ff,@mkv_tt,@binI.eq_1,@binI.eq_2,@intBin.eq_1,@intBin.eq_2,@intBin.eq_3,@intBin.eq_4,@intBin.eq_5,@intBin.eq_6,@intBin.eq_7,@intBin.eq_8,@intBin.eq_9,@intBin.eq_10,@intBin.eq_11,@intBin.eq_12,@intBin.eq_13,@intBin.eq_14,@sh_shl,@sh_shr,@sh_add,@sh_sub,@sh_mul,@sh_quo,@sh_rem,@sh_and,@sh_or,@sh_xor,@sh_eql,@sh_neq,@sh_lss,@sh_leq,@sh_gtr,@sh_geq,@unI.eq_1,@unI.eq_2,@fillI.eq_1,@fillI.eq_2,@cellV.eq_1,@e_nilchk.eq_1,@e_pick.eq_1,@e_box.eq_1,@e_bslice.eq_1,@e_load.eq_1,@e_store.eq_1,@e_eqb.eq_1,@e_eqp.eq_1,@e_eqs.eq_1,@e_eqagg.eq_1,@e_conv.eq_1,@e_faddr.eq_1,@e_field.eq_1,@e_extract.eq_1,@e_call.eq_1,@e_mx.eq_1,@repl_0,@repl_1,@repl_2,@repl_3,@repl_4,@repl_5,@repl_6⟩
theorem zP (hS:NoS S) (s:Sv) (id:Int) (hsm:∀ f∈s.ft.l,f.parts.l.length<=1073741824):∃ q',q'.l=((s.ft.l.find? fun f=>f.id==id).getD zFt).parts.l /\
  Gives Ftab S 99 [.agg s.c,iv id] (.tuple [.agg ({ (s.ft.l.find? fun f=>f.id==id).getD zFt with parts:=q' }:Ft).c,.bool (s.ft.l.find? fun f=>f.id==id).isSome]):=by
 cases hf:s.ft.l.find? fun f=>f.id==id with
 | none =>
  refine ⟨nilS _ _,rfl,?_⟩
  refine yQ (i:=i99) (k:=1+1+1) (ns hS (by rfl)) rfl rfl Y7 (s.ft.l.length+5) (by omega) fun m hm d out=>?_
  simp only [i99,W0,sevalprocAttr,Sv.c]
  refine zd (fun j st=>∃ i,j=s.ft.l.length - i/\i<=s.ft.l.length/\((s.ft.l.take i).find? fun f=>f.id==id)=none/\∃ J a3 a7 a8 a9 a10 a11 a12 a13 a14 a15 a16 a17 a18 a19 a20 a21 a22 a23 a24 a25 a26 a27 a28 a29 a30 a31 a32 a33 a34,st=⟨[.agg s.c,iv id,.ptrM d 0 0,a3,.ptrM d 1 0,.bool false,iv i,a7,a8,a9,a10,a11,a12,a13,a14,a15,a16,a17,a18,a19,a20,a21,a22,a23,a24,a25,a26,a27,a28,a29,a30,a31,a32,a33,a34],.cells [s.pl.ns.v,s.pl.as.v,s.pl.fs.v,s.ft.v]::.cells zFt.c::J⟩) s.ft.l.length (by omega) ⟨0,by omega,by omega,by simp,[],_,_,_,_,_,_,_,_,_,_,_,_,_,_,_,_,_,_,_,_,_,_,_,_,_,_,_,_,_,rfl⟩ ?_
  rintro j st K ⟨i,rfl,hi,hc,J,a3,a7,a8,a9,a10,a11,a12,a13,a14,a15,a16,a17,a18,a19,a20,a21,a22,a23,a24,a25,a26,a27,a28,a29,a30,a31,a32,a33,a34,rfl⟩ hn he hr
  by_cases h:i<s.ft.l.length
  ·have hx:s.ft.l[i]?=some s.ft.l[i]:=zak h
   generalize s.ft.l[i]=x at hx
   have hrd:rdN (s.ft.l.flatMap Ft.c) (i*5) 5=some x.c:=(ze Ft.c_len 0 5 hx (by omega)).trans rfl
   have hrd1:rdN (s.ft.l.flatMap Ft.c) (i*5) 1=some [.int .i64 x.id]:=(ze Ft.c_len 0 1 hx (by omega)).trans rfl
   have hw:wrapI .i64 ((i:Int)+1)=((i+1:Nat):Int):=yf (by have:=s.ft.few; omega)
   cases hb:x.id==id
   ·simp only [W0,sevalprocAttr,h,zc s.ft h,hrd1,hb,hw,Ft.c,Z0]
    refine hn _ (s.ft.l.length - (i+1)) (by omega) ⟨i+1,rfl,by omega,yh hc hx hb,_,_,_,_,_,_,_,_,_,_,_,_,_,_,_,_,_,_,_,_,_,_,_,_,_,_,_,_,_,_,rfl⟩
   ·have hxf:=yz (p:=fun f=>f.id==id) hc hx hb
    rw [hf] at hxf
    simp at hxf
  ·have hxf:=yA hc h
   rw [hf] at hxf
   simp only [W0,sevalprocAttr,h,Z0]
   refine he _ _ ?_
   simp only [W0,sevalprocAttr,Z0]
   rfl
 | some f0 =>
  have hs0:=hsm f0 (List.mem_of_find?_eq_some hf)
  by_cases h0:f0.parts.l.length=0
  ·refine ⟨⟨[],.slC [] 0 1 true,.row _ _ _ rfl,by simp⟩,(zbb.1 h0).symm,?_⟩
   refine ZZ (i:=i99) (ns hS (by rfl)) rfl rfl (s.ft.l.length+8) fun m hm d out=>?_
   simp only [i99,W0,sevalprocAttr,Sv.c]
   refine zd (fun j st=>∃ i,j=s.ft.l.length - i/\i<=s.ft.l.length/\((s.ft.l.take i).find? fun f=>f.id==id)=none/\∃ J a3 a7 a8 a9 a10 a11 a12 a13 a14 a15 a16 a17 a18 a19 a20 a21 a22 a23 a24 a25 a26 a27 a28 a29 a30 a31 a32 a33 a34,st=⟨[.agg s.c,iv id,.ptrM d 0 0,a3,.ptrM d 1 0,.bool false,iv i,a7,a8,a9,a10,a11,a12,a13,a14,a15,a16,a17,a18,a19,a20,a21,a22,a23,a24,a25,a26,a27,a28,a29,a30,a31,a32,a33,a34],.cells [s.pl.ns.v,s.pl.as.v,s.pl.fs.v,s.ft.v]::.cells zFt.c::J⟩) s.ft.l.length (by omega) ⟨0,by omega,by omega,by simp,[],_,_,_,_,_,_,_,_,_,_,_,_,_,_,_,_,_,_,_,_,_,_,_,_,_,_,_,_,_,rfl⟩ ?_
   rintro j st K ⟨i,rfl,hi,hc,J,a3,a7,a8,a9,a10,a11,a12,a13,a14,a15,a16,a17,a18,a19,a20,a21,a22,a23,a24,a25,a26,a27,a28,a29,a30,a31,a32,a33,a34,rfl⟩ hn he hr
   by_cases h:i<s.ft.l.length
   ·have hx:s.ft.l[i]?=some s.ft.l[i]:=zak h
    generalize s.ft.l[i]=x at hx
    have hrd:rdN (s.ft.l.flatMap Ft.c) (i*5) 5=some x.c:=(ze Ft.c_len 0 5 hx (by omega)).trans rfl
    have hrd1:rdN (s.ft.l.flatMap Ft.c) (i*5) 1=some [.int .i64 x.id]:=(ze Ft.c_len 0 1 hx (by omega)).trans rfl
    have hw:wrapI .i64 ((i:Int)+1)=((i+1:Nat):Int):=yf (by have:=s.ft.few; omega)
    cases hb:x.id==id
    ·simp only [W0,sevalprocAttr,h,zc s.ft h,hrd1,hb,hw,Ft.c,Z0]
     refine hn _ (s.ft.l.length - (i+1)) (by omega) ⟨i+1,rfl,by omega,yh hc hx hb,_,_,_,_,_,_,_,_,_,_,_,_,_,_,_,_,_,_,_,_,_,_,_,_,_,_,_,_,_,_,rfl⟩
    ·have hxf:=yz (p:=fun f=>f.id==id) hc hx hb
     rw [hf] at hxf
     obtain rfl:=zbh hxf
     simp only [W0,sevalprocAttr,h,zc s.ft h,hrd1,hrd,hb,Ft.c,Z0,zp,zy,rep,yg,zH,h0,Z2]
     refine hr _ ?_
     simp only [W0,sevalprocAttr,Z0]
     refine ⟨_,rfl,?_⟩
     obtain ⟨k,rfl⟩:∃ k,m=k+1+1+1:=⟨m - 3,by omega⟩
     exact freeze_ft Yw
   ·have hxf:=yA hc h
    rw [hf] at hxf
    simp at hxf
  ·refine ⟨⟨f0.parts.l,.slC (f0.parts.l.flatMap intc) f0.parts.l.length 1 (false&&true),.row _ _ _ (zn zi),f0.parts.few⟩,rfl,?_⟩
   refine ZZ (i:=i99) (ns hS (by rfl)) rfl rfl (s.ft.l.length+8) fun m hm d out=>?_
   simp only [i99,W0,sevalprocAttr,Sv.c]
   refine zd (fun j st=>∃ i,j=s.ft.l.length - i/\i<=s.ft.l.length/\((s.ft.l.take i).find? fun f=>f.id==id)=none/\∃ J a3 a7 a8 a9 a10 a11 a12 a13 a14 a15 a16 a17 a18 a19 a20 a21 a22 a23 a24 a25 a26 a27 a28 a29 a30 a31 a32 a33 a34,st=⟨[.agg s.c,iv id,.ptrM d 0 0,a3,.ptrM d 1 0,.bool false,iv i,a7,a8,a9,a10,a11,a12,a13,a14,a15,a16,a17,a18,a19,a20,a21,a22,a23,a24,a25,a26,a27,a28,a29,a30,a31,a32,a33,a34],.cells [s.pl.ns.v,s.pl.as.v,s.pl.fs.v,s.ft.v]::.cells zFt.c::J⟩) s.ft.l.length (by omega) ⟨0,by omega,by omega,by simp,[],_,_,_,_,_,_,_,_,_,_,_,_,_,_,_,_,_,_,_,_,_,_,_,_,_,_,_,_,_,rfl⟩ ?_
   rintro j st K ⟨i,rfl,hi,hc,J,a3,a7,a8,a9,a10,a11,a12,a13,a14,a15,a16,a17,a18,a19,a20,a21,a22,a23,a24,a25,a26,a27,a28,a29,a30,a31,a32,a33,a34,rfl⟩ hn he hr
   by_cases h:i<s.ft.l.length
   ·have hx:s.ft.l[i]?=some s.ft.l[i]:=zak h
    generalize s.ft.l[i]=x at hx
    have hrd:rdN (s.ft.l.flatMap Ft.c) (i*5) 5=some x.c:=(ze Ft.c_len 0 5 hx (by omega)).trans rfl
    have hrd1:rdN (s.ft.l.flatMap Ft.c) (i*5) 1=some [.int .i64 x.id]:=(ze Ft.c_len 0 1 hx (by omega)).trans rfl
    have hw:wrapI .i64 ((i:Int)+1)=((i+1:Nat):Int):=yf (by have:=s.ft.few; omega)
    cases hb:x.id==id
    ·simp only [W0,sevalprocAttr,h,zc s.ft h,hrd1,hb,hw,Ft.c,Z0]
     refine hn _ (s.ft.l.length - (i+1)) (by omega) ⟨i+1,rfl,by omega,yh hc hx hb,_,_,_,_,_,_,_,_,_,_,_,_,_,_,_,_,_,_,_,_,_,_,_,_,_,_,_,_,_,_,rfl⟩
    ·have hxf:=yz (p:=fun f=>f.id==id) hc hx hb
     rw [hf] at hxf
     obtain rfl:=zbh hxf
     simp only [W0,sevalprocAttr,h,zc s.ft h,hrd1,hrd,hb,Ft.c,Z0,zp,zy,rep,yg,zH,YF h0 (show 0+f0.parts.l.length<=1073741824 by omega)]
     refine hr _ ?_
     simp only [W0,sevalprocAttr,Z0]
     refine ⟨_,rfl,?_⟩
     obtain ⟨k,rfl⟩:∃ k,m=k+1+1+1:=⟨m - 3,by omega⟩
     exact freeze_ft (Zj (k:=1) yH (by omega) rfl zi (by simp only [W0,sevalprocAttr]))
   ·have hxf:=yA hc h
    rw [hf] at hxf
    simp at hxf
theorem z7 (hS:NoS S) (p:Pn) (id:Int) (hsm:∀ f∈p.as.l,f.via.l.length<=1073741824):∃ q',q'.l=((p.as.l.find? fun f=>f.id==id).getD zAc).via.l /\
  Gives Ftab S 97 [.agg p.c,iv id] (.tuple [.agg ({ (p.as.l.find? fun f=>f.id==id).getD zAc with via:=q' }:Ac).c,.bool (p.as.l.find? fun f=>f.id==id).isSome]):=by
 cases hf:p.as.l.find? fun f=>f.id==id with
 | none =>
  refine ⟨nilS _ _,rfl,?_⟩
  refine yQ (i:=i97) (k:=1+1+1) (ns hS (by rfl)) rfl rfl gives_arc_fz0 (p.as.l.length+5) (by omega) fun m hm d out=>?_
  simp only [i97,W0,sevalprocAttr,Pn.c]
  refine zd (fun j st=>∃ i,j=p.as.l.length - i/\i<=p.as.l.length/\((p.as.l.take i).find? fun f=>f.id==id)=none/\∃ J a3 a7 a8 a9 a10 a11 a12 a13 a14 a15 a16 a17 a18 a19 a20 a21 a22 a23 a24 a25 a26 a27 a28 a29 a30 a31 a32 a33 a34,st=⟨[.agg p.c,iv id,.ptrM d 0 0,a3,.ptrM d 1 0,.bool false,iv i,a7,a8,a9,a10,a11,a12,a13,a14,a15,a16,a17,a18,a19,a20,a21,a22,a23,a24,a25,a26,a27,a28,a29,a30,a31,a32,a33,a34],.cells [p.ns.v,p.as.v,p.fs.v]::.cells zAc.c::J⟩) p.as.l.length (by omega) ⟨0,by omega,by omega,by simp,[],_,_,_,_,_,_,_,_,_,_,_,_,_,_,_,_,_,_,_,_,_,_,_,_,_,_,_,_,_,rfl⟩ ?_
  rintro j st K ⟨i,rfl,hi,hc,J,a3,a7,a8,a9,a10,a11,a12,a13,a14,a15,a16,a17,a18,a19,a20,a21,a22,a23,a24,a25,a26,a27,a28,a29,a30,a31,a32,a33,a34,rfl⟩ hn he hr
  by_cases h:i<p.as.l.length
  ·have hx:p.as.l[i]?=some p.as.l[i]:=zak h
   generalize p.as.l[i]=x at hx
   have hrd:rdN (p.as.l.flatMap Ac.c) (i*6) 6=some x.c:=(ze Ac.c_len 0 6 hx (by omega)).trans rfl
   have hrd1:rdN (p.as.l.flatMap Ac.c) (i*6) 1=some [.int .i64 x.id]:=(ze Ac.c_len 0 1 hx (by omega)).trans rfl
   have hw:wrapI .i64 ((i:Int)+1)=((i+1:Nat):Int):=yf (by have:=p.as.few; omega)
   cases hb:x.id==id
   ·simp only [W0,sevalprocAttr,h,zc p.as h,hrd1,hb,hw,Ac.c,Z1]
    refine hn _ (p.as.l.length - (i+1)) (by omega) ⟨i+1,rfl,by omega,yh hc hx hb,_,_,_,_,_,_,_,_,_,_,_,_,_,_,_,_,_,_,_,_,_,_,_,_,_,_,_,_,_,_,rfl⟩
   ·have hxf:=yz (p:=fun f=>f.id==id) hc hx hb
    rw [hf] at hxf
    simp at hxf
  ·have hxf:=yA hc h
   rw [hf] at hxf
   simp only [W0,sevalprocAttr,h,Z1]
   refine he _ _ ?_
   simp only [W0,sevalprocAttr,Z1]
   rfl
 | some f0 =>
  have hs0:=hsm f0 (List.mem_of_find?_eq_some hf)
  by_cases h0:f0.via.l.length=0
  ·refine ⟨⟨[],.slC [] 0 2 true,.row _ _ _ rfl,by simp⟩,(zbb.1 h0).symm,?_⟩
   refine ZZ (i:=i97) (ns hS (by rfl)) rfl rfl (p.as.l.length+8) fun m hm d out=>?_
   simp only [i97,W0,sevalprocAttr,Pn.c]
   refine zd (fun j st=>∃ i,j=p.as.l.length - i/\i<=p.as.l.length/\((p.as.l.take i).find? fun f=>f.id==id)=none/\∃ J a3 a7 a8 a9 a10 a11 a12 a13 a14 a15 a16 a17 a18 a19 a20 a21 a22 a23 a24 a25 a26 a27 a28 a29 a30 a31 a32 a33 a34,st=⟨[.agg p.c,iv id,.ptrM d 0 0,a3,.ptrM d 1 0,.bool false,iv i,a7,a8,a9,a10,a11,a12,a13,a14,a15,a16,a17,a18,a19,a20,a21,a22,a23,a24,a25,a26,a27,a28,a29,a30,a31,a32,a33,a34],.cells [p.ns.v,p.as.v,p.fs.v]::.cells zAc.c::J⟩) p.as.l.length (by omega) ⟨0,by omega,by omega,by simp,[],_,_,_,_,_,_,_,_,_,_,_,_,_,_,_,_,_,_,_,_,_,_,_,_,_,_,_,_,_,rfl⟩ ?_
   rintro j st K ⟨i,rfl,hi,hc,J,a3,a7,a8,a9,a10,a11,a12,a13,a14,a15,a16,a17,a18,a19,a20,a21,a22,a23,a24,a25,a26,a27,a28,a29,a30,a31,a32,a33,a34,rfl⟩ hn he hr
   by_cases h:i<p.as.l.length
   ·have hx:p.as.l[i]?=some p.as.l[i]:=zak h
    generalize p.as.l[i]=x at hx
    have hrd:rdN (p.as.l.flatMap Ac.c) (i*6) 6=some x.c:=(ze Ac.c_len 0 6 hx (by omega)).trans rfl
    have hrd1:rdN (p.as.l.flatMap Ac.c) (i*6) 1=some [.int .i64 x.id]:=(ze Ac.c_len 0 1 hx (by omega)).trans rfl
    have hw:wrapI .i64 ((i:Int)+1)=((i+1:Nat):Int):=yf (by have:=p.as.few; omega)
    cases hb:x.id==id
    ·simp only [W0,sevalprocAttr,h,zc p.as h,hrd1,hb,hw,Ac.c,Z1]
     refine hn _ (p.as.l.length - (i+1)) (by omega) ⟨i+1,rfl,by omega,yh hc hx hb,_,_,_,_,_,_,_,_,_,_,_,_,_,_,_,_,_,_,_,_,_,_,_,_,_,_,_,_,_,_,rfl⟩
    ·have hxf:=yz (p:=fun f=>f.id==id) hc hx hb
     rw [hf] at hxf
     obtain rfl:=zbh hxf
     simp only [W0,sevalprocAttr,h,zc p.as h,hrd1,hrd,hb,Ac.c,Z1,zp,zy,rep,yg,zH,h0,Z2]
     refine hr _ ?_
     simp only [W0,sevalprocAttr,Z1]
     refine ⟨_,rfl,?_⟩
     obtain ⟨k,rfl⟩:∃ k,m=k+1+1+1:=⟨m - 3,by omega⟩
     exact freeze_ac Yw
   ·have hxf:=yA hc h
    rw [hf] at hxf
    simp at hxf
  ·refine ⟨⟨f0.via.l,.slC (f0.via.l.flatMap Pt.c) f0.via.l.length 2 (false&&true),.row _ _ _ (zn Pt.c_len),f0.via.few⟩,rfl,?_⟩
   refine ZZ (i:=i97) (ns hS (by rfl)) rfl rfl (p.as.l.length+8) fun m hm d out=>?_
   simp only [i97,W0,sevalprocAttr,Pn.c]
   refine zd (fun j st=>∃ i,j=p.as.l.length - i/\i<=p.as.l.length/\((p.as.l.take i).find? fun f=>f.id==id)=none/\∃ J a3 a7 a8 a9 a10 a11 a12 a13 a14 a15 a16 a17 a18 a19 a20 a21 a22 a23 a24 a25 a26 a27 a28 a29 a30 a31 a32 a33 a34,st=⟨[.agg p.c,iv id,.ptrM d 0 0,a3,.ptrM d 1 0,.bool false,iv i,a7,a8,a9,a10,a11,a12,a13,a14,a15,a16,a17,a18,a19,a20,a21,a22,a23,a24,a25,a26,a27,a28,a29,a30,a31,a32,a33,a34],.cells [p.ns.v,p.as.v,p.fs.v]::.cells zAc.c::J⟩) p.as.l.length (by omega) ⟨0,by omega,by omega,by simp,[],_,_,_,_,_,_,_,_,_,_,_,_,_,_,_,_,_,_,_,_,_,_,_,_,_,_,_,_,_,rfl⟩ ?_
   rintro j st K ⟨i,rfl,hi,hc,J,a3,a7,a8,a9,a10,a11,a12,a13,a14,a15,a16,a17,a18,a19,a20,a21,a22,a23,a24,a25,a26,a27,a28,a29,a30,a31,a32,a33,a34,rfl⟩ hn he hr
   by_cases h:i<p.as.l.length
   ·have hx:p.as.l[i]?=some p.as.l[i]:=zak h
    generalize p.as.l[i]=x at hx
    have hrd:rdN (p.as.l.flatMap Ac.c) (i*6) 6=some x.c:=(ze Ac.c_len 0 6 hx (by omega)).trans rfl
    have hrd1:rdN (p.as.l.flatMap Ac.c) (i*6) 1=some [.int .i64 x.id]:=(ze Ac.c_len 0 1 hx (by omega)).trans rfl
    have hw:wrapI .i64 ((i:Int)+1)=((i+1:Nat):Int):=yf (by have:=p.as.few; omega)
    cases hb:x.id==id
    ·simp only [W0,sevalprocAttr,h,zc p.as h,hrd1,hb,hw,Ac.c,Z1]
     refine hn _ (p.as.l.length - (i+1)) (by omega) ⟨i+1,rfl,by omega,yh hc hx hb,_,_,_,_,_,_,_,_,_,_,_,_,_,_,_,_,_,_,_,_,_,_,_,_,_,_,_,_,_,_,rfl⟩
    ·have hxf:=yz (p:=fun f=>f.id==id) hc hx hb
     rw [hf] at hxf
     obtain rfl:=zbh hxf
     simp only [W0,sevalprocAttr,h,zc p.as h,hrd1,hrd,hb,Ac.c,Z1,zp,zy,rep,yg,zH,YF h0 (show 0+f0.via.l.length<=1073741824 by omega)]
     refine hr _ ?_
     simp only [W0,sevalprocAttr,Z1]
     refine ⟨_,rfl,?_⟩
     obtain ⟨k,rfl⟩:∃ k,m=k+1+1+1:=⟨m - 3,by omega⟩
     exact freeze_ac (Zj (k:=1) ptc_fz (by omega) rfl Pt.c_len (by simp only [W0,sevalprocAttr]))
   ·have hxf:=yA hc h
    rw [hf] at hxf
    simp at hxf
theorem zQ (hS:NoS S) (p:Pn) (id:Int):Gives Ftab S 96 [.agg p.c,iv id] (.tuple [.agg ((p.ns.l.find? fun f=>f.id==id).getD zNd).c,.bool (p.ns.l.find? fun f=>f.id==id).isSome]):=by
 cases hf:p.ns.l.find? fun f=>f.id==id with
 | none =>
  refine yQ (i:=i96) (k:=1+1+1) (ns hS (by rfl)) rfl rfl Y9 (p.ns.l.length+5) (by omega) fun m hm d out=>?_
  simp only [i96,W0,sevalprocAttr,Pn.c]
  refine zd (fun j st=>∃ i,j=p.ns.l.length - i/\i<=p.ns.l.length/\((p.ns.l.take i).find? fun f=>f.id==id)=none/\∃ J a3 a7 a8 a9 a10 a11 a12 a13 a14 a15 a16 a17 a18 a19 a20 a21 a22 a23 a24 a25 a26 a27,st=⟨[.agg p.c,iv id,.ptrM d 0 0,a3,.ptrM d 1 0,.bool false,iv i,a7,a8,a9,a10,a11,a12,a13,a14,a15,a16,a17,a18,a19,a20,a21,a22,a23,a24,a25,a26,a27],.cells [p.ns.v,p.as.v,p.fs.v]::.cells zNd.c::J⟩) p.ns.l.length (by omega) ⟨0,by omega,by omega,by simp,[],_,_,_,_,_,_,_,_,_,_,_,_,_,_,_,_,_,_,_,_,_,_,rfl⟩ ?_
  rintro j st K ⟨i,rfl,hi,hc,J,a3,a7,a8,a9,a10,a11,a12,a13,a14,a15,a16,a17,a18,a19,a20,a21,a22,a23,a24,a25,a26,a27,rfl⟩ hn he hr
  by_cases h:i<p.ns.l.length
  ·have hx:p.ns.l[i]?=some p.ns.l[i]:=zak h
   generalize p.ns.l[i]=x at hx
   have hrd:rdN (p.ns.l.flatMap Nd.c) (i*3) 3=some x.c:=(ze Nd.c_len 0 3 hx (by omega)).trans rfl
   have hrd1:rdN (p.ns.l.flatMap Nd.c) (i*3) 1=some [.int .i64 x.id]:=(ze Nd.c_len 0 1 hx (by omega)).trans rfl
   have hw:wrapI .i64 ((i:Int)+1)=((i+1:Nat):Int):=yf (by have:=p.ns.few; omega)
   cases hb:x.id==id
   ·simp only [W0,sevalprocAttr,h,zc p.ns h,hrd1,hb,hw,Nd.c,zNd_c]
    refine hn _ (p.ns.l.length - (i+1)) (by omega) ⟨i+1,rfl,by omega,yh hc hx hb,_,_,_,_,_,_,_,_,_,_,_,_,_,_,_,_,_,_,_,_,_,_,_,rfl⟩
   ·have hxf:=yz (p:=fun f=>f.id==id) hc hx hb
    rw [hf] at hxf
    simp at hxf
  ·have hxf:=yA hc h
   rw [hf] at hxf
   simp only [W0,sevalprocAttr,h,zNd_c]
   refine he _ _ ?_
   simp only [W0,sevalprocAttr,zNd_c]
   rfl
 | some f0 =>
  refine yQ (i:=i96) (k:=1+1+1) (ns hS (by rfl)) rfl rfl (Y8 f0) (p.ns.l.length+8) (by omega) fun m hm d out=>?_
  simp only [i96,W0,sevalprocAttr,Pn.c]
  refine zd (fun j st=>∃ i,j=p.ns.l.length - i/\i<=p.ns.l.length/\((p.ns.l.take i).find? fun f=>f.id==id)=none/\∃ J a3 a7 a8 a9 a10 a11 a12 a13 a14 a15 a16 a17 a18 a19 a20 a21 a22 a23 a24 a25 a26 a27,st=⟨[.agg p.c,iv id,.ptrM d 0 0,a3,.ptrM d 1 0,.bool false,iv i,a7,a8,a9,a10,a11,a12,a13,a14,a15,a16,a17,a18,a19,a20,a21,a22,a23,a24,a25,a26,a27],.cells [p.ns.v,p.as.v,p.fs.v]::.cells zNd.c::J⟩) p.ns.l.length (by omega) ⟨0,by omega,by omega,by simp,[],_,_,_,_,_,_,_,_,_,_,_,_,_,_,_,_,_,_,_,_,_,_,rfl⟩ ?_
  rintro j st K ⟨i,rfl,hi,hc,J,a3,a7,a8,a9,a10,a11,a12,a13,a14,a15,a16,a17,a18,a19,a20,a21,a22,a23,a24,a25,a26,a27,rfl⟩ hn he hr
  by_cases h:i<p.ns.l.length
  ·have hx:p.ns.l[i]?=some p.ns.l[i]:=zak h
   generalize p.ns.l[i]=x at hx
   have hrd:rdN (p.ns.l.flatMap Nd.c) (i*3) 3=some x.c:=(ze Nd.c_len 0 3 hx (by omega)).trans rfl
   have hrd1:rdN (p.ns.l.flatMap Nd.c) (i*3) 1=some [.int .i64 x.id]:=(ze Nd.c_len 0 1 hx (by omega)).trans rfl
   have hw:wrapI .i64 ((i:Int)+1)=((i+1:Nat):Int):=yf (by have:=p.ns.few; omega)
   cases hb:x.id==id
   ·simp only [W0,sevalprocAttr,h,zc p.ns h,hrd1,hb,hw,Nd.c,zNd_c]
    refine hn _ (p.ns.l.length - (i+1)) (by omega) ⟨i+1,rfl,by omega,yh hc hx hb,_,_,_,_,_,_,_,_,_,_,_,_,_,_,_,_,_,_,_,_,_,_,_,rfl⟩
   ·have hxf:=yz (p:=fun f=>f.id==id) hc hx hb
    rw [hf] at hxf
    obtain rfl:=zbh hxf
    simp only [W0,sevalprocAttr,h,zc p.ns h,hrd,hrd1,hb,Nd.c,zNd_c]
    refine hr _ ?_
    simp only [W0,sevalprocAttr,zNd_c]
    rfl
  ·have hxf:=yA hc h
   rw [hf] at hxf
   simp at hxf
end
end
section
section
variable {C:Call} {d:Nat} {out:yLM} {n j:Nat} {st:St} {K:yKM} {a:IC}
def Lp (C:Call) (d:Nat) (out:yLM) (n j:Nat) (a:IC) (K:yKM) (st:St):Prop:=∃ o st',iter (exec C d out n a) j st=some (o,st')/\K o st'
theorem Ex_loop:Ex C d out n (.loop a) K st=Lp C d out n n a K st:=by
 unfold Ex Lp
 simp only [exec]
theorem Lp_succ:Lp C d out n (j+1) a K st=Ex C d out n a (andThen (Lp C d out n j a K) K) st:=by
 refine propext ⟨fun ⟨o,st',h,hk⟩=>?_,fun ⟨o,st1,h1,h2⟩=>?_⟩
 ·simp only [iter] at h
  split at h
  ·rename_i st1 he
   exact ⟨.normal,st1,he,o,st',h,hk⟩
  ·rename_i hne
   refine ⟨o,st',h,?_⟩
   cases o with
   | normal=>exact absurd h (hne _)
   | exit id=>exact hk
   | ret=>exact hk
 ·cases o with
  | normal =>
   obtain ⟨o2,st2,h3,h4⟩:=h2
   exact ⟨o2,st2,by simp only [iter,h1,h3],h4⟩
  | exit id=>exact ⟨_,st1,by simp only [iter,h1],h2⟩
  | ret=>exact ⟨_,st1,by simp only [iter,h1],h2⟩
end
section
variable {F:FuncId->Option IFn} {S:ySM}
def FinO (d:Nat) (out:yLM) (rs:List IRes) (c:List IV) (len cap sz:Nat) (tight:Bool) (o:Out) (st:St):Prop:=(o=.normal∨o=.ret)/\∃ j,resultI d out st rs=some (.slM d j 0 len cap sz tight)/\st.own[j]?=some (.cells c)
variable {d:Nat} {out:yLM} {rs:List IRes} {c:List IV} {len cap sz:Nat} {tight:Bool} {st:St}
theorem FinO_ret:FinO d out rs c len cap sz tight .ret st=∃ j,resultI d out st rs=some (.slM d j 0 len cap sz tight)/\st.own[j]?=some (.cells c):=propext ⟨fun h=>h.2,fun h=>⟨.inr rfl,h⟩⟩
end
theorem rep_fz {z:List IV} {k:Nat} (h:∀ x∈z,Fz k x):∀ {n:Nat},∀ x∈rep z n,Fz k x
 | 0,x,hx=>by simp [rep] at hx
 | n+1,x,hx=>by
  simp only [rep,List.mem_append] at hx
  exact hx.elim (h x) (rep_fz h x)
section
variable {C:Call} {d n0:Nat} {out:yLM} {lk:Nat->Nat->Option IObj} {own ownV:yLO} {t:List IV}
theorem natI_0 {k:IntKind}:natI (.int k 0)=some 0:=zax rfl rfl
theorem app_src0 {z:List IV} {sz:Nat} {s x:Opd} {slot:Nat}:e_append d out n0 ownV own t z sz true s x slot=appV d n0 (look d out ownV) own sz (ρ t s) slot ((natI (ρ t x)).bind fun n=>if n<=bound then some (rep z n,n) else none):=zax rfl rfl
theorem app_nil {sz slot n:Nat} {new:List IV} (h:n≠0) (hb:n<=bound):appendI d n0 lk own sz .nilsl new n slot=mkAt own (n0+slot) (.cells new) (.slM d (n0+slot) 0 n n sz false):=by
 unfold appendI
 rw [if_neg h]
 simp only
 rw [if_pos hb]
end
theorem wrap_lit0:wrapI .i64 (0 - 0)=0:=by rw [zE]; decide
theorem wrap_sub0 {n:Nat} (h:n<=1073741824):wrapI .i64 ((n:Int) - 0)=(n:Int):=by
 rw [zE,IntWalk.i64_in _ (by omega)]
 omega
end
section
theorem wr_fill:∀ {B A R:List IV},B.length<=R.length->wrN (A++R) A.length B=A++B++R.drop B.length
 | [],A,R,_=>by simp [wrN]
 | b::B,A,R,h=>by
  cases R with
  | nil=>simp at h
  | cons r R =>
   simp only [wrN]
   rw [set_end]
   have h2:=wr_fill (B:=B) (A:=A++[b]) (R:=R) (by simpa using h)
   rw [zaw,za9] at h2
   simp only [zbd,zbk,zau,zbc,zap] at h2
   rw [h2]
   simp
theorem zab {B A R:List IV} {k:Nat} (hk:k=A.length) (h:B.length<=R.length):wrN (A++R) k B=A++B++R.drop B.length:=by rw [hk,wr_fill h]
theorem app_in0 {d n0 sz len cap n slot:Nat} {out:yLM} {c new:List IV} {J:yLO} {tight:Bool} (h:n≠0) (hb:len+n<=1073741824) (hc:len+n<=cap) (hfit:0+(len+n)*sz<=c.length) (hs:new.all IV.scalar=true) :
  appendI d n0 (look d out (.cells c::J)) (.cells c::J) sz (.slM d 0 0 len cap sz tight) new n slot=some (.x,.slM d 0 0 (len+n) cap sz tight,.cells (wrN c (0+len*sz) new)::J):=by
 unfold appendI
 rw [if_neg h]
 simp only
 rw [if_pos ⟨by unfold bound; omega,trivial⟩]
 simp only [look,if_true,za8]
 rw [if_pos hc,if_pos ⟨trivial,hfit,hs⟩]
 simp only [zf,List.set_cons_zero]
theorem app_same {d n0 sz slot l i off len cap z:Nat} {lk:Nat->Nat->Option IObj} {own:yLO} {new:List IV} {tight:Bool}:appendI d n0 lk own sz (.slM l i off len cap z tight) new 0 slot=some (.r,.slM l i off len cap z tight,own):=by
 unfold appendI
 rw [if_pos rfl]
theorem iaddr0 {own:yLO} {z n sz:Nat} {cs:List IV} {tight:Bool} {k:IntKind} (h:0<n):iaddrV own z (.slC cs n sz tight) (.int k 0)=some (.p,.ptrC cs (0*z),own):=ZH (i:=0) h
theorem wrap_0_1:wrapI .i64 (0+1)=1:=by rw [zE]; decide
theorem nlt {a:Nat}:decide ((a:Int)<0)=false:=by simp
def mkRow {α:Type} {g:α->List IV} {sz:Nat} (hs:∀ a,(g a).length=sz) (l:List α) (n:Nat) (tight:Bool) (h:l.length=n) (hf:n<9223372036854775808):SlOf sz g :=
 ⟨l,.slC (l.flatMap g) n sz tight,by subst h; exact .row _ _ _ (zn hs),by omega⟩
end
section
def arcF (p:Pn) (id:Int):Option Ac:=p.as.l.find? fun f=>f.id==id
def nodeF (p:Pn) (id:Int):Option Nd:=p.ns.l.find? fun f=>f.id==id
end
section
theorem Z4 {d n0 sz len slot n i:Nat} (h:n≠0) {lk:Nat->Nat->Option IObj} {own:yLO} {c new:List IV} (hb:len+n<=1073741824) (hc:c.length=len*sz) (hs:new.all IV.scalar=true) (hl:lk d i=some (.cells c)) :
  appendI d n0 lk own sz (.slM d i 0 len len sz false) new n slot=killAt own i (n0+slot) (.cells (c++new)) (.slM d (n0+slot) 0 (len+n) (len+n) sz false):=by
 unfold appendI
 rw [if_neg h]
 simp only
 rw [if_pos ⟨by unfold bound; omega,trivial⟩]
 have hseg:seg c 0 (len*sz)=some c:=by
  unfold seg
  rw [if_pos (by omega),zf,List.drop_zero,za0 (by omega)]
 simp only [hl,hseg,zf]
 rw [if_neg (by omega)]
 simp only [zaz,if_false]
 rw [if_pos ⟨trivial,hs⟩]
end
section
def OwnI (d:Nat) (J:yLO) (lv:IV) (xs:List Int):Prop:=(xs=[]/\lv=.nilsl)∨∃ b,xs≠[]/\lv=.slM d (b+1) 0 xs.length xs.length 1 false/\J[b]?=some (.cells (xs.flatMap intc))
theorem OwnI.more {d:Nat} {J:yLO} {lv:IV} {xs:List Int} (h:OwnI d J lv xs) (r:yLO):OwnI d (J++r) lv xs:=by
 rcases h with h | ⟨b,hne,h1,h2⟩
 ·exact .inl h
 ·exact .inr ⟨b,hne,h1,by rw [zar (zal.1 h2).1]; exact h2⟩
section
variable {S:ySM}
theorem zN {lk:Nat->Nat->Option IObj} {x:Int} {tight:Bool}:cellsI lk 1 (.slC [.int .i64 x] 1 1 tight)=some ([.int .i64 x],1):=by
 simp [cellsI,seg,zf]
end
end
section
structure Bx where
 a:Int
 b:Int
 c:Int
 e:Int
def Bx.r (x:Bx):List IV:=[.int .i64 x.a,.int .i64 x.b,.int .i64 x.c,.int .i64 x.e]
end
section
section
variable {α:Type} {g:α->List IV} {sz:Nat}
def OwnJ (g:α->List IV) (sz d k0:Nat) (J:yLO) (lv:IV) (xs:List α):Prop:=(xs=[]/\lv=.nilsl)∨∃ b,xs≠[]/\lv=.slM d (k0+b) 0 xs.length xs.length sz false/\J[b]?=some (.cells (xs.flatMap g))
theorem OwnJ.more {d k0:Nat} {J:yLO} {lv:IV} {xs:List α} (h:OwnJ g sz d k0 J lv xs) (r:yLO):OwnJ g sz d k0 (J++r) lv xs:=by
 rcases h with h | ⟨b,hne,h1,h2⟩
 ·exact .inl h
 ·exact .inr ⟨b,hne,h1,by rw [zar (zal.1 h2).1]; exact h2⟩
def rowQ (hs:∀ a,(g a).length=sz) (xs:List α) (hx:xs.length<9223372036854775808):SlOf sz g:=match xs,hx with
 | [],_=>nilS _ _
 | x::t,hx=>mkRow hs (x::t) (x::t).length false rfl hx
theorem rowQ_l (hs:∀ a,(g a).length=sz) (xs:List α) (hx:xs.length<9223372036854775808):(rowQ hs xs hx).l=xs:=by cases xs <;> rfl
theorem Zl {Pre L:yLO} {b:Nat}:(Pre++L)[Pre.length+b]?=L[b]?:=by
 rw [zas (by omega),zbr]
theorem pre_set {Pre L:yLO} {b:Nat} {v:IObj}:(Pre++L).set (Pre.length+b) v=Pre++L.set b v:=by
 rw [List.set_append_right _ _ (by omega),zbr]
theorem ownJ_fz (hs:∀ a,(g a).length=sz) (hf:∀ a,∀ x∈g a,Fz 1 x) {d m:Nat} {Pre J:yLO} {lv:IV} {xs:List α} (hm:2<=m) (hx:xs.length<9223372036854775808) (h:OwnJ g sz d Pre.length J lv xs):freeze m d (Pre++J) lv=some (rowQ hs xs hx).v:=by
 rcases h with ⟨rfl,rfl⟩ | ⟨b,hne,rfl,h2⟩
 ·exact fz_nilsl m (by omega) d _
 ·cases xs with
  | nil=>exact absurd rfl hne
  | cons x t=>exact Zj (k:=1) hf (by omega) rfl hs (by rw [Zl]; exact h2)
theorem y5 (hs:∀ a,(g a).length=sz) {d n0 slot k:Nat} {out:yLM} {Pre J R:yLO} {lv:IV} {xs ys:List α} (h:OwnJ g sz d Pre.length J lv xs) (hy:ys.length≠0) (hx:xs.length+ys.length<=1073741824) (hk:n0+slot=Pre.length+(J.length+k)) (hf:R[k]?=some .free)
  (hsc:(ys.flatMap g).all IV.scalar=true) :
  ∃ e lv' J2,appendI d n0 (look d out (Pre++(J++R))) (Pre++(J++R)) sz lv (ys.flatMap g) ys.length slot=some (e,lv',Pre++J2)/\OwnJ g sz d Pre.length J2 lv' (xs++ys):=by
 have hkl:k<R.length:=(zal.1 hf).1
 have hget:(J++R)[J.length+k]?=some .free:=by
  rw [zas (by omega),zbr]
  exact hf
 have hlt:J.length+k<(J++R).length:=by rw [zaw]; omega
 have hne:xs++ys≠[]:=by
  intro he
  exact hy (by rw [(List.append_eq_nil_iff.1 he).2]; rfl)
 rcases h with ⟨rfl,rfl⟩ | ⟨b,_,rfl,h2⟩
 ·rw [app_nil hy (by unfold bound; simp at hx; omega)]
  unfold mkAt
  rw [hk,Zl,hget]
  simp only [zf]
  rw [pre_set]
  refine ⟨_,_,_,rfl,.inr ⟨J.length+k,hne,by simp,?_⟩⟩
  rw [zbw hlt]
  rfl
 ·have hb:b<J.length:=(zal.1 h2).1
  have hb2:(J++R)[b]?=some (.cells (xs.flatMap g)):=by rw [zar hb]; exact h2
  rw [Z4 hy hx (zn hs) hsc (by simp only [look,if_true,Zl]; exact hb2)]
  unfold killAt
  rw [hk,Zl,hget]
  simp only [zf]
  rw [pre_set,pre_set]
  refine ⟨_,_,_,rfl,.inr ⟨J.length+k,hne,by simp,?_⟩⟩
  rw [zbw (by rw [List.length_set]; exact hlt)]
  simp
end
end
section
theorem OwnJ.one {α:Type} {g:α->List IV} {sz d k0:Nat} {J:yLO} {lv:IV} {xs:List α} (h:OwnJ g sz d k0 J lv xs):lv.cells=[lv]/\lv.scalar=true:=by
 rcases h with ⟨_,rfl⟩ | ⟨b,_,rfl,_⟩ <;> exact ⟨rfl,rfl⟩
theorem y6 {d:Nat} {out:yLM} {st:St}:resultI d out st []=some (.tuple []):=zax rfl rfl
end
end Go.Proofs.YtgmifgfbnnbgjaaGreatDoor
end
