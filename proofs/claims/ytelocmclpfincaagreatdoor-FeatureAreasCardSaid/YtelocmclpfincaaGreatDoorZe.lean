/-
  A part of the proof: the small machine, its simulation and its walks.
-/
import Derived.Test.YtelocmclpfincaaGreatDoorZd
set_option linter.unusedVariables false
set_option linter.unusedSimpArgs false
set_option maxRecDepth 1000000
set_option maxHeartbeats 3200000
section
namespace Go.Proofs.YtelocmclpfincaaGreatDoor
open Go Go.RowKit
section
def Bk (own0:yLO) (b:Nat) (c:List IV):yLO:=own0.set b (.cells c)
def RestOf (own0:yLO) (b:Nat) (ownV:yLO):Prop:=∀ j,j<own0.length->j≠b->ownV[j]?=own0[j]?
section
variable {own0 R J:yLO} {b:Nat} {c c':List IV}
theorem yM:(Bk own0 b c).length=own0.length:=by simp [Bk]
theorem bk_get (h:b<own0.length):(Bk own0 b c++R)[b]?=some (.cells c):=by
 rw [zco (by rw [yM]; exact h)]
 simp [Bk,h]
theorem bk_set (h:b<own0.length):(Bk own0 b c++R).set b (.cells c')=Bk own0 b c'++R:=by
 rw [List.set_append_left _ _ (by rw [yM]; exact h)]
 simp [Bk]
theorem bk_hide {vis:List Nat} {k:Nat} (h:b<own0.length):(hide vis (own0.length+k) (Bk own0 b c++R))[b]?=some (.cells c):=by
 rw [zy,bk_get h]
 simp
 omega
theorem rest_bk:RestOf own0 b (Bk own0 b c++R):=by
 intro j h1 h2
 rw [zco (by rw [yM]; exact h1)]
 simp only [Bk]
 rw [zdp (Ne.symm h2)]
theorem rest_hide {vis:List Nat} {k:Nat}:RestOf own0 b (hide vis (own0.length+k) (Bk own0 b c++R)):=by
 intro j h1 h2
 rw [zy,rest_bk j h1 h2]
 rw [zce h1]
 simp
 omega
end
structure Elt {α:Type} (g:α->List IV) (e:α->IV) (sz:Nat) (agg:Bool):Prop where
 len:∀ x,(g x).length=sz
 cells:∀ x,(e x).cells=g x
 scal:∀ x,(g x).all IV.scalar=true
 val:∀ x,mkv agg (g x)=some (e x)
section
variable {α:Type} {g:α->List IV} {e:α->IV} {sz:Nat} {agg:Bool} {xs:List α} {i j:Nat} {x y:α}
theorem rdN_from:∀ (p l:List IV),rdN (p++l) p.length l.length=some l
 | p,[]=>rfl
 | p,x::l=>by
  have h:=rdN_from (p++[x]) l
  simp only [zdg,zc5,zdh,zc8,zcr,zc7,zde] at h
  unfold rdN
  simp only [zcr,zct (zcs _),Nat.sub_self,zdf,h,zck]
theorem rdN_whole {l:List IV}:rdN l 0 l.length=some l:=rdN_from [] l
theorem Elt.ld (h:Elt g e sz agg) (hx:xs[i]?=some x):(rdN (xs.flatMap g) (i*sz) sz).bind (mkv agg)=some (e x):=by
 have h1:=zc h.len 0 sz hx (by omega)
 rw [Nat.add_zero] at h1
 rw [h1,← h.len x,rdN_whole,zcy,h.val]
theorem third {l1 a l2:List IV} {k:Nat} (h:l1.length+a.length<=k):(l1++(a++l2))[k]?=l2[k - l1.length - a.length]?:=by
 rw [zct (by omega),zct (by omega)]
theorem wrN_flat (hg:∀ x,(g x).length=sz):∀ {xs:List α} {i:Nat},i<xs.length->wrN (xs.flatMap g) (i*sz) (g x)=(xs.set i x).flatMap g:=by
 intro xs i hi
 refine List.ext_getElem? fun k=>?_
 have hl:i*sz+(g x).length<=(xs.flatMap g).length:=by
  rw [hg,zx hg]
  have:=Nat.mul_le_mul_right sz (Nat.succ_le_of_lt hi)
  rw [Nat.succ_mul] at this
  exact this
 rw [ZX _ _ _ _ hl,hg]
 have key:∀ (l1 l2:List α) (z:α),(l1++z::l2).flatMap g=l1.flatMap g++(g z++l2.flatMap g):=fun l1 l2 z=>by simp
 have hsplit:xs=xs.take i++xs[i]::xs.drop (i+1):=by simp
 have hset:xs.set i x=xs.take i++x::xs.drop (i+1):=by rw [List.set_eq_take_append_cons_drop,if_pos hi]
 rw [hset,key]
 conv=>lhs; rw [hsplit,key]
 have ht:((xs.take i).flatMap g).length=i*sz:=by rw [zx hg,zd5,Nat.min_eq_left (Nat.le_of_lt hi)]
 split
 ·rename_i h1
  rw [zct (by omega),ht,zco (by rw [hg]; omega)]
 ·rename_i h1
  by_cases h2:k<i*sz
  ·rw [zco (by omega),zco (by omega)]
  ·rw [third (by rw [ht,hg]; omega),third (by rw [ht,hg]; omega),hg,hg]
theorem Elt.st (h:Elt g e sz agg) (hi:i<xs.length):wrN (xs.flatMap g) (i*sz) (g x)=(xs.set i x).flatMap g:=wrN_flat h.len hi
theorem Elt.fits (h:Elt g e sz agg) (hi:i<xs.length):i*sz+sz<=(xs.flatMap g).length:=by
 rw [zx h.len]
 have:=Nat.mul_le_mul_right sz (Nat.succ_le_of_lt hi)
 rw [Nat.succ_mul] at this
 exact this
theorem zD (hi:xs[i]?=some x) (hj:xs[j]?=some y):((xs.set i y).set j x).Perm xs:=by
 obtain ⟨h1,rfl⟩:=zcf.1 hi
 obtain ⟨h2,rfl⟩:=zcf.1 hj
 exact List.set_set_perm h1 h2
end
theorem Wlk:(type_of% @Wc):=@Wc
section
variable {t:List IV} {i j n:Nat} {v z:IV} {l:List (Nat × IV)}
theorem putS_len:(put t (some i) v).length=t.length:=by rw [zS,List.length_set]
theorem gp_eq (h:i<t.length):getK z (put t (some i) v) i=v:=by
 rw [zS,zL,zc0,zdw h]
 rfl
theorem gp_ne (h:i≠j):getK z (put t (some i) v) j=getK z t j:=by
 rw [zS,zL,zL,zc0,zc0,zdp h]
theorem gq_eq (h:i<t.length):(put t (some i) v)[i]?=some v:=by rw [zS,zdw h]
theorem gq_ne (h:i≠j):(put t (some i) v)[j]?=t[j]?:=by rw [zS,zdp h]
def IC.sub:IC->List Nat->IC
 | c,[]=>c
 | .seq a _,0::p=>a.sub p
 | .seq _ b,_::p=>b.sub p
 | .cond _ a _,0::p=>a.sub p
 | .cond _ _ b,_::p=>b.sub p
 | .block _ a,_::p=>a.sub p
 | .loop a,_::p=>a.sub p
 | c,_=>c
def Slots (n:Nat) (t:List IV) (l:List (Nat × IV)):Prop:=t.length=n/\∀ p∈l,getK (.tuple []) t p.1=p.2
theorem zg:Slots n t []=(t.length=n):=propext ⟨fun h=>h.1,fun h=>⟨h,by simp⟩⟩
theorem ze:Slots n t ((i,v)::l)=(getK (.tuple []) t i=v/\Slots n t l):=by
 unfold Slots
 refine propext ⟨fun ⟨h1,h2⟩=>⟨h2 (i,v) (by simp),h1,fun p hp=>h2 p (by simp [hp])⟩,fun ⟨h1,h2,h3⟩=>⟨h2,fun p hp=>?_⟩⟩
 rcases zdn.1 hp with rfl | hp
 ·exact h1
 ·exact h3 p hp
end
theorem scal_pc {cs:List IV} {o:Nat}:(IV.ptrC cs o).scalar=true:=zcw rfl rfl
theorem cells_pc {cs:List IV} {o:Nat}:(IV.ptrC cs o).cells=[.ptrC cs o]:=zcw rfl rfl
theorem V0:(type_of% @Wlk)/\(type_of% @putS_len)/\(type_of% @gp_eq)/\(type_of% @gp_ne)/\(type_of% @gq_eq)/\(type_of% @gq_ne)/\(type_of% @zg)/\(type_of% @ze)/\(type_of% @ne_eq.{1})/\(type_of% @not_false_eq_true)/\(type_of% @not_true_eq_false)/\(type_of% @zc5.{0})/\(type_of% @zdh.{0})/\(type_of% @zd0.{0})/\(type_of% @List.all_cons.{0})/\(type_of% @List.all_nil.{0})/\(type_of% @Bool.and_self)/\(type_of% @Bool.and_true)/\(type_of% @zcn)/\(type_of% @if_true.{1})/\(type_of% @zc7.{0})/\(type_of% @zcr.{0})/\(type_of% @zde)/\(type_of% @Nat.add_zero)/\(type_of% @zcs)/\(type_of% @and_self)/\(type_of% @and_true)/\(type_of% @true_and)/\(type_of% @zdf.{0})/\(type_of% @zc1.{0})/\(type_of% @zck.{0,0})/\(type_of% @zc6.{0,0})/\(type_of% @zcy.{0,0})/\(type_of% @zc2)/\(type_of% @if_false.{1})/\(type_of% @zdo.{0,0})/\(type_of% @List.map_nil.{0,0})/\(type_of% @zdk)/\(type_of% @decide_true)/\(type_of% @decide_false)/\(type_of% @beq_iff_eq.{0})/\(type_of% @zdg.{0})/\(type_of% @zc8.{0})/\(type_of% @zci)/\(type_of% @zch)/\(type_of% @mkAt.eq_1)/\(type_of% @Go.Proofs.YtelocmclpfincaaGreatDoor.look.eq_1)/\(type_of% @mkv_ff)/\(type_of% @mkv_tt)/\(type_of% @binI.eq_1)/\(type_of% @binI.eq_2)/\(type_of% @intBin.eq_1)/\(type_of% @intBin.eq_2)/\(type_of% @intBin.eq_3)/\(type_of% @intBin.eq_4)/\(type_of% @intBin.eq_5)/\(type_of% @intBin.eq_6)/\(type_of% @intBin.eq_7)/\(type_of% @intBin.eq_8)/\(type_of% @intBin.eq_9)/\(type_of% @intBin.eq_10)/\(type_of% @intBin.eq_11)/\(type_of% @intBin.eq_12)/\(type_of% @intBin.eq_13)/\(type_of% @intBin.eq_14)/\(type_of% @sh_shl)/\(type_of% @sh_shr)/\(type_of% @sh_add)/\(type_of% @sh_sub)/\(type_of% @sh_mul)/\(type_of% @sh_quo)/\(type_of% @sh_rem)/\(type_of% @sh_and)/\(type_of% @sh_or)/\(type_of% @sh_xor)/\(type_of% @sh_eql)/\(type_of% @sh_neq)/\(type_of% @sh_lss)/\(type_of% @sh_leq)/\(type_of% @sh_gtr)/\(type_of% @sh_geq)/\(type_of% @unI.eq_1)/\(type_of% @unI.eq_2)/\(type_of% @fillI.eq_1)/\(type_of% @fillI.eq_2)/\(type_of% @cellV.eq_1)/\(type_of% @e_nilchk.eq_1)/\(type_of% @e_pick.eq_1)/\(type_of% @e_box.eq_1)/\(type_of% @e_bslice.eq_1)/\(type_of% @e_load.eq_1)/\(type_of% @e_store.eq_1)/\(type_of% @e_eqb.eq_1)/\(type_of% @e_eqp.eq_1)/\(type_of% @e_eqs.eq_1)/\(type_of% @e_eqagg.eq_1)/\(type_of% @e_conv.eq_1)/\(type_of% @e_faddr.eq_1)/\(type_of% @e_field.eq_1)/\(type_of% @e_extract.eq_1)/\(type_of% @e_call.eq_1)/\(type_of% @e_mx.eq_1)/\(type_of% @repl_0)/\(type_of% @repl_1)/\(type_of% @repl_2)/\(type_of% @repl_3)/\(type_of% @repl_4)/\(type_of% @repl_5)/\(type_of% @repl_6)/\(type_of% @scal_pc)/\(type_of% @eq_self.{1})/\(type_of% @cells_pc) :=
 ⟨@Wlk,@putS_len,@gp_eq,@gp_ne,@gq_eq,@gq_ne,@zg,@ze,@ne_eq.{1},@not_false_eq_true,@not_true_eq_false,@zc5.{0},@zdh.{0},@zd0.{0},@List.all_cons.{0},@List.all_nil.{0},@Bool.and_self,@Bool.and_true,@zcn,@if_true.{1},@zc7.{0},@zcr.{0},@zde,@Nat.add_zero,@zcs,@and_self,@and_true,@true_and,@zdf.{0},@zc1.{0},@zck.{0,0},@zc6.{0,0},@zcy.{0,0},@zc2,@if_false.{1},@zdo.{0,0},@List.map_nil.{0,0},@zdk,@decide_true,@decide_false,@beq_iff_eq.{0},@zdg.{0},@zc8.{0},@zci,@zch,@mkAt.eq_1,@Go.Proofs.YtelocmclpfincaaGreatDoor.look.eq_1,@mkv_ff,@mkv_tt,@binI.eq_1,@binI.eq_2,@intBin.eq_1,@intBin.eq_2,@intBin.eq_3,@intBin.eq_4,@intBin.eq_5,@intBin.eq_6,@intBin.eq_7,@intBin.eq_8,@intBin.eq_9,@intBin.eq_10,@intBin.eq_11,@intBin.eq_12,@intBin.eq_13,@intBin.eq_14,@sh_shl,@sh_shr,@sh_add,@sh_sub,@sh_mul,@sh_quo,@sh_rem,@sh_and,@sh_or,@sh_xor,@sh_eql,@sh_neq,@sh_lss,@sh_leq,@sh_gtr,@sh_geq,@unI.eq_1,@unI.eq_2,@fillI.eq_1,@fillI.eq_2,@cellV.eq_1,@e_nilchk.eq_1,@e_pick.eq_1,@e_box.eq_1,@e_bslice.eq_1,@e_load.eq_1,@e_store.eq_1,@e_eqb.eq_1,@e_eqp.eq_1,@e_eqs.eq_1,@e_eqagg.eq_1,@e_conv.eq_1,@e_faddr.eq_1,@e_field.eq_1,@e_extract.eq_1,@e_call.eq_1,@e_mx.eq_1,@repl_0,@repl_1,@repl_2,@repl_3,@repl_4,@repl_5,@repl_6,@scal_pc,@eq_self.{1},@cells_pc⟩
structure FamOK (S:ySM) (X:SF):Prop where
 ins:(∀ args,S X.ins args=none)/\Ftab X.ins=some (cIns X)
 sift:(∀ args,S X.sift args=none)/\Ftab X.sift=some (cSift X)
 heap:(∀ args,S X.heap args=none)/\Ftab X.heap=some (cHeap X)
 ord2:(∀ args,S X.ord2 args=none)/\Ftab X.ord2=some (cOrd2 X)
 med:(∀ args,S X.med args=none)/\Ftab X.med=some (cMed X)
 medA:(∀ args,S X.medA args=none)/\Ftab X.medA=some (cMedA X)
 rev:(∀ args,S X.rev args=none)/\Ftab X.rev=some (cRev X)
 piv:(∀ args,S X.piv args=none)/\Ftab X.piv=some (cPiv X)
 brk:(∀ args,S X.brk args=none)/\Ftab X.brk=some (cBrk X)
 parE:(∀ args,S X.parE args=none)/\Ftab X.parE=some (cParE X)
 part:(∀ args,S X.part args=none)/\Ftab X.part=some (cPart X)
 par:(∀ args,S X.par args=none)/\Ftab X.par=some (cPar X)
 pdq:(∀ args,S X.pdq args=none)/\Ftab X.pdq=some (cPdq X)
 sort:(∀ args,S X.sort args=none)/\Ftab X.sort=some (cSort X)
theorem L1:(type_of% @yM)/\(type_of% @rest_bk)/\(type_of% @rest_hide)/\(type_of% @ye)/\(type_of% @List.length_set.{0})/\(type_of% @gt_iff_lt.{0})/\(type_of% @ge_iff_le.{0})/\(type_of% @Int.ofNat_le) :=
 ⟨@yM,@rest_bk,@rest_hide,@ye,@List.length_set.{0},@gt_iff_lt.{0},@ge_iff_le.{0},@Int.ofNat_le⟩
theorem L2 {own0:yLO} {b:Nat} {α:Type} {g:α->List IV} {e:α->IV} {sz:Nat} {agg:Bool} (hb:b<own0.length) (hE:Elt g e sz agg):(∀ {c:List IV} {R:yLO},(Bk own0 b c++R)[b]?=some (.cells c))/\(∀ {c c':List IV} {R:yLO},(Bk own0 b c++R).set b (.cells c')=Bk own0 b c'++R)/\(∀ {c:List IV} {R:yLO} {vis:List Nat} {k:Nat},(hide vis (own0.length+k) (Bk own0 b c++R))[b]?=some (.cells c))/\(∀ x,(e x).cells=g x)/\(∀ x,(g x).length=sz)/\(∀ x,(g x).all IV.scalar=true)/\(∀ {xs:List α} {i:Nat} {x:α},i<xs.length->wrN (xs.flatMap g) (i*sz) (g x)=(xs.set i x).flatMap g)/\(∀ {xs:List α} {i:Nat},i<xs.length->i*sz+sz<=(xs.flatMap g).length) :=
 ⟨bk_get hb,bk_set hb,bk_hide hb,hE.cells,hE.len,hE.scal,hE.st,hE.fits⟩
def slotsOf:Nat->List IV->List (Nat × IV)
 | _,[]=>[]
 | k,x::xs=>(k,x)::slotsOf (k+1) xs
theorem V2:(type_of% @slotsOf.eq_1)/\(type_of% @slotsOf.eq_2)/\(type_of% @ze)/\(type_of% @zg)/\(type_of% @zde):=⟨@slotsOf.eq_1,@slotsOf.eq_2,@ze,@zg,@zde⟩
theorem V3:(type_of% @ze)/\(type_of% @zg)/\(type_of% @zo):=⟨@ze,@zg,@zo⟩
theorem gx {α:Type} {l:List α} {i:Nat} (h:i<l.length):∃ x,l[i]?=some x:=⟨_,zce h⟩
theorem yn:∀ {xs:List IV} {k:Nat} {p:Nat × IV},p∈slotsOf k xs->∃ j,p.1=k+j/\xs[j]?=some p.2
 | [],_,_,h=>by simp [slotsOf] at h
 | x::xs,k,p,h=>by
  simp only [slotsOf,zdn] at h
  rcases h with rfl | h
  ·exact ⟨0,rfl,rfl⟩
  ·obtain ⟨j,h1,h2⟩:=yn h
   exact ⟨j+1,by omega,h2⟩
def FinY (d:Nat) (out:yLM) (rs:List IRes) (Q:IV->List IObj->Prop) (o:Out) (st:St):Prop:=(o=.normal∨o=.ret)/\∃ v,resultI d out st rs=some v/\Q v st.own
section
variable {F:FuncId->Option IFn} {S:ySM} {d:Nat} {out:yLM} {rs:List IRes} {Q:IV->List IObj->Prop} {st:St}
theorem zr:FinY d out rs Q .ret st=∃ v,resultI d out st rs=some v/\Q v st.own:=propext ⟨fun h=>h.2,fun h=>⟨.inr rfl,h⟩⟩
theorem zP:FinY d out rs Q .normal st=∃ v,resultI d out st rs=some v/\Q v st.own:=propext ⟨fun h=>h.2,fun h=>⟨.inl rfl,h⟩⟩
theorem gives_y {f:FuncId} {i:IFn} {args:List IV} {m:Nat} {ownV own:yLO} (hS:S f args=none) (hi:F f=some i) (hm:i.mode=2)
  (h:Ex (callN F S m) d out m i.body (FinY d out i.res Q) ⟨args++List.replicate (i.ntmps - args.length) (.tuple []),own⟩):∃ v own',(∀ id,callN F S (m+1) d out ownV own id f args=some (.x,v,own'))/\Q v own':=by
 obtain ⟨o,st,h1,h2,v,h3,h4⟩:=h
 refine ⟨v,st.own,fun id=>?_,h4⟩
 simp only [callN,hS,hi,hm,if_true,zf,h1]
 rcases h2 with rfl | rfl <;> simp only [ended,h3,zck]
end
theorem zX {F:FuncId->Option IFn} {S:ySM} {d:Nat} {out:yLM} {Q:IV->List IObj->Prop} {f:FuncId} {i:IFn} {args:List IV} {m:Nat} {ownV own:yLO} (hS:S f args=none) (hi:F f=some i) (hm:i.mode=2) (hl:args.length<=i.ntmps)
  (h:∀ t,Slots i.ntmps t (slotsOf 0 args)->Ex (callN F S m) d out m i.body (FinY d out i.res Q) ⟨t,own⟩):∃ v own',(∀ id,callN F S (m+1) d out ownV own id f args=some (.x,v,own'))/\Q v own':=by
 refine gives_y hS hi hm (h _ ⟨by simp; omega,fun p hp=>?_⟩)
 obtain ⟨j,h1,h2⟩:=yn hp
 rw [zL,zc0,h1,zde,zco (zcf.1 h2).1,h2]
 rfl
theorem ZR {k:Int} {n:Nat} (h:k=n) (hn:n<9223372036854775808):wrapI .i64 k=(n:Int):=by
 subst h
 exact (zt _ _).trans (IntWalk.i64_in _ (by constructor <;> omega))
theorem we {k:Int} {n:Nat} (h:k=n:=by omega) (hn:n<9223372036854775808:=by omega):wrapI .i64 k=(n:Int):=ZR h hn
theorem wrap_eqi {k n:Int} (h:k=n) (h1:-9223372036854775808<=n) (h2:n<9223372036854775808):wrapI .i64 k=n:=by
 subst h
 exact (zt _ _).trans (IntWalk.i64_in _ (by constructor <;> omega))
theorem YH (x k:Nat) (hx:x<9223372036854775808):wrapI .i64 (Int.tdiv (x:Int) (k:Int))=((x / k:Nat):Int):=by
 rw [← Int.ofNat_tdiv]
 have:=Nat.div_le_self x k
 exact ZR rfl (by omega)
section
variable {own0 J0 J1:yLO} {b:Nat} {c:List IV} {x y:IObj}
theorem yz:(Bk own0 b c++(J0++x::J1))[own0.length+J0.length]?=some x:=by
 rw [zct (by rw [yM]; omega),yM,zds,zct (zcs _),Nat.sub_self]
 rfl
theorem yF:(Bk own0 b c++(J0++x::J1)).set (own0.length+J0.length) y=Bk own0 b c++(J0++y::J1):=by
 rw [List.set_append_right _ _ (by rw [yM]; omega),yM,zds,List.set_append_right _ _ (zcs _),Nat.sub_self]
 rfl
theorem yt {vis:List Nat} {k:Nat}:(hide vis (own0.length+(J0.length+(k+1))) (Bk own0 b c++(J0++x::J1)))[own0.length+J0.length]?=some x:=by
 rw [zy,yz]
 simp
end
def CmpOK {α:Type} (S:ySM) (N d:Nat) (out:yLM) (own0:yLO) (b:Nat) (e:α->IV) (gf:FuncId) (caps:List IV) (r:α->α->Int):Prop :=
 ∀ m,N<=m->∀ ownV own id x y,RestOf own0 b ownV->callN Ftab S m d out ownV own id gf (e x::e y::caps)=some (.r,.int .i64 (r x y),own)
end
section
theorem zd {S:ySM} {f:FuncId} {i:IFn} {args:List IV} {v:IV} (hS:S f args=none) (hi:Ftab f=some i) (hm:i.mode=0) (hl:args.length<=i.ntmps) (N:Nat) (hN:1<=N) (hv:Fz 1 v)
  (h:∀ m,N<=m->∀ d out t,Slots i.ntmps t (slotsOf 0 args)->Ex (callN Ftab S m) d out m i.body (Fin d out i.res v) ⟨t,[]⟩):∀ m,N+1<=m->∀ d out ownV own id,callN Ftab S m d out ownV own id f args=some (.r,v,own):=by
 intro m hm1 d out ownV own id
 obtain ⟨m,rfl⟩:∃ q,m=q+1:=⟨m - 1,by omega⟩
 obtain ⟨o,st,h1,h2,h3⟩:=h m (by omega) (d+1) (fun l=>if l=d then ownV else out l) (args++List.replicate (i.ntmps - args.length) (.tuple [])) ⟨by simp; omega,fun p hp=>by
  obtain ⟨j,h1,h2⟩:=yn hp
  rw [zL,zc0,h1,zde,zco (zcf.1 h2).1,h2]
  rfl⟩
 have hm0:¬ (0=2):=by decide
 have hm00:¬ (0=3):=by decide
 have hf:freeze m (d+1) st.own v=some v:=hv m (by omega) _ _
 simp only [callN,hS,hi,hm,hm0,hm00,if_false,zf,h1]
 rcases h2 with rfl | rfl <;> simp [ended,h3,leave,hf]
theorem m3_args {S:ySM} {f:FuncId} {i:IFn} {args az:List IV} {m d:Nat} {out:yLM} {ownV own:yLO} {id:Nat} (h1:S f args=none) (h2:S f az=none) (hi:Ftab f=some i) (hm:i.mode=3) (ha:args.mapM (freezeA 12 d ownV)=az.mapM (freezeA 12 d ownV)):callN Ftab S m d out ownV own id f args=callN Ftab S m d out ownV own id f az:=by
 have h32:¬ (3=2):=by decide
 cases m with
 | zero=>rfl
 | succ m=>simp only [callN,h1,h2,hi,hm,if_neg h32,if_true,ha]
theorem gives_m03 {S:ySM} {f:FuncId} {i:IFn} {args:List IV} {v:IV} (hS:S f args=none) (hi:Ftab f=some i) (hm:i.mode=0∨i.mode=3) (hl:args.length<=i.ntmps) (N:Nat) (hN:1<=N) (hv:Fz 1 v) (hsc:∀ o,scalarR o v=some (.r,v,o)) (hc:∀ d own,args.mapM (freezeA 12 d own)=some args)
  (h:∀ m,N<=m->∀ d out t,Slots i.ntmps t (slotsOf 0 args)->Ex (callN Ftab S m) d out m i.body (Fin d out i.res v) ⟨t,[]⟩):∀ m,N+1<=m->∀ d out ownV own id,callN Ftab S m d out ownV own id f args=some (.r,v,own):=by
 rcases hm with hm | hm
 ·exact zd hS hi hm hl N hN hv h
 intro m hm1 d out ownV own id
 obtain ⟨m,rfl⟩:∃ q,m=q+1:=⟨m - 1,by omega⟩
 obtain ⟨o,st,h1,h2,h3⟩:=h m (by omega) 0 (fun _=>[]) (args++List.replicate (i.ntmps - args.length) (.tuple [])) ⟨by simp; omega,fun p hp=>by
  obtain ⟨j,h1,h2⟩:=yn hp
  rw [zL,zc0,h1,zde,zco (zcf.1 h2).1,h2]
  rfl⟩
 have h32:¬ (3=2):=by decide
 simp only [callN,hS,hi,hm,if_neg h32,if_true,hc,zcy,zf,h1]
 rcases h2 with rfl | rfl <;> simp [ended,h3,hsc]
theorem gives_nan {S:ySM} (hS:NoS S) (x:Int):∀ m,2<=m->∀ d out ownV own id,callN Ftab S m d out ownV own id 116 [.int .i64 x]=some (.r,.bool false,own):=by
 refine zd (i:=i116) (ns hS (by rfl)) rfl rfl (lb rfl) 1 (by omega) zk fun m hm d out t hfr=>?_
 simp only [V2,Nat.reduceAdd,i116] at hfr
 have hx:(x != x)=false:=by simp
 simp only [i116,V0,sevalprocAttr,hfr,hx]
end
section
section
variable {X:SF} {S:ySM} {α:Type} {g:α->List IV} {e:α->IV} {own0:yLO} {b d:Nat} {out:yLM} {n cp:Nat} {tg:Bool} {gf:FuncId} {caps:List IV} {r:α->α->Int} {Nc:Nat}
theorem x_ord2 (hFm:FamOK S X) (hS:NoS S) (hb:b<own0.length) (hE:Elt g e X.sz X.ag) (hc:CmpOK S Nc d out own0 b e gf caps r) (hn:n<65536) (m:Nat) (hm:Nc+4<=m) (xs:List α) (J0 J:yLO) (z:Int) (i j:Nat) (hl0:xs.length=n) (hi:i<n) (hj:j<n) :
  ∃ (z':Int) (J':yLO) (p q:Nat),(∀ id,callN Ftab S m d out (Bk own0 b (xs.flatMap g)++(J0++.cells [.int .i64 z]::J)) (Bk own0 b (xs.flatMap g)++(J0++.cells [.int .i64 z]::J)) id X.ord2 [.slM d b 0 n cp X.sz tg,.int .i64 (i:Int),.int .i64 (j:Int),.ptrM d (own0.length+J0.length) 0,.fn gf [] caps]=some (.x,.tuple [.int .i64 (p:Int),.int .i64 (q:Int)],Bk own0 b (xs.flatMap g)++(J0++.cells [.int .i64 z']::J')))/\(p=i/\q=j∨p=j/\q=i):=by
 obtain ⟨m,rfl⟩:∃ q,m=q+1:=⟨m - 1,by omega⟩
 have main:∃ v own',(∀ id,callN Ftab S (m+1) d out (Bk own0 b (xs.flatMap g)++(J0++.cells [.int .i64 z]::J)) (Bk own0 b (xs.flatMap g)++(J0++.cells [.int .i64 z]::J)) id X.ord2 [.slM d b 0 n cp X.sz tg,.int .i64 (i:Int),.int .i64 (j:Int),.ptrM d (own0.length+J0.length) 0,.fn gf [] caps]=some (.x,v,own'))/\(∃ (z':Int) (J':yLO) (p q:Nat),v=.tuple [.int .i64 (p:Int),.int .i64 (q:Int)]/\own'=Bk own0 b (xs.flatMap g)++(J0++.cells [.int .i64 z']::J')/\(p=i/\q=j∨p=j/\q=i)):=by
  refine zX (i:=cOrd2 X) (hFm.ord2.1 _) hFm.ord2.2 rfl (lb rfl) fun t hfr=>?_
  simp only [V2,Nat.reduceAdd,cOrd2] at hfr
  obtain ⟨x,hx⟩:=gx (l:=xs) (i:=j) (by omega)
  have lx:=hE.ld hx
  obtain ⟨y,hy⟩:=gx (l:=xs) (i:=i) (by omega)
  have ly:=hE.ld hy
  have cc:=fun ownV own id=>hc m (by omega) ownV own id x y
  cases hlt:decide (r x y<0)
  ·simp only [cOrd2,V0,sevalprocAttr,hfr,L1,L2 hb hE,yz,yF,yt,hi,hj,hl0,lx,ly,cc,hlt]
   refine ⟨by simp [comm],?_⟩
   simp only [V0,sevalprocAttr,hfr,L1,L2 hb hE,zr]
   exact ⟨_,rfl,z,_,i,j,rfl,rfl,.inl ⟨rfl,rfl⟩⟩
  ·simp only [cOrd2,V0,sevalprocAttr,hfr,L1,L2 hb hE,yz,yF,yt,hi,hj,hl0,lx,ly,cc,hlt]
   refine ⟨by simp [comm],?_⟩
   simp only [V0,sevalprocAttr,hfr,L1,L2 hb hE,yz,yF,yt,zr]
   exact ⟨_,rfl,_,_,j,i,rfl,rfl,.inr ⟨rfl,rfl⟩⟩
 obtain ⟨v,own',h1,z',J',p,q,rfl,rfl,h2⟩:=main
 exact ⟨z',J',p,q,h1,h2⟩
theorem x_med (hFm:FamOK S X) (hS:NoS S) (hb:b<own0.length) (hE:Elt g e X.sz X.ag) (hc:CmpOK S Nc d out own0 b e gf caps r) (hn:n<65536) (m:Nat) (hm:Nc+6<=m) (xs:List α) (J0 J:yLO) (z:Int) (i j k:Nat) (hl0:xs.length=n) (hi:i<n) (hj:j<n) (hkn:k<n) :
  ∃ (z':Int) (J':yLO) (p:Nat),(∀ id,callN Ftab S m d out (Bk own0 b (xs.flatMap g)++(J0++.cells [.int .i64 z]::J)) (Bk own0 b (xs.flatMap g)++(J0++.cells [.int .i64 z]::J)) id X.med [.slM d b 0 n cp X.sz tg,.int .i64 (i:Int),.int .i64 (j:Int),.int .i64 (k:Int),.ptrM d (own0.length+J0.length) 0,.fn gf [] caps]=some (.x,.int .i64 (p:Int),Bk own0 b (xs.flatMap g)++(J0++.cells [.int .i64 z']::J')))/\(p=i∨p=j∨p=k):=by
 obtain ⟨m,rfl⟩:∃ q,m=q+1:=⟨m - 1,by omega⟩
 have main:∃ v own',(∀ id,callN Ftab S (m+1) d out (Bk own0 b (xs.flatMap g)++(J0++.cells [.int .i64 z]::J)) (Bk own0 b (xs.flatMap g)++(J0++.cells [.int .i64 z]::J)) id X.med [.slM d b 0 n cp X.sz tg,.int .i64 (i:Int),.int .i64 (j:Int),.int .i64 (k:Int),.ptrM d (own0.length+J0.length) 0,.fn gf [] caps]=some (.x,v,own'))/\(∃ (z':Int) (J':yLO) (p:Nat),v=.int .i64 (p:Int)/\own'=Bk own0 b (xs.flatMap g)++(J0++.cells [.int .i64 z']::J')/\(p=i∨p=j∨p=k)):=by
  refine zX (i:=cMed X) (hFm.med.1 _) hFm.med.2 rfl (lb rfl) fun t hfr=>?_
  simp only [V2,Nat.reduceAdd,cMed] at hfr
  obtain ⟨z1,J1,p1,q1,h1,g1⟩:=x_ord2 (cp:=cp) (tg:=tg) (d:=d) (out:=out) hFm hS hb hE hc hn m (by omega) xs J0 (J++[.free]) z i j hl0 hi hj
  obtain ⟨z2,J2,p2,q2,h2,g2⟩:=x_ord2 (cp:=cp) (tg:=tg) (d:=d) (out:=out) hFm hS hb hE hc hn m (by omega) xs J0 (J1++[.free]) z1 q1 k hl0 (by omega) hkn
  obtain ⟨z3,J3,p3,q3,h3,g3⟩:=x_ord2 (cp:=cp) (tg:=tg) (d:=d) (out:=out) hFm hS hb hE hc hn m (by omega) xs J0 (J2++[.free]) z2 p1 p2 hl0 (by omega) (by omega)
  simp only [cMed,V0,sevalprocAttr,hfr,L1,L2 hb hE,yz,yF,yt,h1,h2,h3,zr]
  exact ⟨_,rfl,z3,_,q3,rfl,rfl,by omega⟩
 obtain ⟨v,own',h1,z',J',p,rfl,rfl,h2⟩:=main
 exact ⟨z',J',p,h1,h2⟩
theorem x_medA (hFm:FamOK S X) (hS:NoS S) (hb:b<own0.length) (hE:Elt g e X.sz X.ag) (hc:CmpOK S Nc d out own0 b e gf caps r) (hn:n<65536) (m:Nat) (hm:Nc+8<=m) (xs:List α) (J0 J:yLO) (z:Int) (i:Nat) (hl0:xs.length=n) (h0:0<i) (hi:i+1<n) :
  ∃ (z':Int) (J':yLO) (p:Nat),(∀ id,callN Ftab S m d out (Bk own0 b (xs.flatMap g)++(J0++.cells [.int .i64 z]::J)) (Bk own0 b (xs.flatMap g)++(J0++.cells [.int .i64 z]::J)) id X.medA [.slM d b 0 n cp X.sz tg,.int .i64 (i:Int),.ptrM d (own0.length+J0.length) 0,.fn gf [] caps]=some (.x,.int .i64 (p:Int),Bk own0 b (xs.flatMap g)++(J0++.cells [.int .i64 z']::J')))/\(p+1=i∨p=i∨p=i+1):=by
 obtain ⟨m,rfl⟩:∃ q,m=q+1:=⟨m - 1,by omega⟩
 have main:∃ v own',(∀ id,callN Ftab S (m+1) d out (Bk own0 b (xs.flatMap g)++(J0++.cells [.int .i64 z]::J)) (Bk own0 b (xs.flatMap g)++(J0++.cells [.int .i64 z]::J)) id X.medA [.slM d b 0 n cp X.sz tg,.int .i64 (i:Int),.ptrM d (own0.length+J0.length) 0,.fn gf [] caps]=some (.x,v,own'))/\(∃ (z':Int) (J':yLO) (p:Nat),v=.int .i64 (p:Int)/\own'=Bk own0 b (xs.flatMap g)++(J0++.cells [.int .i64 z']::J')/\(p+1=i∨p=i∨p=i+1)):=by
  refine zX (i:=cMedA X) (hFm.medA.1 _) hFm.medA.2 rfl (lb rfl) fun t hfr=>?_
  simp only [V2,Nat.reduceAdd,cMedA] at hfr
  have e1:wrapI .i64 ((i:Int) - 1)=((i - 1:Nat):Int):=we
  have e2:wrapI .i64 ((i:Int)+1)=((i+1:Nat):Int):=we
  obtain ⟨z1,J1,p1,h1,g1⟩:=x_med (cp:=cp) (tg:=tg) (d:=d) (out:=out) hFm hS hb hE hc hn m (by omega) xs J0 (J++[.free]) z (i - 1) i (i+1) hl0 (by omega) (by omega) hi
  simp only [cMedA,V0,sevalprocAttr,hfr,L1,L2 hb hE,e1,e2,h1,zr]
  exact ⟨_,rfl,z1,_,p1,rfl,rfl,by omega⟩
 obtain ⟨v,own',h1,z',J',p,rfl,rfl,h2⟩:=main
 exact ⟨z',J',p,h1,h2⟩
end
end
section
def tabL:List Nat:=[0,1,2,2,3,3,3,3,4,4,4,4,4,4,4,4,5,5,5,5,5,5,5,5,5,5,5,5,5,5,5,5,6,6,6,6,6,6,6,6,6,6,6,6,6,6,6,6,6,6,6,6,6,6,6,6,6,6,6,6,6,6,6,6,7,7,7,7,7,7,7,7,7,7,7,7,7,7,7,7,7,7,7,7,7,7,7,7,7,7,7,7,7,7,7,7,7,7,7,7,7,7,7,7,7,7,7,7,7,7,7,7,7,7,7,7,7,7,7,7,7,7,7,7,7,7,7,7,8,8,8,8,8,8,8,8,8,8,8,8,8,8,8,8,8,8,8,8,8,8,8,8,8,8,8,8,8,8,8,8,8,8,8,8,8,8,8,8,8,8,8,8,8,8,8,8,8,8,8,8,8,8,8,8,8,8,8,8,8,8,8,8,8,8,8,8,8,8,8,8,8,8,8,8,8,8,8,8,8,8,8,8,8,8,8,8,8,8,8,8,8,8,8,8,8,8,8,8,8,8,8,8,8,8,8,8,8,8,8,8,8,8,8,8,8,8,8,8,8,8,8,8,8,8,8,8]
theorem tab_lit:bs [0,1,2,2,3,3,3,3,4,4,4,4,4,4,4,4,5,5,5,5,5,5,5,5,5,5,5,5,5,5,5,5,6,6,6,6,6,6,6,6,6,6,6,6,6,6,6,6,6,6,6,6,6,6,6,6,6,6,6,6,6,6,6,6,7,7,7,7,7,7,7,7,7,7,7,7,7,7,7,7,7,7,7,7,7,7,7,7,7,7,7,7,7,7,7,7,7,7,7,7,7,7,7,7,7,7,7,7,7,7,7,7,7,7,7,7,7,7,7,7,7,7,7,7,7,7,7,7,8,8,8,8,8,8,8,8,8,8,8,8,8,8,8,8,8,8,8,8,8,8,8,8,8,8,8,8,8,8,8,8,8,8,8,8,8,8,8,8,8,8,8,8,8,8,8,8,8,8,8,8,8,8,8,8,8,8,8,8,8,8,8,8,8,8,8,8,8,8,8,8,8,8,8,8,8,8,8,8,8,8,8,8,8,8,8,8,8,8,8,8,8,8,8,8,8,8,8,8,8,8,8,8,8,8,8,8,8,8,8,8,8,8,8,8,8,8,8,8,8,8,8,8,8,8,8,8]=bs tabL:=rfl
def tabB:Bool:=(List.range 256).all fun y=>match (bs tabL)[y]? with
 | some b=>Nat.beq b.toNat (tabL.getD y 0)&&(Nat.beq y 0||Nat.ble (2 ^ b.toNat) (2*y))&&Nat.ble b.toNat 8
 | none=>false
theorem tabB_ok:tabB=true:=by kernel_rfl
theorem tab_at {y:Nat} (h:y<256):∃ b:UInt8,(bs tabL)[y]?=some b/\b.toNat=tabL.getD y 0/\(y=0∨2 ^ tabL.getD y 0<=2*y)/\tabL.getD y 0<=8:=by
 have h1:=zea.1 tabB_ok y (List.mem_range.2 h)
 cases hb:(bs tabL)[y]? with
 | none=>rw [hb] at h1; simp at h1
 | some b =>
  rw [hb] at h1
  simp only [zcq,zd3,Nat.beq_eq,Nat.ble_eq] at h1
  obtain ⟨⟨h2,h3⟩,h4⟩:=h1
  refine ⟨b,rfl,h2,?_,by omega⟩
  rw [← h2]
  exact h3
def lenN (x:Nat):Nat:=if x<256 then tabL.getD x 0 else 8+tabL.getD (x / 256) 0
theorem lenN_le {x:Nat} (h0:0<x) (h:x<65536):2 ^ lenN x<=2*x/\lenN x<=16:=by
 unfold lenN
 split
 ·rename_i h1
  obtain ⟨b,_,_,h2,h3⟩:=tab_at h1
  exact ⟨by omega,by omega⟩
 ·obtain ⟨b,_,_,h2,h3⟩:=tab_at (y:=x / 256) (by omega)
  refine ⟨?_,by omega⟩
  rw [Nat.pow_add]
  have:x / 256*256<=x:=Nat.div_mul_le_self _ _
  rcases h2 with h2 | h2
  ·omega
  ·have e:2 ^ 8=256:=rfl
   rw [e]
   omega
theorem wrap_u {k:IntKind} {x:Nat} (h:x<256) (hk:k=.u8∨k=.u64∨k=.i64):wrapI k (x:Int)=(x:Int):=by
 rw [zt]
 rcases hk with rfl | rfl | rfl
 ·exact IntWalk.u8_in _ (by omega)
 ·exact IntWalk.u64_in _ (by omega)
 ·exact IntWalk.i64_in _ (by omega)
section
variable {S:ySM}
theorem gives_len64 (hS:NoS S) (x:Nat) (hx:x<65536):Gives Ftab S 142 [.int .u64 (x:Int)] (.int .i64 (lenN x:Int)):=by
 refine zq (i:=i142) (k:=1) (ns hS (by rfl)) rfl rfl zw 2 (by omega) fun m hm d out=>?_
 have h1:¬ ((4294967296:Int)<=(x:Int)):=by omega
 have h2:¬ ((65536:Int)<=(x:Int)):=by omega
 have ei:∀ (C:Call) (d:Nat) (out:yLM) (n0:Nat) (ownV own:yLO) (t:List IV) (a b:Opd),evOp C d out n0 ownV own t (.indexS a b)=e_indexS own t a b:=fun _ _ _ _ _ _ _ _ _=>rfl
 by_cases h3:(256:Int)<=(x:Int)
 ·have hsh:shiftI .shr .u64 (x:Int) 8=some (.int .u64 ((x / 256:Nat):Int)):=by
   have e:(2:Int) ^ (min (8:Int).toNat IntKind.u64.bits)=256:=by decide
   simp only [shiftI,e]
   rw [Int.fdiv_eq_ediv_of_nonneg _ (by omega)]
   rfl
  obtain ⟨b,hb,hb2,_,h8⟩:=tab_at (y:=x / 256) (by omega)
  have hw:wrapI .u8 ((x / 256:Nat):Int)=((x / 256:Nat):Int):=wrap_u (by omega) (.inl rfl)
  have hw8:wrapI .i64 ((0:Int)+8)=8:=rfl
  have hc:natI (.int .u8 ((x / 256:Nat):Int))=some (x / 256):=yg
  have hwb:wrapI .i64 ((b.toNat:Nat):Int)=((b.toNat:Nat):Int):=wrap_u (by omega) (.inr (.inr rfl))
  have hwc:wrapI .i64 ((8:Int)+((b.toNat:Nat):Int))=((lenN x:Nat):Int):=by
   refine ZR ?_ ?_ <;> unfold lenN <;> rw [if_neg (by omega)] <;> omega
  simp only [i142,tab_lit,W0,e_nilchk,e_pick,e_box,e_bslice,e_load,e_store,e_eqb,e_eqp,e_eqs,e_eqagg,e_conv,e_faddr,e_field,e_extract,e_call,e_mx,mkAt,List.replicate,look,mkv,binI,intBin,isShift,unI,fillI,cellV,Nat.reduceAdd,Nat.reduceMul,Nat.reduceLeDiff,reduceCtorEq,Nat.reduceEqDiff,ge_iff_le,h1,h2,h3,hsh,hw8,hw,ei,e_indexS,hc,hb,hwb,hwc,e_conv]
 ·obtain ⟨b,hb,hb2,_,h8⟩:=tab_at (y:=x) (by omega)
  have hw:wrapI .u8 (x:Int)=(x:Int):=wrap_u (by omega) (.inl rfl)
  have hc:natI (.int .u8 (x:Int))=some x:=yg
  have hwb:wrapI .i64 ((b.toNat:Nat):Int)=((b.toNat:Nat):Int):=wrap_u (by omega) (.inr (.inr rfl))
  have hwc:wrapI .i64 ((0:Int)+((b.toNat:Nat):Int))=((lenN x:Nat):Int):=by
   refine ZR ?_ ?_ <;> unfold lenN <;> rw [if_pos (by omega)] <;> omega
  simp only [i142,tab_lit,W0,e_nilchk,e_pick,e_box,e_bslice,e_load,e_store,e_eqb,e_eqp,e_eqs,e_eqagg,e_conv,e_faddr,e_field,e_extract,e_call,e_mx,mkAt,List.replicate,look,mkv,binI,intBin,isShift,unI,fillI,cellV,Nat.reduceAdd,Nat.reduceMul,Nat.reduceLeDiff,reduceCtorEq,Nat.reduceEqDiff,ge_iff_le,h1,h2,h3,hw,ei,e_indexS,hc,hb,hwb,hwc,e_conv]
theorem gives_len (hS:NoS S) (x:Nat) (hx:x<65536):Gives Ftab S 115 [.int .u64 (x:Int)] (.int .i64 (lenN x:Int)):=by
 obtain ⟨N,hN⟩:=gives_len64 hS x hx
 refine zq (i:=i115) (k:=1) (ns hS (by rfl)) rfl rfl zw (N+2) (by omega) fun m hm d out=>?_
 have c1:=hN m (by omega)
 simp only [i115,W0,e_nilchk,e_pick,e_box,e_bslice,e_load,e_store,e_eqb,e_eqp,e_eqs,e_eqagg,e_conv,e_faddr,e_field,e_extract,e_call,e_mx,mkAt,List.replicate,look,mkv,binI,intBin,isShift,unI,fillI,cellV,Nat.reduceAdd,Nat.reduceMul,Nat.reduceLeDiff,reduceCtorEq,Nat.reduceEqDiff,c1]
theorem gives_pow (hS:NoS S) (x:Nat) (h0:0<x) (hx:x<65536):Gives Ftab S 158 [.int .i64 (x:Int)] (.int .u64 ((2 ^ lenN x:Nat):Int)):=by
 obtain ⟨N,hN⟩:=gives_len hS x hx
 refine zq (i:=i158) (k:=1) (ns hS (by rfl)) rfl rfl zw (N+2) (by omega) fun m hm d out=>?_
 have c1:=hN m (by omega)
 have hl:=lenN_le h0 hx
 have hw:wrapI .u64 (x:Int)=(x:Int):=by
  rw [zt]
  exact IntWalk.u64_in _ (by omega)
 have hsh:shiftI .shl .u64 1 (lenN x:Int)=some (.int .u64 ((2 ^ lenN x:Nat):Int)):=by
  have hle:lenN x<=64:=by omega
  have e:min ((lenN x:Int)).toNat IntKind.u64.bits=lenN x:=by
   rw [Int.toNat_natCast]
   exact Nat.min_eq_left hle
  simp only [shiftI,e]
  rw [if_neg (by omega),zt]
  have h2:(1:Int)*2 ^ lenN x=((2 ^ lenN x:Nat):Int):=by simp
  rw [h2]
  have hP:=hl.1
  generalize 2 ^ lenN x=P at hP ⊢
  rw [IntWalk.u64_in _ (by omega)]
 simp only [i158,W0,e_nilchk,e_pick,e_box,e_bslice,e_load,e_store,e_eqb,e_eqp,e_eqs,e_eqagg,e_conv,e_faddr,e_field,e_extract,e_call,e_mx,mkAt,List.replicate,look,mkv,binI,intBin,isShift,unI,fillI,cellV,Nat.reduceAdd,Nat.reduceMul,Nat.reduceLeDiff,reduceCtorEq,Nat.reduceEqDiff,e_conv,hw,c1,hsh]
theorem gives_next (hS:NoS S) {own0:yLO} {b d:Nat} {out:yLM} (hb:b<own0.length) (m:Nat) (hm:2<=m) (c:List IV) (J0 J:yLO) (z:Int) :
  ∃ (w:Int) (J':yLO),(∀ id,callN Ftab S m d out (Bk own0 b c++(J0++.cells [.int .u64 z]::J)) (Bk own0 b c++(J0++.cells [.int .u64 z]::J)) id 159 [.ptrM d (own0.length+J0.length) 0]=some (.x,.int .u64 w,Bk own0 b c++(J0++.cells [.int .u64 w]::J'))):=by
 obtain ⟨m,rfl⟩:∃ q,m=q+1:=⟨m - 1,by omega⟩
 have main:∃ v own',(∀ id,callN Ftab S (m+1) d out (Bk own0 b c++(J0++.cells [.int .u64 z]::J)) (Bk own0 b c++(J0++.cells [.int .u64 z]::J)) id 159 [.ptrM d (own0.length+J0.length) 0]=some (.x,v,own'))/\(∃ (w:Int) (J':yLO),v=.int .u64 w/\own'=Bk own0 b c++(J0++.cells [.int .u64 w]::J')):=by
  refine zX (i:=i159) (ns hS (by rfl)) rfl rfl (lb rfl) fun t hfr=>?_
  simp only [V2,i159] at hfr
  obtain ⟨w1,h1⟩:∃ w,shiftI .shl .u64 z 13=some (.int .u64 w):=⟨_,rfl⟩
  simp only [i159,V0,sevalprocAttr,hfr,yz,yF,yt,yM,h1]
  refine ⟨by simp [comm],?_⟩
  generalize IntKind.wrap .u64 _=z1
  obtain ⟨w2,h2⟩:∃ w,shiftI .shr .u64 z1 7=some (.int .u64 w):=⟨_,rfl⟩
  simp only [V0,sevalprocAttr,hfr,yz,yF,yt,yM,h2]
  refine ⟨by simp [comm],?_⟩
  generalize IntKind.wrap .u64 _=z2
  obtain ⟨w3,h3⟩:∃ w,shiftI .shl .u64 z2 17=some (.int .u64 w):=⟨_,rfl⟩
  simp only [V0,sevalprocAttr,hfr,yz,yF,yt,yM,h3]
  refine ⟨by simp [comm],?_⟩
  simp only [V0,sevalprocAttr,hfr,yz,yF,yt,yM,zr]
  exact ⟨_,rfl,_,_,rfl,rfl⟩
 obtain ⟨v,own',h1,w,J',rfl,rfl⟩:=main
 exact ⟨w,J',h1⟩
theorem mask_le (x:Int) (P:Nat) (h0:0<P) (h:P<=131072):∃ v:Nat,v<P/\IntKind.wrap .u64 (((BitVec.ofInt IntKind.u64.bits x &&& BitVec.ofInt IntKind.u64.bits ((P - 1:Nat):Int)).toNat:Nat):Int)=(v:Int):=by
 refine ⟨(BitVec.ofInt IntKind.u64.bits x &&& BitVec.ofInt IntKind.u64.bits ((P - 1:Nat):Int)).toNat,?_,?_⟩
 ·rw [BitVec.toNat_and]
  refine Nat.lt_of_le_of_lt Nat.and_le_right ?_
  rw [BitVec.ofInt_natCast,BitVec.toNat_ofNat]
  exact Nat.lt_of_le_of_lt (Nat.mod_le _ _) (by omega)
 ·refine IntWalk.u64_in _ ⟨by omega,?_⟩
  have h1:(BitVec.ofInt IntKind.u64.bits x &&& BitVec.ofInt IntKind.u64.bits ((P - 1:Nat):Int)).toNat<=P - 1:=by
   rw [BitVec.toNat_and]
   refine zd7 Nat.and_le_right ?_
   rw [BitVec.ofInt_natCast,BitVec.toNat_ofNat]
   exact Nat.mod_le _ _
  omega
def PowOK (S:ySM) (N:Nat):Prop:=∀ x:Nat,0<x->x<65536->∀ m,N<=m->∀ d out ownV own id,callN Ftab S m d out ownV own id 158 [.int .i64 (x:Int)]=some (.r,.int .u64 ((2 ^ lenN x:Nat):Int),own)
def LenOK (S:ySM) (N:Nat):Prop:=∀ x:Nat,x<65536->∀ m,N<=m->∀ d out ownV own id,callN Ftab S m d out ownV own id 115 [.int .u64 (x:Int)]=some (.r,.int .i64 (lenN x:Int),own)
theorem unifN {P:Nat->Nat->Prop} (hmono:∀ N M x,N<=M->P N x->P M x):∀ B,(∀ x,x<B->∃ N,P N x)->∃ N,∀ x,x<B->P N x
 | 0,_=>⟨0,fun x h=>absurd h (Nat.not_lt_zero _)⟩
 | B+1,h=>by
  obtain ⟨N,hN⟩:=unifN hmono B fun x hx=>h x (by omega)
  obtain ⟨M,hM⟩:=h B (by omega)
  refine ⟨N+M,fun x hx=>?_⟩
  by_cases hb:x=B
  ·exact hmono M _ _ (by omega) (hb ▸ hM)
  ·exact hmono N _ _ (by omega) (hN x (by omega))
theorem pow_ok (hS:NoS S):∃ N,PowOK S N:=by
 obtain ⟨N,hN⟩:=unifN (P:=fun N x=>0<x->∀ m,N<=m->∀ d out ownV own id,callN Ftab S m d out ownV own id 158 [.int .i64 (x:Int)]=some (.r,.int .u64 ((2 ^ lenN x:Nat):Int),own)) (fun N M x h hp h0 m hm=>hp h0 m (by omega)) 65536 fun x hx=>by
  by_cases h0:0<x
  ·obtain ⟨N,hN⟩:=gives_pow hS x h0 hx
   exact ⟨N,fun _=>hN⟩
  ·exact ⟨0,fun h=>absurd h h0⟩
 exact ⟨N,fun x h0 hx=>hN x hx h0⟩
theorem len_ok (hS:NoS S):∃ N,LenOK S N:=by
 obtain ⟨N,hN⟩:=unifN (P:=fun N x=>∀ m,N<=m->∀ d out ownV own id,callN Ftab S m d out ownV own id 115 [.int .u64 (x:Int)]=some (.r,.int .i64 (lenN x:Int),own)) (fun N M x h hp m hm=>hp m (by omega)) 65536 fun x hx=>gives_len hS x hx
 exact ⟨N,fun x hx=>hN x hx⟩
end
end
section
section
variable {X:SF} {S:ySM} {α:Type} {g:α->List IV} {e:α->IV} {own0:yLO} {b d:Nat} {out:yLM} {n cp:Nat} {tg:Bool} {gf:FuncId} {caps:List IV} {r:α->α->Int} {Nc:Nat}
theorem x_pdq0 (hFm:FamOK S X) (hS:NoS S) (hb:b<own0.length) (hE:Elt g e X.sz X.ag) (hc:CmpOK S Nc d out own0 b e gf caps r) (hn:n<65536) (m:Nat) (hm:Nc+n+14<=m) {K:yKM} (ys:List α) (J:yLO) (t:List IV) (a c:Nat) (lim:Int) (wb wp:Bool)  (hly:ys.length=n) (hac:a<=c) (hcn:c<=n) (hfr:Slots 148 t [(0,.slM d b 0 n cp X.sz tg),(1,iv (a:Nat)),(2,iv (c:Nat)),(3,.int .i64 lim),(4,.fn gf [] caps),(10,.bool wb),(11,.bool wp)]) (hK:∀ t',Slots 148 t' [(0,.slM d b 0 n cp X.sz tg),(1,iv (a:Nat)),(2,iv (c:Nat)),(3,.int .i64 lim),(4,.fn gf [] caps),(10,.bool wb),(11,.bool wp),(12,iv (c - a:Nat))]->K .normal ⟨t',Bk own0 b (ys.flatMap g)++J⟩) :
  Ex (callN Ftab S m) d out m ((cPdq X).body.sub [1,1,0,0,0,0]) K ⟨t,Bk own0 b (ys.flatMap g)++J⟩:=by
 simp only [V3] at hfr
 have e1:wrapI .i64 ((c:Int) - (a:Int))=((c - a:Nat):Int):=we
 simp only [cPdq,IC.sub,V0,sevalprocAttr,hfr,e1]
 exact hK _ (by simp only [V0,sevalprocAttr,hfr])
end
end
section
section
variable {X:SF} {S:ySM}
theorem ins_nil (hFm:FamOK S X) (hS:NoS S) {m d:Nat} {out:yLM} {ownV own:yLO} {fv:IV} (hm:4<=m):∃ J',∀ id,callN Ftab S m d out ownV own id X.ins [.nilsl,.int .i64 0,.int .i64 0,fv]=some (.x,.tuple [],own++J'):=by
 obtain ⟨m,rfl⟩:∃ q,m=q+1:=⟨m - 1,by omega⟩
 have main:∃ v own',(∀ id,callN Ftab S (m+1) d out ownV own id X.ins [.nilsl,.int .i64 0,.int .i64 0,fv]=some (.x,v,own'))/\(v=.tuple []/\∃ J',own'=own++J'):=by
  refine zX (i:=cIns X) (hFm.ins.1 _) hFm.ins.2 rfl (lb rfl) fun t hfr=>?_
  simp only [V2,Nat.reduceAdd,cIns] at hfr
  have hw:wrapI .i64 ((0:Int)+1)=1:=rfl
  have h10:((1:Int)<0)=False:=eq_false (by decide)
  simp only [cIns,V0,Nat.reduceLT,Nat.reduceAdd,Nat.reduceMul,Nat.reduceLeDiff,Nat.reduceEqDiff,reduceCtorEq,hfr,hw]
  refine zb (fun jj st=>st.own=own/\Slots 53 st.t [(2,.int .i64 0),(8,.int .i64 1)]) 0 (by omega) ⟨rfl,by simp only [V0,Nat.reduceLT,Nat.reduceAdd,Nat.reduceMul,Nat.reduceLeDiff,Nat.reduceEqDiff,reduceCtorEq,hfr,hw]⟩ ?_
  clear hfr
  rintro jj ⟨t,own1⟩ KB ⟨ho,hfr⟩ hnB heB hrB
  dsimp only at ho hfr
  subst ho
  simp only [V3] at hfr
  simp only [V0,Nat.reduceLT,Nat.reduceAdd,Nat.reduceMul,Nat.reduceLeDiff,Nat.reduceEqDiff,reduceCtorEq,hfr,h10]
  refine heB _ _ ?_
  simp only [V0,Nat.reduceLT,Nat.reduceAdd,Nat.reduceMul,Nat.reduceLeDiff,Nat.reduceEqDiff,reduceCtorEq,hfr,zP,Yj]
  exact ⟨_,rfl,rfl,[],by simp⟩
 obtain ⟨v,own',h1,rfl,J',rfl⟩:=main
 exact ⟨J',h1⟩
theorem pdq_nil (hFm:FamOK S X) (hS:NoS S) {m d:Nat} {out:yLM} {ownV own:yLO} {fv:IV} {lim:Int} (hm:6<=m):∃ J',∀ id,callN Ftab S m d out ownV own id X.pdq [.nilsl,.int .i64 0,.int .i64 0,.int .i64 lim,fv]=some (.x,.tuple [],own++J'):=by
 obtain ⟨m,rfl⟩:∃ q,m=q+1:=⟨m - 1,by omega⟩
 have main:∃ v own',(∀ id,callN Ftab S (m+1) d out ownV own id X.pdq [.nilsl,.int .i64 0,.int .i64 0,.int .i64 lim,fv]=some (.x,v,own'))/\(v=.tuple []/\∃ J',own'=own++J'):=by
  refine zX (i:=cPdq X) (hFm.pdq.1 _) hFm.pdq.2 rfl (lb rfl) fun t hfr=>?_
  simp only [V2,Nat.reduceAdd,cPdq] at hfr
  have hw:wrapI .i64 ((0:Int) - 0)=0:=rfl
  have h12:((0:Int)<=12)=True:=eq_true (by decide)
  simp only [cPdq,V0,Nat.reduceLT,Nat.reduceAdd,Nat.reduceMul,Nat.reduceLeDiff,Nat.reduceEqDiff,reduceCtorEq,hfr]
  refine zb (fun jj st=>st.own=own/\Slots 148 st.t [(0,.nilsl),(1,.int .i64 0),(2,.int .i64 0),(4,fv)]) 0 (by omega) ⟨rfl,by simp only [V0,Nat.reduceLT,Nat.reduceAdd,Nat.reduceMul,Nat.reduceLeDiff,Nat.reduceEqDiff,reduceCtorEq,hfr]⟩ ?_
  clear hfr
  rintro jj ⟨t,own1⟩ KB ⟨ho,hfr⟩ hnB heB hrB
  dsimp only at ho hfr
  subst ho
  simp only [V3] at hfr
  obtain ⟨J',hs⟩:=ins_nil (d:=d) (out:=out) (ownV:=own1++[.free]) (own:=own1++[.free]) (fv:=fv) hFm hS (m:=m) (by omega)
  simp only [zdg] at hs
  simp only [V0,Nat.reduceLT,Nat.reduceAdd,Nat.reduceMul,Nat.reduceLeDiff,Nat.reduceEqDiff,reduceCtorEq,hfr,hw,h12,hs]
  refine hrB _ ?_
  simp only [V0,Nat.reduceLT,Nat.reduceAdd,Nat.reduceMul,Nat.reduceLeDiff,Nat.reduceEqDiff,reduceCtorEq,hfr,zr,Yj]
  exact ⟨_,rfl,rfl,_,rfl⟩
 obtain ⟨v,own',h1,rfl,J',rfl⟩:=main
 exact ⟨J',h1⟩
theorem sort_nil (hFm:FamOK S X) (hS:NoS S) {Nl m d:Nat} {out:yLM} {ownV own:yLO} {fv:IV} (hL:LenOK S Nl) (hm:Nl+8<=m):∃ J',∀ id,callN Ftab S m d out ownV own id X.sort [.nilsl,fv]=some (.x,.tuple [],own++J'):=by
 obtain ⟨m,rfl⟩:∃ q,m=q+1:=⟨m - 1,by omega⟩
 have main:∃ v own',(∀ id,callN Ftab S (m+1) d out ownV own id X.sort [.nilsl,fv]=some (.x,v,own'))/\(v=.tuple []/\∃ J',own'=own++J'):=by
  refine zX (i:=cSort X) (hFm.sort.1 _) hFm.sort.2 rfl (lb rfl) fun t hfr=>?_
  simp only [V2,Nat.reduceAdd,cSort] at hfr
  have hu:wrapI .u64 (0:Int)=0:=rfl
  have hlen:=hL 0 (by omega) m (by omega)
  simp only [zcp] at hlen
  obtain ⟨J',hs⟩:=pdq_nil (d:=d) (out:=out) (ownV:=own++[.free,.free]) (own:=own++[.free,.free]) (fv:=fv) (lim:=(lenN 0:Int)) hFm hS (m:=m) (by omega)
  simp only [zdg] at hs
  simp only [cSort,V0,Nat.reduceLT,Nat.reduceAdd,Nat.reduceMul,Nat.reduceLeDiff,Nat.reduceEqDiff,reduceCtorEq,hfr,hu,hlen,hs,e_conv,zP,Yj]
  exact ⟨_,rfl,rfl,_,rfl⟩
 obtain ⟨v,own',h1,rfl,J',rfl⟩:=main
 exact ⟨J',h1⟩
end
theorem uF_ok {S:ySM} (hS:NoS S):FamOK S uF:=by
 constructor <;> exact ⟨fun _=>ns hS (by rfl),rfl⟩
theorem usort_nil {S:ySM} (hS:NoS S) {Nl m d:Nat} {out:yLM} {ownV own:yLO} {fv:IV} (hL:LenOK S Nl) (hm:Nl+8<=m):∃ J',∀ id,callN Ftab S m d out ownV own id 85 [.nilsl,fv]=some (.x,.tuple [],own++J'):=sort_nil (X:=uF) (uF_ok hS) hS hL hm
end
end Go.Proofs.YtelocmclpfincaaGreatDoor
end
