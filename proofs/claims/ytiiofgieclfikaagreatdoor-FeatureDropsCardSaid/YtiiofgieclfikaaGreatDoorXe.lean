/-
  A part of the proof: the small machine, its simulation and its walks.
-/
import Derived.Test.YtiiofgieclfikaaGreatDoorXd
set_option linter.unusedVariables false
set_option linter.unusedSimpArgs false
set_option maxRecDepth 1000000
set_option maxHeartbeats 3200000
section
namespace Go.Proofs.YtiiofgieclfikaaGreatDoor
open Go Go.RowKit
section
def Bk (own0:yLO) (b:Nat) (c:List IV):yLO:=own0.set b (.cells c)
def RestOf (own0:yLO) (b:Nat) (ownV:yLO):Prop:=∀ j,j<own0.length->j≠b->ownV[j]?=own0[j]?
section
variable {own0 R J:yLO} {b:Nat} {c c':List IV}
theorem yH:(Bk own0 b c).length=own0.length:=by simp [Bk]
theorem bk_get (h:b<own0.length):(Bk own0 b c++R)[b]?=some (.cells c):=by
 rw [zb8 (by rw [yH]; exact h)]
 simp [Bk,h]
theorem bk_set (h:b<own0.length):(Bk own0 b c++R).set b (.cells c')=Bk own0 b c'++R:=by
 rw [List.set_append_left _ _ (by rw [yH]; exact h)]
 simp [Bk]
theorem bk_hide {vis:List Nat} {k:Nat} (h:b<own0.length):(hide vis (own0.length+k) (Bk own0 b c++R))[b]?=some (.cells c):=by
 rw [zB,bk_get h]
 simp
 omega
theorem rest_bk:RestOf own0 b (Bk own0 b c++R):=by
 intro j h1 h2
 rw [zb8 (by rw [yH]; exact h1)]
 simp only [Bk]
 rw [zc5 (Ne.symm h2)]
theorem rest_hide {vis:List Nat} {k:Nat}:RestOf own0 b (hide vis (own0.length+k) (Bk own0 b c++R)):=by
 intro j h1 h2
 rw [zB,rest_bk j h1 h2]
 rw [zb7 h1]
 simp
 omega
theorem bk_self {l:yLO} (h:l[b]?=some (.cells c)):Bk l b c=l:=by
 obtain ⟨h1,h2⟩:=zb6.1 h
 unfold Bk
 rw [← h2,List.set_getElem_self]
end
structure Elt {α:Type} (g:α->List IV) (e:α->IV) (sz:Nat) (agg:Bool):Prop where
 len:∀ x,(g x).length=sz
 cells:∀ x,(e x).cells=g x
 scal:∀ x,(g x).all IV.scalar=true
 val:∀ x,mkv agg (g x)=some (e x)
section
variable {α:Type} {g:α->List IV} {e:α->IV} {sz:Nat} {agg:Bool} {xs:List α} {i j:Nat} {x y:α}
theorem rdN_from:∀ (p l:List IV),rdN (p++l) p.length l.length=some l
 | p,[]=>rfl
 | p,x::l=>by
  have h:=rdN_from (p++[x]) l
  simp only [zcy,zcu,zc4,zce,zcc,zci,zcq] at h
  unfold rdN
  simp only [zcc,zcb (zcf _),zea,zc2,h,zb9]
theorem rdN_whole {l:List IV}:rdN l 0 l.length=some l:=rdN_from [] l
theorem Elt.ld (h:Elt g e sz agg) (hx:xs[i]?=some x):(rdN (xs.flatMap g) (i*sz) sz).bind (mkv agg)=some (e x):=by
 have h1:=zc h.len 0 sz hx (by omega)
 rw [Nat.add_zero] at h1
 rw [h1,← h.len x,rdN_whole,zch,h.val]
theorem third {l1 a l2:List IV} {k:Nat} (h:l1.length+a.length<=k):(l1++(a++l2))[k]?=l2[k - l1.length - a.length]?:=by
 rw [zcb (by omega),zcb (by omega)]
theorem wrN_flat (hg:∀ x,(g x).length=sz):∀ {xs:List α} {i:Nat},i<xs.length->wrN (xs.flatMap g) (i*sz) (g x)=(xs.set i x).flatMap g:=by
 intro xs i hi
 refine List.ext_getElem? fun k=>?_
 have hl:i*sz+(g x).length<=(xs.flatMap g).length:=by
  rw [hg,zu hg]
  have:=Nat.mul_le_mul_right sz (Nat.succ_le_of_lt hi)
  rw [Nat.succ_mul] at this
  exact this
 rw [ZR _ _ _ _ hl,hg]
 have key:∀ (l1 l2:List α) (z:α),(l1++z::l2).flatMap g=l1.flatMap g++(g z++l2.flatMap g):=fun l1 l2 z=>by simp
 have hsplit:xs=xs.take i++xs[i]::xs.drop (i+1):=by simp
 have hset:xs.set i x=xs.take i++x::xs.drop (i+1):=by rw [List.set_eq_take_append_cons_drop,if_pos hi]
 rw [hset,key]
 conv=>lhs; rw [hsplit,key]
 have ht:((xs.take i).flatMap g).length=i*sz:=by rw [zu hg,zd2,Nat.min_eq_left (Nat.le_of_lt hi)]
 split
 ·rename_i h1
  rw [zcb (by omega),ht,zb8 (by rw [hg]; omega)]
 ·rename_i h1
  by_cases h2:k<i*sz
  ·rw [zb8 (by omega),zb8 (by omega)]
  ·rw [third (by rw [ht,hg]; omega),third (by rw [ht,hg]; omega),hg,hg]
theorem Elt.st (h:Elt g e sz agg) (hi:i<xs.length):wrN (xs.flatMap g) (i*sz) (g x)=(xs.set i x).flatMap g:=wrN_flat h.len hi
theorem Elt.fits (h:Elt g e sz agg) (hi:i<xs.length):i*sz+sz<=(xs.flatMap g).length:=by
 rw [zu h.len]
 have:=Nat.mul_le_mul_right sz (Nat.succ_le_of_lt hi)
 rw [Nat.succ_mul] at this
 exact this
theorem zm (hi:xs[i]?=some x) (hj:xs[j]?=some y):((xs.set i y).set j x).Perm xs:=by
 obtain ⟨h1,rfl⟩:=zb6.1 hi
 obtain ⟨h2,rfl⟩:=zb6.1 hj
 exact List.set_set_perm h1 h2
end
theorem Wlk:(type_of% @Wc):=@Wc
section
variable {t:List IV} {i j n:Nat} {v z:IV} {l:List (Nat × IV)}
theorem putS_len:(put t (some i) v).length=t.length:=by rw [zP,zdn]
theorem gp_eq (h:i<t.length):getK z (put t (some i) v) i=v:=by
 rw [zP,zH,zc6,zdb h]
 rfl
theorem gp_ne (h:i≠j):getK z (put t (some i) v) j=getK z t j:=by
 rw [zP,zH,zH,zc6,zc6,zc5 h]
theorem gq_eq (h:i<t.length):(put t (some i) v)[i]?=some v:=by rw [zP,zdb h]
theorem gq_ne (h:i≠j):(put t (some i) v)[j]?=t[j]?:=by rw [zP,zc5 h]
def IC.sub:IC->List Nat->IC
 | c,[]=>c
 | .seq a _,0::p=>a.sub p
 | .seq _ b,_::p=>b.sub p
 | .cond _ a _,0::p=>a.sub p
 | .cond _ _ b,_::p=>b.sub p
 | .block _ a,_::p=>a.sub p
 | .loop a,_::p=>a.sub p
 | c,_=>c
def Slots (n:Nat) (t:List IV) (l:List (Nat × IV)):Prop:=t.length=n/\∀ p∈l,getK (.tuple []) t p.1=p.2
theorem zh:Slots n t []=(t.length=n):=propext ⟨fun h=>h.1,fun h=>⟨h,by simp⟩⟩
theorem zd:Slots n t ((i,v)::l)=(getK (.tuple []) t i=v/\Slots n t l):=by
 unfold Slots
 refine propext ⟨fun ⟨h1,h2⟩=>⟨h2 (i,v) (by simp),h1,fun p hp=>h2 p (by simp [hp])⟩,fun ⟨h1,h2,h3⟩=>⟨h2,fun p hp=>?_⟩⟩
 rcases zcx.1 hp with rfl | hp
 ·exact h1
 ·exact h3 p hp
end
theorem scal_pc {cs:List IV} {o:Nat}:(IV.ptrC cs o).scalar=true:=zck rfl rfl
theorem cells_pc {cs:List IV} {o:Nat}:(IV.ptrC cs o).cells=[.ptrC cs o]:=zck rfl rfl
theorem V0:(type_of% @Wlk)/\(type_of% @putS_len)/\(type_of% @gp_eq)/\(type_of% @gp_ne)/\(type_of% @gq_eq)/\(type_of% @gq_ne)/\(type_of% @zh)/\(type_of% @zd)/\(type_of% @ne_eq.{1})/\(type_of% @not_false_eq_true)/\(type_of% @not_true_eq_false)/\(type_of% @zcu.{0})/\(type_of% @zc4.{0})/\(type_of% @zda.{0})/\(type_of% @zd9.{0})/\(type_of% @List.all_nil.{0})/\(type_of% @Bool.and_self)/\(type_of% @Bool.and_true)/\(type_of% @zds)/\(type_of% @if_true.{1})/\(type_of% @zci.{0})/\(type_of% @zcc.{0})/\(type_of% @zcq)/\(type_of% @Nat.add_zero)/\(type_of% @zcf)/\(type_of% @and_self)/\(type_of% @and_true)/\(type_of% @true_and)/\(type_of% @zc2.{0})/\(type_of% @zcg.{0})/\(type_of% @zb9.{0,0})/\(type_of% @zcz.{0,0})/\(type_of% @zch.{0,0})/\(type_of% @zco)/\(type_of% @if_false.{1})/\(type_of% @zdc.{0,0})/\(type_of% @zd5.{0,0})/\(type_of% @Int.ofNat_lt)/\(type_of% @decide_true)/\(type_of% @decide_false)/\(type_of% @beq_iff_eq.{0})/\(type_of% @zcy.{0})/\(type_of% @zce.{0})/\(type_of% @zd7)/\(type_of% @zdw)/\(type_of% @mkAt.eq_1)/\(type_of% @Go.Proofs.YtiiofgieclfikaaGreatDoor.look.eq_1)/\(type_of% @mkv_ff)/\(type_of% @mkv_tt)/\(type_of% @binI.eq_1)/\(type_of% @binI.eq_2)/\(type_of% @intBin.eq_1)/\(type_of% @intBin.eq_2)/\(type_of% @intBin.eq_3)/\(type_of% @intBin.eq_4)/\(type_of% @intBin.eq_5)/\(type_of% @intBin.eq_6)/\(type_of% @intBin.eq_7)/\(type_of% @intBin.eq_8)/\(type_of% @intBin.eq_9)/\(type_of% @intBin.eq_10)/\(type_of% @intBin.eq_11)/\(type_of% @intBin.eq_12)/\(type_of% @intBin.eq_13)/\(type_of% @intBin.eq_14)/\(type_of% @sh_shl)/\(type_of% @sh_shr)/\(type_of% @sh_add)/\(type_of% @sh_sub)/\(type_of% @sh_mul)/\(type_of% @sh_quo)/\(type_of% @sh_rem)/\(type_of% @sh_and)/\(type_of% @sh_or)/\(type_of% @sh_xor)/\(type_of% @sh_eql)/\(type_of% @sh_neq)/\(type_of% @sh_lss)/\(type_of% @sh_leq)/\(type_of% @sh_gtr)/\(type_of% @sh_geq)/\(type_of% @unI.eq_1)/\(type_of% @unI.eq_2)/\(type_of% @fillI.eq_1)/\(type_of% @fillI.eq_2)/\(type_of% @cellV.eq_1)/\(type_of% @e_nilchk.eq_1)/\(type_of% @e_pick.eq_1)/\(type_of% @e_box.eq_1)/\(type_of% @e_bslice.eq_1)/\(type_of% @e_load.eq_1)/\(type_of% @e_store.eq_1)/\(type_of% @e_eqb.eq_1)/\(type_of% @e_eqp.eq_1)/\(type_of% @e_eqs.eq_1)/\(type_of% @e_eqagg.eq_1)/\(type_of% @e_conv.eq_1)/\(type_of% @e_faddr.eq_1)/\(type_of% @e_field.eq_1)/\(type_of% @e_extract.eq_1)/\(type_of% @e_call.eq_1)/\(type_of% @e_mx.eq_1)/\(type_of% @repl_0)/\(type_of% @repl_1)/\(type_of% @repl_2)/\(type_of% @repl_3)/\(type_of% @repl_4)/\(type_of% @repl_5)/\(type_of% @repl_6)/\(type_of% @scal_pc)/\(type_of% @eq_self.{1})/\(type_of% @cells_pc) :=
 ⟨@Wlk,@putS_len,@gp_eq,@gp_ne,@gq_eq,@gq_ne,@zh,@zd,@ne_eq.{1},@not_false_eq_true,@not_true_eq_false,@zcu.{0},@zc4.{0},@zda.{0},@zd9.{0},@List.all_nil.{0},@Bool.and_self,@Bool.and_true,@zds,@if_true.{1},@zci.{0},@zcc.{0},@zcq,@Nat.add_zero,@zcf,@and_self,@and_true,@true_and,@zc2.{0},@zcg.{0},@zb9.{0,0},@zcz.{0,0},@zch.{0,0},@zco,@if_false.{1},@zdc.{0,0},@zd5.{0,0},@Int.ofNat_lt,@decide_true,@decide_false,@beq_iff_eq.{0},@zcy.{0},@zce.{0},@zd7,@zdw,@mkAt.eq_1,@Go.Proofs.YtiiofgieclfikaaGreatDoor.look.eq_1,@mkv_ff,@mkv_tt,@binI.eq_1,@binI.eq_2,@intBin.eq_1,@intBin.eq_2,@intBin.eq_3,@intBin.eq_4,@intBin.eq_5,@intBin.eq_6,@intBin.eq_7,@intBin.eq_8,@intBin.eq_9,@intBin.eq_10,@intBin.eq_11,@intBin.eq_12,@intBin.eq_13,@intBin.eq_14,@sh_shl,@sh_shr,@sh_add,@sh_sub,@sh_mul,@sh_quo,@sh_rem,@sh_and,@sh_or,@sh_xor,@sh_eql,@sh_neq,@sh_lss,@sh_leq,@sh_gtr,@sh_geq,@unI.eq_1,@unI.eq_2,@fillI.eq_1,@fillI.eq_2,@cellV.eq_1,@e_nilchk.eq_1,@e_pick.eq_1,@e_box.eq_1,@e_bslice.eq_1,@e_load.eq_1,@e_store.eq_1,@e_eqb.eq_1,@e_eqp.eq_1,@e_eqs.eq_1,@e_eqagg.eq_1,@e_conv.eq_1,@e_faddr.eq_1,@e_field.eq_1,@e_extract.eq_1,@e_call.eq_1,@e_mx.eq_1,@repl_0,@repl_1,@repl_2,@repl_3,@repl_4,@repl_5,@repl_6,@scal_pc,@eq_self.{1},@cells_pc⟩
structure FamOK (S:ySM) (X:SF):Prop where
 ins:(∀ args,S X.ins args=none)/\Ftab X.ins=some (cIns X)
 sift:(∀ args,S X.sift args=none)/\Ftab X.sift=some (cSift X)
 heap:(∀ args,S X.heap args=none)/\Ftab X.heap=some (cHeap X)
 ord2:(∀ args,S X.ord2 args=none)/\Ftab X.ord2=some (cOrd2 X)
 med:(∀ args,S X.med args=none)/\Ftab X.med=some (cMed X)
 medA:(∀ args,S X.medA args=none)/\Ftab X.medA=some (cMedA X)
 rev:(∀ args,S X.rev args=none)/\Ftab X.rev=some (cRev X)
 piv:(∀ args,S X.piv args=none)/\Ftab X.piv=some (cPiv X)
 brk:(∀ args,S X.brk args=none)/\Ftab X.brk=some (cBrk X)
 parE:(∀ args,S X.parE args=none)/\Ftab X.parE=some (cParE X)
 part:(∀ args,S X.part args=none)/\Ftab X.part=some (cPart X)
 par:(∀ args,S X.par args=none)/\Ftab X.par=some (cPar X)
 pdq:(∀ args,S X.pdq args=none)/\Ftab X.pdq=some (cPdq X)
 sort:(∀ args,S X.sort args=none)/\Ftab X.sort=some (cSort X)
theorem L1:(type_of% @yH)/\(type_of% @rest_bk)/\(type_of% @rest_hide)/\(type_of% @zI)/\(type_of% @zdn.{0})/\(type_of% @gt_iff_lt.{0})/\(type_of% @ge_iff_le.{0})/\(type_of% @Int.ofNat_le) :=
 ⟨@yH,@rest_bk,@rest_hide,@zI,@zdn.{0},@gt_iff_lt.{0},@ge_iff_le.{0},@Int.ofNat_le⟩
theorem L2 {own0:yLO} {b:Nat} {α:Type} {g:α->List IV} {e:α->IV} {sz:Nat} {agg:Bool} (hb:b<own0.length) (hE:Elt g e sz agg):(∀ {c:List IV} {R:yLO},(Bk own0 b c++R)[b]?=some (.cells c))/\(∀ {c c':List IV} {R:yLO},(Bk own0 b c++R).set b (.cells c')=Bk own0 b c'++R)/\(∀ {c:List IV} {R:yLO} {vis:List Nat} {k:Nat},(hide vis (own0.length+k) (Bk own0 b c++R))[b]?=some (.cells c))/\(∀ x,(e x).cells=g x)/\(∀ x,(g x).length=sz)/\(∀ x,(g x).all IV.scalar=true)/\(∀ {xs:List α} {i:Nat} {x:α},i<xs.length->wrN (xs.flatMap g) (i*sz) (g x)=(xs.set i x).flatMap g)/\(∀ {xs:List α} {i:Nat},i<xs.length->i*sz+sz<=(xs.flatMap g).length) :=
 ⟨bk_get hb,bk_set hb,bk_hide hb,hE.cells,hE.len,hE.scal,hE.st,hE.fits⟩
def slotsOf:Nat->List IV->List (Nat × IV)
 | _,[]=>[]
 | k,x::xs=>(k,x)::slotsOf (k+1) xs
theorem V2:(type_of% @slotsOf.eq_1)/\(type_of% @slotsOf.eq_2)/\(type_of% @zd)/\(type_of% @zh)/\(type_of% @zcq):=⟨@slotsOf.eq_1,@slotsOf.eq_2,@zd,@zh,@zcq⟩
theorem V3:(type_of% @zd)/\(type_of% @zh)/\(type_of% @zg):=⟨@zd,@zh,@zg⟩
theorem gx {α:Type} {l:List α} {i:Nat} (h:i<l.length):∃ x,l[i]?=some x:=⟨_,zb7 h⟩
theorem yi:∀ {xs:List IV} {k:Nat} {p:Nat × IV},p∈slotsOf k xs->∃ j,p.1=k+j/\xs[j]?=some p.2
 | [],_,_,h=>by simp [slotsOf] at h
 | x::xs,k,p,h=>by
  simp only [slotsOf,zcx] at h
  rcases h with rfl | h
  ·exact ⟨0,rfl,rfl⟩
  ·obtain ⟨j,h1,h2⟩:=yi h
   exact ⟨j+1,by omega,h2⟩
def FinY (d:Nat) (out:yLM) (rs:List IRes) (Q:IV->List IObj->Prop) (o:Out) (st:St):Prop:=(o=.normal∨o=.ret)/\∃ v,resultI d out st rs=some v/\Q v st.own
section
variable {F:FuncId->Option IFn} {S:ySM} {d:Nat} {out:yLM} {rs:List IRes} {Q:IV->List IObj->Prop} {st:St}
theorem ze:FinY d out rs Q .ret st=∃ v,resultI d out st rs=some v/\Q v st.own:=propext ⟨fun h=>h.2,fun h=>⟨.inr rfl,h⟩⟩
theorem zr:FinY d out rs Q .normal st=∃ v,resultI d out st rs=some v/\Q v st.own:=propext ⟨fun h=>h.2,fun h=>⟨.inl rfl,h⟩⟩
theorem gives_y {f:FuncId} {i:IFn} {args:List IV} {m:Nat} {ownV own:yLO} (hS:S f args=none) (hi:F f=some i) (hm:i.mode=2)
  (h:Ex (callN F S m) d out m i.body (FinY d out i.res Q) ⟨args++List.replicate (i.ntmps - args.length) (.tuple []),own⟩):∃ v own',(∀ id,callN F S (m+1) d out ownV own id f args=some (.x,v,own'))/\Q v own':=by
 obtain ⟨o,st,h1,h2,v,h3,h4⟩:=h
 refine ⟨v,st.own,fun id=>?_,h4⟩
 simp only [callN,hS,hi,hm,if_true,zf,h1]
 rcases h2 with rfl | rfl <;> simp only [ended,h3,zb9]
end
theorem zt {F:FuncId->Option IFn} {S:ySM} {d:Nat} {out:yLM} {Q:IV->List IObj->Prop} {f:FuncId} {i:IFn} {args:List IV} {m:Nat} {ownV own:yLO} (hS:S f args=none) (hi:F f=some i) (hm:i.mode=2) (hl:args.length<=i.ntmps)
  (h:∀ t,Slots i.ntmps t (slotsOf 0 args)->Ex (callN F S m) d out m i.body (FinY d out i.res Q) ⟨t,own⟩):∃ v own',(∀ id,callN F S (m+1) d out ownV own id f args=some (.x,v,own'))/\Q v own':=by
 refine gives_y hS hi hm (h _ ⟨by simp; omega,fun p hp=>?_⟩)
 obtain ⟨j,h1,h2⟩:=yi hp
 rw [zH,zc6,h1,zcq,zb8 (zb6.1 h2).1,h2]
 rfl
theorem yx {k:Int} {n:Nat} (h:k=n) (hn:n<9223372036854775808):wrapI .i64 k=(n:Int):=by
 subst h
 exact (zC _ _).trans (IntWalk.i64_in _ (by constructor <;> omega))
theorem we {k:Int} {n:Nat} (h:k=n:=by omega) (hn:n<9223372036854775808:=by omega):wrapI .i64 k=(n:Int):=yx h hn
theorem Zp {k n:Int} (h:k=n) (h1:-9223372036854775808<=n) (h2:n<9223372036854775808):wrapI .i64 k=n:=by
 subst h
 exact (zC _ _).trans (IntWalk.i64_in _ (by constructor <;> omega))
theorem yP (x k:Nat) (hx:x<9223372036854775808):wrapI .i64 (Int.tdiv (x:Int) (k:Int))=((x / k:Nat):Int):=by
 rw [← Int.ofNat_tdiv]
 have:=Nat.div_le_self x k
 exact yx rfl (by omega)
section
variable {own0 J0 J1:yLO} {b:Nat} {c:List IV} {x y:IObj}
theorem zO:(Bk own0 b c++(J0++x::J1))[own0.length+J0.length]?=some x:=by
 rw [zcb (by rw [yH]; omega),yH,zdd,zcb (zcf _),zea]
 rfl
theorem zQ:(Bk own0 b c++(J0++x::J1)).set (own0.length+J0.length) y=Bk own0 b c++(J0++y::J1):=by
 rw [zdl _ _ (by rw [yH]; omega),yH,zdd,zdl _ _ (zcf _),zea]
 rfl
theorem zN {vis:List Nat} {k:Nat}:(hide vis (own0.length+(J0.length+(k+1))) (Bk own0 b c++(J0++x::J1)))[own0.length+J0.length]?=some x:=by
 rw [zB,zO]
 simp
end
def CmpOK {α:Type} (S:ySM) (N d:Nat) (out:yLM) (own0:yLO) (b:Nat) (e:α->IV) (gf:FuncId) (caps:List IV) (r:α->α->Int):Prop :=
 ∀ m,N<=m->∀ ownV own id x y,RestOf own0 b ownV->callN Ftab S m d out ownV own id gf (e x::e y::caps)=some (.r,.int .i64 (r x y),own)
end
section
def LessOK {α:Type} (S:ySM) (N:Nat) (e:α->IV) (r:α->α->Bool):Prop:=∀ m,N<=m->∀ d out ownV own id x y,callN Ftab S m d out ownV own id 133 [e x,e y]=some (.r,.bool (r x y),own)
theorem zj {S:ySM} {f:FuncId} {i:IFn} {args:List IV} {v:IV} (hS:S f args=none) (hi:Ftab f=some i) (hm:i.mode=0) (hl:args.length<=i.ntmps) (N:Nat) (hN:1<=N) (hv:Fz 1 v)
  (h:∀ m,N<=m->∀ d out t,Slots i.ntmps t (slotsOf 0 args)->Ex (callN Ftab S m) d out m i.body (Fin d out i.res v) ⟨t,[]⟩):∀ m,N+1<=m->∀ d out ownV own id,callN Ftab S m d out ownV own id f args=some (.r,v,own):=by
 intro m hm1 d out ownV own id
 obtain ⟨m,rfl⟩:∃ q,m=q+1:=⟨m - 1,by omega⟩
 obtain ⟨o,st,h1,h2,h3⟩:=h m (by omega) (d+1) (fun l=>if l=d then ownV else out l) (args++List.replicate (i.ntmps - args.length) (.tuple [])) ⟨by simp; omega,fun p hp=>by
  obtain ⟨j,h1,h2⟩:=yi hp
  rw [zH,zc6,h1,zcq,zb8 (zb6.1 h2).1,h2]
  rfl⟩
 have hm0:¬ (0=2):=by decide
 have hm00:¬ (0=3):=by decide
 have hf:freeze m (d+1) st.own v=some v:=hv m (by omega) _ _
 simp only [callN,hS,hi,hm,hm0,hm00,if_false,zf,h1]
 rcases h2 with rfl | rfl <;> simp [ended,h3,leave,hf]
theorem m3_args {S:ySM} {f:FuncId} {i:IFn} {args az:List IV} {m d:Nat} {out:yLM} {ownV own:yLO} {id:Nat} (h1:S f args=none) (h2:S f az=none) (hi:Ftab f=some i) (hm:i.mode=3) (ha:args.mapM (freezeA 12 d ownV)=az.mapM (freezeA 12 d ownV)):callN Ftab S m d out ownV own id f args=callN Ftab S m d out ownV own id f az:=by
 have h32:¬ (3=2):=by decide
 cases m with
 | zero=>rfl
 | succ m=>simp only [callN,h1,h2,hi,hm,if_neg h32,if_true,ha]
theorem gives_m03 {S:ySM} {f:FuncId} {i:IFn} {args:List IV} {v:IV} (hS:S f args=none) (hi:Ftab f=some i) (hm:i.mode=0∨i.mode=3) (hl:args.length<=i.ntmps) (N:Nat) (hN:1<=N) (hv:Fz 1 v) (hsc:∀ o,scalarR o v=some (.r,v,o)) (hc:∀ d own,args.mapM (freezeA 12 d own)=some args)
  (h:∀ m,N<=m->∀ d out t,Slots i.ntmps t (slotsOf 0 args)->Ex (callN Ftab S m) d out m i.body (Fin d out i.res v) ⟨t,[]⟩):∀ m,N+1<=m->∀ d out ownV own id,callN Ftab S m d out ownV own id f args=some (.r,v,own):=by
 rcases hm with hm | hm
 ·exact zj hS hi hm hl N hN hv h
 intro m hm1 d out ownV own id
 obtain ⟨m,rfl⟩:∃ q,m=q+1:=⟨m - 1,by omega⟩
 obtain ⟨o,st,h1,h2,h3⟩:=h m (by omega) 0 (fun _=>[]) (args++List.replicate (i.ntmps - args.length) (.tuple [])) ⟨by simp; omega,fun p hp=>by
  obtain ⟨j,h1,h2⟩:=yi hp
  rw [zH,zc6,h1,zcq,zb8 (zb6.1 h2).1,h2]
  rfl⟩
 have h32:¬ (3=2):=by decide
 simp only [callN,hS,hi,hm,if_neg h32,if_true,hc,zch,zf,h1]
 rcases h2 with rfl | rfl <;> simp [ended,h3,hsc]
theorem gives_nan {S:ySM} (hS:NoS S) (x:Int):∀ m,2<=m->∀ d out ownV own id,callN Ftab S m d out ownV own id 101 [.int .i64 x]=some (.r,.bool false,own):=by
 refine zj (i:=i101) (ns hS (by rfl)) rfl rfl (lb rfl) 1 (by omega) zx fun m hm d out t hfr=>?_
 simp only [V2,Nat.reduceAdd,i101] at hfr
 have hx:(x != x)=false:=by simp
 simp only [i101,V0,sevalprocAttr,hfr,hx]
theorem less_ok {S:ySM} (hS:NoS S):LessOK S 4 (fun x:Int=>.int .i64 x) (fun x y=>decide (x<y)):=by
 intro m hm d out ownV own id x y
 refine zj (i:=i133) (ns hS (by rfl)) rfl rfl (lb rfl) 3 (by omega) zx (fun m hm d out t hfr=>?_) m hm d out ownV own id
 simp only [V2,Nat.reduceAdd,i133] at hfr
 have h1:=fun x=>gives_nan hS x m (by omega)
 simp only [i133,V0,sevalprocAttr,hfr,h1]
end
section
section
variable {X:SF} {S:ySM} {α:Type} {g:α->List IV} {e:α->IV} {own0:yLO} {b d:Nat} {out:yLM} {n cp:Nat} {tg:Bool} {gf:FuncId} {caps:List IV} {r:α->α->Int} {Nc:Nat}
theorem x_ins (hFm:FamOK S X) (hS:NoS S) (hb:b<own0.length) (hE:Elt g e X.sz X.ag) (hc:CmpOK S Nc d out own0 b e gf caps r) (hn:n<65536) (m:Nat) (hm:Nc+n+8<=m) (ownV:yLO) (xs:List α) (J:yLO) (a c:Nat) (hl0:xs.length=n) (hac:a<=c) (hcn:c<=n) :
  ∃ (xs':List α) (J':yLO),(∀ id,callN Ftab S m d out ownV (Bk own0 b (xs.flatMap g)++J) id X.ins [.slM d b 0 n cp X.sz tg,.int .i64 (a:Int),.int .i64 (c:Int),.fn gf [] caps]=some (.x,.tuple [],Bk own0 b (xs'.flatMap g)++J'))/\xs'.Perm xs:=by
 obtain ⟨m,rfl⟩:∃ q,m=q+1:=⟨m - 1,by omega⟩
 have main:∃ v own',(∀ id,callN Ftab S (m+1) d out ownV (Bk own0 b (xs.flatMap g)++J) id X.ins [.slM d b 0 n cp X.sz tg,.int .i64 (a:Int),.int .i64 (c:Int),.fn gf [] caps]=some (.x,v,own'))/\(v=.tuple []/\∃ (xs':List α) (J':yLO),own'=Bk own0 b (xs'.flatMap g)++J'/\xs'.Perm xs):=by
  refine zt (i:=cIns X) (hFm.ins.1 _) hFm.ins.2 rfl (lb rfl) fun t hfr=>?_
  simp only [V2,Nat.reduceAdd,cIns] at hfr
  have hw:wrapI .i64 ((a:Int)+1)=((a+1:Nat):Int):=we
  simp only [cIns,V0,sevalprocAttr,hfr,hw]
  refine zb (fun jj st=>∃ (i:Nat) (ys:List α) (J1:yLO),jj=c - i/\a+1<=i/\ys.Perm xs/\st.own=Bk own0 b (ys.flatMap g)++J1/\Slots 53 st.t [(0,.slM d b 0 n cp X.sz tg),(1,iv a),(2,iv c),(3,.fn gf [] caps),(8,iv i)]) (c - (a+1)) (by omega) ⟨a+1,xs,J,rfl,by omega,zc9 _,rfl,by simp only [V0,sevalprocAttr,hfr]⟩ ?_
  rintro jj ⟨t,own⟩ KA ⟨i,ys,J1,hjj,hi,hp,ho,hfr⟩ hnA heA hrA
  dsimp only at ho hfr
  subst ho
  simp only [V3] at hfr
  have hly:ys.length=n:=hp.length_eq.trans hl0
  by_cases h:i<c
  ·have hwi:wrapI .i64 ((i:Int)+1)=((i+1:Nat):Int):=we
   simp only [V0,sevalprocAttr,hfr,h]
   refine zb (fun jj st=>∃ (k:Nat) (zs:List α) (J2:yLO),jj=k/\k<=i/\zs.Perm xs/\st.own=Bk own0 b (zs.flatMap g)++J2/\Slots 53 st.t [(0,.slM d b 0 n cp X.sz tg),(1,iv a),(2,iv c),(3,.fn gf [] caps),(8,iv i),(9,iv k)]) i (by omega) ⟨i,ys,J1,rfl,by omega,hp,rfl,by simp only [V0,sevalprocAttr,hfr]⟩ ?_
   rintro jj ⟨t,own⟩ KB ⟨k,zs,J2,hjj,hki,hp2,ho,hfr⟩ hnB heB hrB
   dsimp only at ho hfr
   subst ho
   simp only [V3] at hfr
   have hlz:zs.length=n:=hp2.length_eq.trans hl0
   by_cases h2:a<k
   ·have hwk:wrapI .i64 ((k:Int) - 1)=((k - 1:Nat):Int):=we
    have hkn:k<n:=by omega
    have hk1:k - 1<n:=by omega
    obtain ⟨x,hx⟩:=gx (l:=zs) (i:=k) (by omega)
    have lx:=hE.ld hx
    obtain ⟨y,hy⟩:=gx (l:=zs) (i:=k - 1) (by omega)
    have ly:=hE.ld hy
    have cc:=fun ownV own id=>hc m (by omega) ownV own id x y
    cases hlt:decide (r x y<0)
    ·simp only [V0,sevalprocAttr,hfr,L1,L2 hb hE,h2,hkn,hk1,hwk,hlz,lx,ly,cc,hlt]
     refine ⟨by simp [comm],?_⟩
     simp only [V0,sevalprocAttr,hfr]
     refine heB _ _ ?_
     simp only [V0,sevalprocAttr,hfr,hwi]
     exact hnA _ (c - (i+1)) (by omega) ⟨i+1,zs,_,rfl,by omega,hp2,rfl,by simp only [V0,sevalprocAttr,hfr]⟩
    ·simp only [V0,sevalprocAttr,hfr,L1,L2 hb hE,h2,hkn,hk1,hwk,hlz,lx,ly,cc,hlt]
     refine ⟨by simp [comm],?_⟩
     simp only [V0,sevalprocAttr,hfr,L1,L2 hb hE,h2,hkn,hk1,hwk,hlz,lx,ly]
     refine ⟨by simp [comm],?_⟩
     simp only [V0,sevalprocAttr,hfr,hwk]
     exact hnB _ (k - 1) (by omega) ⟨k - 1,_,_,rfl,by omega,(zm hx hy).trans hp2,rfl,by simp only [V0,sevalprocAttr,hfr]⟩
   ·simp only [V0,sevalprocAttr,hfr,h2,gt_iff_lt]
    refine ⟨by simp [comm],?_⟩
    simp only [V0,sevalprocAttr,hfr]
    refine heB _ _ ?_
    simp only [V0,sevalprocAttr,hfr,hwi]
    exact hnA _ (c - (i+1)) (by omega) ⟨i+1,zs,_,rfl,by omega,hp2,rfl,by simp only [V0,sevalprocAttr,hfr]⟩
  ·simp only [V0,sevalprocAttr,hfr,h]
   refine heA _ _ ?_
   simp only [V0,sevalprocAttr,hfr,zr,yk]
   exact ⟨_,rfl,rfl,ys,_,rfl,hp⟩
 obtain ⟨v,own',h1,rfl,xs',J',rfl,hp⟩:=main
 exact ⟨xs',J',h1,hp⟩
end
end
section
section
variable {X:SF} {S:ySM} {α:Type} {g:α->List IV} {e:α->IV} {own0:yLO} {b d:Nat} {out:yLM} {n cp:Nat} {tg:Bool} {gf:FuncId} {caps:List IV} {r:α->α->Int} {Nc:Nat}
theorem x_sift (hFm:FamOK S X) (hS:NoS S) (hb:b<own0.length) (hE:Elt g e X.sz X.ag) (hc:CmpOK S Nc d out own0 b e gf caps r) (hn:n<65536) (m:Nat) (hm:Nc+n+8<=m) (ownV:yLO) (xs:List α) (J:yLO) (zl:Int) (lo hi f:Nat) (hl0:xs.length=n) (hzl:zl=(lo:Int)) (hlo:lo<=n) (hhi:f+hi<=n) :
  ∃ (xs':List α) (J':yLO),(∀ id,callN Ftab S m d out ownV (Bk own0 b (xs.flatMap g)++J) id X.sift [.slM d b 0 n cp X.sz tg,.int .i64 zl,.int .i64 (hi:Int),.int .i64 (f:Int),.fn gf [] caps]=some (.x,.tuple [],Bk own0 b (xs'.flatMap g)++J'))/\xs'.Perm xs:=by
 obtain ⟨m,rfl⟩:∃ q,m=q+1:=⟨m - 1,by omega⟩
 have main:∃ v own',(∀ id,callN Ftab S (m+1) d out ownV (Bk own0 b (xs.flatMap g)++J) id X.sift [.slM d b 0 n cp X.sz tg,.int .i64 zl,.int .i64 (hi:Int),.int .i64 (f:Int),.fn gf [] caps]=some (.x,v,own'))/\(v=.tuple []/\∃ (xs':List α) (J':yLO),own'=Bk own0 b (xs'.flatMap g)++J'/\xs'.Perm xs):=by
  refine zt (i:=cSift X) (hFm.sift.1 _) hFm.sift.2 rfl (lb rfl) fun t hfr=>?_
  simp only [V2,Nat.reduceAdd,cSift] at hfr
  subst hzl
  simp only [cSift,V0,sevalprocAttr,hfr]
  refine zb (fun jj st=>∃ (q:Nat) (zs:List α) (J2:yLO),jj=hi - q/\q<=n/\zs.Perm xs/\st.own=Bk own0 b (zs.flatMap g)++J2/\Slots 82 st.t [(0,.slM d b 0 n cp X.sz tg),(1,iv lo),(2,iv hi),(3,iv f),(4,.fn gf [] caps),(10,iv q)]) (hi - lo) (by omega) ⟨lo,xs,J,rfl,hlo,zc9 _,rfl,by simp only [V0,sevalprocAttr,hfr]⟩ ?_
  rintro jj ⟨t,own⟩ KA ⟨q,zs,J2,hjj,hq,hp,ho,hfr⟩ hnA heA hrA
  dsimp only at ho hfr
  subst ho
  simp only [V3] at hfr
  have hlz:zs.length=n:=hp.length_eq.trans hl0
  have hm2:wrapI .i64 (2*(q:Int))=((2*q:Nat):Int):=we
  have hm3:wrapI .i64 (((2*q:Nat):Int)+1)=((2*q+1:Nat):Int):=we
  have hm4:wrapI .i64 (((2*q+1:Nat):Int)+1)=((2*q+1+1:Nat):Int):=we
  by_cases h:hi<=2*q+1
  ·simp only [V0,sevalprocAttr,hfr,L1,L2 hb hE,hm2,hm3,h]
   refine heA _ _ ?_
   simp only [V0,sevalprocAttr,hfr,zr,ze,yk]
   exact ⟨_,rfl,rfl,zs,_,rfl,hp⟩
  ·have hi1:wrapI .i64 ((f:Int)+((2*q+1:Nat):Int))=((f+(2*q+1):Nat):Int):=we
   have hi2:wrapI .i64 (((f+(2*q+1):Nat):Int)+1)=((f+(2*q+1)+1:Nat):Int):=we
   have hi3:wrapI .i64 ((f:Int)+(q:Int))=((f+q:Nat):Int):=we
   have hi4:wrapI .i64 ((f:Int)+((2*q+1+1:Nat):Int))=((f+(2*q+1+1):Nat):Int):=we
   have b1:f+(2*q+1)<n:=by omega
   have b3:f+q<n:=by omega
   by_cases h2:2*q+1+1<hi
   ·have b2:f+(2*q+1)+1<n:=by omega
    have b4:f+(2*q+1+1)<n:=by omega
    obtain ⟨x,hx⟩:=gx (l:=zs) (i:=f+(2*q+1)) (by omega)
    have lx:=hE.ld hx
    obtain ⟨y,hy⟩:=gx (l:=zs) (i:=f+(2*q+1)+1) (by omega)
    have ly:=hE.ld hy
    have cc:=fun ownV own id=>hc m (by omega) ownV own id x y
    cases hlt:decide (r x y<0)
    ·simp only [V0,sevalprocAttr,hfr,L1,L2 hb hE,hm2,hm3,hm4,h,hi1,hi2,b1,b2,h2,hlz,lx,ly,cc,hlt]
     refine ⟨by simp [comm],?_⟩
     simp only [V0,sevalprocAttr,hfr,L1,L2 hb hE,hi1,hi3]
     obtain ⟨u,hu⟩:=gx (l:=zs) (i:=f+q) (by omega)
     have lu:=hE.ld hu
     obtain ⟨w,hw⟩:=gx (l:=zs) (i:=f+(2*q+1)) (by omega)
     have lw:=hE.ld hw
     have cd:=fun ownV own id=>hc m (by omega) ownV own id u w
     cases hlt2:decide (r u w<0)
     ·simp only [V0,sevalprocAttr,hfr,L1,L2 hb hE,hi1,hi3,b1,b3,hlz,lu,lw,cd,hlt2]
      refine ⟨by simp [comm],?_⟩
      simp only [V0,sevalprocAttr,hfr]
      refine hrA _ ?_
      simp only [V0,sevalprocAttr,hfr,zr,ze,yk]
      exact ⟨_,rfl,rfl,zs,_,rfl,hp⟩
     ·simp only [V0,sevalprocAttr,hfr,L1,L2 hb hE,hi1,hi3,b1,b3,hlz,lu,lw,cd,hlt2]
      refine ⟨by simp [comm],?_⟩
      simp only [V0,sevalprocAttr,hfr,L1,L2 hb hE,hi1,hi3,b1,b3,hlz,lu,lw]
      refine ⟨by simp [comm],?_⟩
      simp only [V0,sevalprocAttr,hfr]
      exact hnA _ (hi - (2*q+1)) (by omega) ⟨2*q+1,_,_,rfl,by omega,(zm hu hw).trans hp,rfl,by simp only [V0,sevalprocAttr,hfr]⟩
    ·simp only [V0,sevalprocAttr,hfr,L1,L2 hb hE,hm2,hm3,hm4,h,hi1,hi2,b1,b2,h2,hlz,lx,ly,cc,hlt]
     refine ⟨by simp [comm],?_⟩
     simp only [V0,sevalprocAttr,hfr,L1,L2 hb hE,hm4,hi4,hi3]
     obtain ⟨u,hu⟩:=gx (l:=zs) (i:=f+q) (by omega)
     have lu:=hE.ld hu
     obtain ⟨w,hw⟩:=gx (l:=zs) (i:=f+(2*q+1+1)) (by omega)
     have lw:=hE.ld hw
     have cd:=fun ownV own id=>hc m (by omega) ownV own id u w
     cases hlt2:decide (r u w<0)
     ·simp only [V0,sevalprocAttr,hfr,L1,L2 hb hE,hi4,hi3,b4,b3,hlz,lu,lw,cd,hlt2]
      refine ⟨by simp [comm],?_⟩
      simp only [V0,sevalprocAttr,hfr]
      refine hrA _ ?_
      simp only [V0,sevalprocAttr,hfr,zr,ze,yk]
      exact ⟨_,rfl,rfl,zs,_,rfl,hp⟩
     ·simp only [V0,sevalprocAttr,hfr,L1,L2 hb hE,hi4,hi3,b4,b3,hlz,lu,lw,cd,hlt2]
      refine ⟨by simp [comm],?_⟩
      simp only [V0,sevalprocAttr,hfr,L1,L2 hb hE,hi4,hi3,b4,b3,hlz,lu,lw]
      refine ⟨by simp [comm],?_⟩
      simp only [V0,sevalprocAttr,hfr]
      exact hnA _ (hi - (2*q+1+1)) (by omega) ⟨2*q+1+1,_,_,rfl,by omega,(zm hu hw).trans hp,rfl,by simp only [V0,sevalprocAttr,hfr]⟩
   ·simp only [V0,sevalprocAttr,hfr,L1,L2 hb hE,hm2,hm3,hm4,h,h2]
    refine ⟨by simp [comm],?_⟩
    simp only [V0,sevalprocAttr,hfr,L1,L2 hb hE,hi1,hi3]
    obtain ⟨u,hu⟩:=gx (l:=zs) (i:=f+q) (by omega)
    have lu:=hE.ld hu
    obtain ⟨w,hw⟩:=gx (l:=zs) (i:=f+(2*q+1)) (by omega)
    have lw:=hE.ld hw
    have cd:=fun ownV own id=>hc m (by omega) ownV own id u w
    cases hlt2:decide (r u w<0)
    ·simp only [V0,sevalprocAttr,hfr,L1,L2 hb hE,hi1,hi3,b1,b3,hlz,lu,lw,cd,hlt2]
     refine ⟨by simp [comm],?_⟩
     simp only [V0,sevalprocAttr,hfr]
     refine hrA _ ?_
     simp only [V0,sevalprocAttr,hfr,zr,ze,yk]
     exact ⟨_,rfl,rfl,zs,_,rfl,hp⟩
    ·simp only [V0,sevalprocAttr,hfr,L1,L2 hb hE,hi1,hi3,b1,b3,hlz,lu,lw,cd,hlt2]
     refine ⟨by simp [comm],?_⟩
     simp only [V0,sevalprocAttr,hfr,L1,L2 hb hE,hi1,hi3,b1,b3,hlz,lu,lw]
     refine ⟨by simp [comm],?_⟩
     simp only [V0,sevalprocAttr,hfr]
     exact hnA _ (hi - (2*q+1)) (by omega) ⟨2*q+1,_,_,rfl,by omega,(zm hu hw).trans hp,rfl,by simp only [V0,sevalprocAttr,hfr]⟩
 obtain ⟨v,own',h1,rfl,xs',J',rfl,hp⟩:=main
 exact ⟨xs',J',h1,hp⟩
end
end
section
section
variable {X:SF} {S:ySM} {α:Type} {g:α->List IV} {e:α->IV} {own0:yLO} {b d:Nat} {out:yLM} {n cp:Nat} {tg:Bool} {gf:FuncId} {caps:List IV} {r:α->α->Int} {Nc:Nat}
theorem x_heap (hFm:FamOK S X) (hS:NoS S) (hb:b<own0.length) (hE:Elt g e X.sz X.ag) (hc:CmpOK S Nc d out own0 b e gf caps r) (hn:n<65536) (m:Nat) (hm:Nc+n+12<=m) (ownV:yLO) (xs:List α) (J:yLO) (a c:Nat) (hl0:xs.length=n) (hac:a<c) (hcn:c<=n) :
  ∃ (xs':List α) (J':yLO),(∀ id,callN Ftab S m d out ownV (Bk own0 b (xs.flatMap g)++J) id X.heap [.slM d b 0 n cp X.sz tg,.int .i64 (a:Int),.int .i64 (c:Int),.fn gf [] caps]=some (.x,.tuple [],Bk own0 b (xs'.flatMap g)++J'))/\xs'.Perm xs:=by
 obtain ⟨m,rfl⟩:∃ q,m=q+1:=⟨m - 1,by omega⟩
 have main:∃ v own',(∀ id,callN Ftab S (m+1) d out ownV (Bk own0 b (xs.flatMap g)++J) id X.heap [.slM d b 0 n cp X.sz tg,.int .i64 (a:Int),.int .i64 (c:Int),.fn gf [] caps]=some (.x,v,own'))/\(v=.tuple []/\∃ (xs':List α) (J':yLO),own'=Bk own0 b (xs'.flatMap g)++J'/\xs'.Perm xs):=by
  refine zt (i:=cHeap X) (hFm.heap.1 _) hFm.heap.2 rfl (lb rfl) fun t hfr=>?_
  simp only [V2,Nat.reduceAdd,cHeap] at hfr
  have e1:wrapI .i64 ((c:Int) - (a:Int))=((c - a:Nat):Int):=we
  have e2:wrapI .i64 (((c - a:Nat):Int) - 1)=((c - a - 1:Nat):Int):=we
  have e3:wrapI .i64 (Int.tdiv ((c - a - 1:Nat):Int) 2)=(((c - a - 1) / 2:Nat):Int):=yP _ 2 (by omega)
  have e0:((2:Int)=0)=False:=eq_false (by decide)
  simp only [cHeap,V0,sevalprocAttr,hfr,e1,e2,e3,e0]
  refine zb (fun jj st=>∃ (i:Nat) (z:Int) (ys:List α) (J1:yLO),jj=i/\z=(i:Int) - 1/\i<=(c - a - 1) / 2+1/\ys.Perm xs/\st.own=Bk own0 b (ys.flatMap g)++J1/\Slots 60 st.t [(0,.slM d b 0 n cp X.sz tg),(1,iv a),(2,iv c),(3,.fn gf [] caps),(8,iv a),(9,.int .i64 0),(10,iv (c - a:Nat)),(11,iv z)]) ((c - a - 1) / 2+1) (by omega) ⟨(c - a - 1) / 2+1,_,xs,J,rfl,(by omega:(((c - a - 1) / 2:Nat):Int)=(((c - a - 1) / 2+1:Nat):Int) - 1),by omega,zc9 _,rfl,by simp only [V0,sevalprocAttr,hfr]⟩ ?_
  rintro jj ⟨t,own⟩ KA ⟨i,z,ys,J1,hjj,hz,hi,hp,ho,hfr⟩ hnA heA hrA
  dsimp only at ho hfr
  subst ho
  simp only [V3] at hfr
  have hly:ys.length=n:=hp.length_eq.trans hl0
  by_cases h:0<=z
  ·obtain ⟨k,rfl⟩:∃ k:Nat,z=(k:Int):=⟨z.toNat,by omega⟩
   have hw:wrapI .i64 ((k:Int) - 1)=(k:Int) - 1:=Zp rfl (by omega) (by omega)
   obtain ⟨ys',J1',hs,hp'⟩:=x_sift (cp:=cp) (tg:=tg) (d:=d) (out:=out) hFm hS hb hE hc hn m (by omega) (Bk own0 b (ys.flatMap g)++(J1++[.free])) ys (J1++[.free]) (k:Int) k (c - a) a hly rfl (by omega) (by omega)
   simp only [V0,sevalprocAttr,hfr,L1,L2 hb hE,h,hs,hw]
   exact hnA _ k (by omega) ⟨k,_,ys',_,rfl,rfl,by omega,hp'.trans hp,rfl,by simp only [V0,sevalprocAttr,hfr]⟩
  ·simp only [V0,sevalprocAttr,hfr,L1,L2 hb hE,h]
   refine heA _ _ ?_
   simp only [V0,sevalprocAttr,hfr,e2]
   refine zb (fun jj st=>∃ (i:Nat) (z:Int) (ys:List α) (J1:yLO),jj=i/\z=(i:Int) - 1/\i<=c - a/\ys.Perm xs/\st.own=Bk own0 b (ys.flatMap g)++J1/\Slots 60 st.t [(0,.slM d b 0 n cp X.sz tg),(1,iv a),(2,iv c),(3,.fn gf [] caps),(8,iv a),(9,.int .i64 0),(10,iv (c - a:Nat)),(12,iv z)]) (c - a) (by omega) ⟨c - a,_,ys,J1,rfl,(by omega:((c - a - 1:Nat):Int)=((c - a:Nat):Int) - 1),by omega,hp,rfl,by simp only [V0,sevalprocAttr,hfr]⟩ ?_
   clear hly hp
   rintro jj ⟨t,own⟩ KB ⟨i,z,ys,J1,hjj,hz,hi,hp,ho,hfr⟩ hnB heB hrB
   dsimp only at ho hfr
   subst ho
   simp only [V3] at hfr
   have hly:ys.length=n:=hp.length_eq.trans hl0
   by_cases h:0<=z
   ·obtain ⟨k,rfl⟩:∃ k:Nat,z=(k:Int):=⟨z.toNat,by omega⟩
    have hw:wrapI .i64 ((k:Int) - 1)=(k:Int) - 1:=Zp rfl (by omega) (by omega)
    have hw2:wrapI .i64 ((a:Int)+(k:Int))=((a+k:Nat):Int):=we
    have b1:a<n:=by omega
    have b2:a+k<n:=by omega
    obtain ⟨x,hx⟩:=gx (l:=ys) (i:=a) (by omega)
    have lx:=hE.ld hx
    obtain ⟨y,hy⟩:=gx (l:=ys) (i:=a+k) (by omega)
    have ly:=hE.ld hy
    obtain ⟨ys',J1',hs,hp'⟩:=x_sift (cp:=cp) (tg:=tg) (d:=d) (out:=out) hFm hS hb hE hc hn m (by omega) (Bk own0 b (((ys.set a y).set (a+k) x).flatMap g)++(J1++[.free])) ((ys.set a y).set (a+k) x) (J1++[.free]) 0 0 k a (by simp [hly]) rfl (by omega) (by omega)
    simp only [V0,sevalprocAttr,hfr,L1,L2 hb hE,h,hw2,b1,b2,hly,lx,ly]
    refine ⟨by simp [comm],?_⟩
    simp only [V0,sevalprocAttr,hfr,L1,L2 hb hE,hs,hw]
    exact hnB _ k (by omega) ⟨k,_,ys',_,rfl,rfl,by omega,(hp'.trans (zm hx hy)).trans hp,rfl,by simp only [V0,sevalprocAttr,hfr]⟩
   ·simp only [V0,sevalprocAttr,hfr,L1,L2 hb hE,h]
    refine heB _ _ ?_
    simp only [V0,sevalprocAttr,hfr,zr,ze,yk]
    exact ⟨_,rfl,rfl,ys,_,rfl,hp⟩
 obtain ⟨v,own',h1,rfl,xs',J',rfl,hp⟩:=main
 exact ⟨xs',J',h1,hp⟩
end
end
section
section
variable {X:SF} {S:ySM} {α:Type} {g:α->List IV} {e:α->IV} {own0:yLO} {b d:Nat} {out:yLM} {n cp:Nat} {tg:Bool} {gf:FuncId} {caps:List IV} {r:α->α->Int} {Nc:Nat}
theorem x_ord2 (hFm:FamOK S X) (hS:NoS S) (hb:b<own0.length) (hE:Elt g e X.sz X.ag) (hc:CmpOK S Nc d out own0 b e gf caps r) (hn:n<65536) (m:Nat) (hm:Nc+4<=m) (xs:List α) (J0 J:yLO) (z:Int) (i j:Nat) (hl0:xs.length=n) (hi:i<n) (hj:j<n) :
  ∃ (z':Int) (J':yLO) (p q:Nat),(∀ id,callN Ftab S m d out (Bk own0 b (xs.flatMap g)++(J0++.cells [.int .i64 z]::J)) (Bk own0 b (xs.flatMap g)++(J0++.cells [.int .i64 z]::J)) id X.ord2 [.slM d b 0 n cp X.sz tg,.int .i64 (i:Int),.int .i64 (j:Int),.ptrM d (own0.length+J0.length) 0,.fn gf [] caps]=some (.x,.tuple [.int .i64 (p:Int),.int .i64 (q:Int)],Bk own0 b (xs.flatMap g)++(J0++.cells [.int .i64 z']::J')))/\(p=i/\q=j∨p=j/\q=i):=by
 obtain ⟨m,rfl⟩:∃ q,m=q+1:=⟨m - 1,by omega⟩
 have main:∃ v own',(∀ id,callN Ftab S (m+1) d out (Bk own0 b (xs.flatMap g)++(J0++.cells [.int .i64 z]::J)) (Bk own0 b (xs.flatMap g)++(J0++.cells [.int .i64 z]::J)) id X.ord2 [.slM d b 0 n cp X.sz tg,.int .i64 (i:Int),.int .i64 (j:Int),.ptrM d (own0.length+J0.length) 0,.fn gf [] caps]=some (.x,v,own'))/\(∃ (z':Int) (J':yLO) (p q:Nat),v=.tuple [.int .i64 (p:Int),.int .i64 (q:Int)]/\own'=Bk own0 b (xs.flatMap g)++(J0++.cells [.int .i64 z']::J')/\(p=i/\q=j∨p=j/\q=i)):=by
  refine zt (i:=cOrd2 X) (hFm.ord2.1 _) hFm.ord2.2 rfl (lb rfl) fun t hfr=>?_
  simp only [V2,Nat.reduceAdd,cOrd2] at hfr
  obtain ⟨x,hx⟩:=gx (l:=xs) (i:=j) (by omega)
  have lx:=hE.ld hx
  obtain ⟨y,hy⟩:=gx (l:=xs) (i:=i) (by omega)
  have ly:=hE.ld hy
  have cc:=fun ownV own id=>hc m (by omega) ownV own id x y
  cases hlt:decide (r x y<0)
  ·simp only [cOrd2,V0,sevalprocAttr,hfr,L1,L2 hb hE,zO,zQ,zN,hi,hj,hl0,lx,ly,cc,hlt]
   refine ⟨by simp [comm],?_⟩
   simp only [V0,sevalprocAttr,hfr,L1,L2 hb hE,ze]
   exact ⟨_,rfl,z,_,i,j,rfl,rfl,.inl ⟨rfl,rfl⟩⟩
  ·simp only [cOrd2,V0,sevalprocAttr,hfr,L1,L2 hb hE,zO,zQ,zN,hi,hj,hl0,lx,ly,cc,hlt]
   refine ⟨by simp [comm],?_⟩
   simp only [V0,sevalprocAttr,hfr,L1,L2 hb hE,zO,zQ,zN,ze]
   exact ⟨_,rfl,_,_,j,i,rfl,rfl,.inr ⟨rfl,rfl⟩⟩
 obtain ⟨v,own',h1,z',J',p,q,rfl,rfl,h2⟩:=main
 exact ⟨z',J',p,q,h1,h2⟩
theorem x_med (hFm:FamOK S X) (hS:NoS S) (hb:b<own0.length) (hE:Elt g e X.sz X.ag) (hc:CmpOK S Nc d out own0 b e gf caps r) (hn:n<65536) (m:Nat) (hm:Nc+6<=m) (xs:List α) (J0 J:yLO) (z:Int) (i j k:Nat) (hl0:xs.length=n) (hi:i<n) (hj:j<n) (hkn:k<n) :
  ∃ (z':Int) (J':yLO) (p:Nat),(∀ id,callN Ftab S m d out (Bk own0 b (xs.flatMap g)++(J0++.cells [.int .i64 z]::J)) (Bk own0 b (xs.flatMap g)++(J0++.cells [.int .i64 z]::J)) id X.med [.slM d b 0 n cp X.sz tg,.int .i64 (i:Int),.int .i64 (j:Int),.int .i64 (k:Int),.ptrM d (own0.length+J0.length) 0,.fn gf [] caps]=some (.x,.int .i64 (p:Int),Bk own0 b (xs.flatMap g)++(J0++.cells [.int .i64 z']::J')))/\(p=i∨p=j∨p=k):=by
 obtain ⟨m,rfl⟩:∃ q,m=q+1:=⟨m - 1,by omega⟩
 have main:∃ v own',(∀ id,callN Ftab S (m+1) d out (Bk own0 b (xs.flatMap g)++(J0++.cells [.int .i64 z]::J)) (Bk own0 b (xs.flatMap g)++(J0++.cells [.int .i64 z]::J)) id X.med [.slM d b 0 n cp X.sz tg,.int .i64 (i:Int),.int .i64 (j:Int),.int .i64 (k:Int),.ptrM d (own0.length+J0.length) 0,.fn gf [] caps]=some (.x,v,own'))/\(∃ (z':Int) (J':yLO) (p:Nat),v=.int .i64 (p:Int)/\own'=Bk own0 b (xs.flatMap g)++(J0++.cells [.int .i64 z']::J')/\(p=i∨p=j∨p=k)):=by
  refine zt (i:=cMed X) (hFm.med.1 _) hFm.med.2 rfl (lb rfl) fun t hfr=>?_
  simp only [V2,Nat.reduceAdd,cMed] at hfr
  obtain ⟨z1,J1,p1,q1,h1,g1⟩:=x_ord2 (cp:=cp) (tg:=tg) (d:=d) (out:=out) hFm hS hb hE hc hn m (by omega) xs J0 (J++[.free]) z i j hl0 hi hj
  obtain ⟨z2,J2,p2,q2,h2,g2⟩:=x_ord2 (cp:=cp) (tg:=tg) (d:=d) (out:=out) hFm hS hb hE hc hn m (by omega) xs J0 (J1++[.free]) z1 q1 k hl0 (by omega) hkn
  obtain ⟨z3,J3,p3,q3,h3,g3⟩:=x_ord2 (cp:=cp) (tg:=tg) (d:=d) (out:=out) hFm hS hb hE hc hn m (by omega) xs J0 (J2++[.free]) z2 p1 p2 hl0 (by omega) (by omega)
  simp only [cMed,V0,sevalprocAttr,hfr,L1,L2 hb hE,zO,zQ,zN,h1,h2,h3,ze]
  exact ⟨_,rfl,z3,_,q3,rfl,rfl,by omega⟩
 obtain ⟨v,own',h1,z',J',p,rfl,rfl,h2⟩:=main
 exact ⟨z',J',p,h1,h2⟩
theorem x_medA (hFm:FamOK S X) (hS:NoS S) (hb:b<own0.length) (hE:Elt g e X.sz X.ag) (hc:CmpOK S Nc d out own0 b e gf caps r) (hn:n<65536) (m:Nat) (hm:Nc+8<=m) (xs:List α) (J0 J:yLO) (z:Int) (i:Nat) (hl0:xs.length=n) (h0:0<i) (hi:i+1<n) :
  ∃ (z':Int) (J':yLO) (p:Nat),(∀ id,callN Ftab S m d out (Bk own0 b (xs.flatMap g)++(J0++.cells [.int .i64 z]::J)) (Bk own0 b (xs.flatMap g)++(J0++.cells [.int .i64 z]::J)) id X.medA [.slM d b 0 n cp X.sz tg,.int .i64 (i:Int),.ptrM d (own0.length+J0.length) 0,.fn gf [] caps]=some (.x,.int .i64 (p:Int),Bk own0 b (xs.flatMap g)++(J0++.cells [.int .i64 z']::J')))/\(p+1=i∨p=i∨p=i+1):=by
 obtain ⟨m,rfl⟩:∃ q,m=q+1:=⟨m - 1,by omega⟩
 have main:∃ v own',(∀ id,callN Ftab S (m+1) d out (Bk own0 b (xs.flatMap g)++(J0++.cells [.int .i64 z]::J)) (Bk own0 b (xs.flatMap g)++(J0++.cells [.int .i64 z]::J)) id X.medA [.slM d b 0 n cp X.sz tg,.int .i64 (i:Int),.ptrM d (own0.length+J0.length) 0,.fn gf [] caps]=some (.x,v,own'))/\(∃ (z':Int) (J':yLO) (p:Nat),v=.int .i64 (p:Int)/\own'=Bk own0 b (xs.flatMap g)++(J0++.cells [.int .i64 z']::J')/\(p+1=i∨p=i∨p=i+1)):=by
  refine zt (i:=cMedA X) (hFm.medA.1 _) hFm.medA.2 rfl (lb rfl) fun t hfr=>?_
  simp only [V2,Nat.reduceAdd,cMedA] at hfr
  have e1:wrapI .i64 ((i:Int) - 1)=((i - 1:Nat):Int):=we
  have e2:wrapI .i64 ((i:Int)+1)=((i+1:Nat):Int):=we
  obtain ⟨z1,J1,p1,h1,g1⟩:=x_med (cp:=cp) (tg:=tg) (d:=d) (out:=out) hFm hS hb hE hc hn m (by omega) xs J0 (J++[.free]) z (i - 1) i (i+1) hl0 (by omega) (by omega) hi
  simp only [cMedA,V0,sevalprocAttr,hfr,L1,L2 hb hE,e1,e2,h1,ze]
  exact ⟨_,rfl,z1,_,p1,rfl,rfl,by omega⟩
 obtain ⟨v,own',h1,z',J',p,rfl,rfl,h2⟩:=main
 exact ⟨z',J',p,h1,h2⟩
theorem x_rev (hFm:FamOK S X) (hS:NoS S) (hb:b<own0.length) (hE:Elt g e X.sz X.ag) (hc:CmpOK S Nc d out own0 b e gf caps r) (hn:n<65536) (m:Nat) (hm:Nc+n+8<=m) (ownV:yLO) (xs:List α) (J:yLO) (a c:Nat) (hl0:xs.length=n) (hac:a<c) (hcn:c<=n) :
  ∃ (xs':List α) (J':yLO),(∀ id,callN Ftab S m d out ownV (Bk own0 b (xs.flatMap g)++J) id X.rev [.slM d b 0 n cp X.sz tg,.int .i64 (a:Int),.int .i64 (c:Int),.fn gf [] caps]=some (.x,.tuple [],Bk own0 b (xs'.flatMap g)++J'))/\xs'.Perm xs:=by
 obtain ⟨m,rfl⟩:∃ q,m=q+1:=⟨m - 1,by omega⟩
 have main:∃ v own',(∀ id,callN Ftab S (m+1) d out ownV (Bk own0 b (xs.flatMap g)++J) id X.rev [.slM d b 0 n cp X.sz tg,.int .i64 (a:Int),.int .i64 (c:Int),.fn gf [] caps]=some (.x,v,own'))/\(v=.tuple []/\∃ (xs':List α) (J':yLO),own'=Bk own0 b (xs'.flatMap g)++J'/\xs'.Perm xs):=by
  refine zt (i:=cRev X) (hFm.rev.1 _) hFm.rev.2 rfl (lb rfl) fun t hfr=>?_
  simp only [V2,Nat.reduceAdd,cRev] at hfr
  have e1:wrapI .i64 ((c:Int) - 1)=((c - 1:Nat):Int):=we
  simp only [cRev,V0,sevalprocAttr,hfr,e1]
  refine zb (fun jj st=>∃ (i:Nat) (j:Nat) (ys:List α) (J1:yLO),jj=j - i/\j<c/\ys.Perm xs/\st.own=Bk own0 b (ys.flatMap g)++J1/\Slots 34 st.t [(0,.slM d b 0 n cp X.sz tg),(8,iv i),(9,iv j)]) (c - 1 - a) (by omega) ⟨a,c - 1,xs,J,rfl,by omega,zc9 _,rfl,by simp only [V0,sevalprocAttr,hfr]⟩ ?_
  rintro jj ⟨t,own⟩ KA ⟨i,j,ys,J1,hjj,hj,hp,ho,hfr⟩ hnA heA hrA
  dsimp only at ho hfr
  subst ho
  simp only [V3] at hfr
  have hly:ys.length=n:=hp.length_eq.trans hl0
  by_cases h:i<j
  ·have hi:i<n:=by omega
   have hjn:j<n:=by omega
   have e2:wrapI .i64 ((i:Int)+1)=((i+1:Nat):Int):=we
   have e3:wrapI .i64 ((j:Int) - 1)=((j - 1:Nat):Int):=we
   obtain ⟨x,hx⟩:=gx (l:=ys) (i:=i) (by omega)
   have lx:=hE.ld hx
   obtain ⟨y,hy⟩:=gx (l:=ys) (i:=j) (by omega)
   have ly:=hE.ld hy
   simp only [V0,sevalprocAttr,hfr,L1,L2 hb hE,h,hi,hjn,hly,lx,ly]
   refine ⟨by simp [comm],?_⟩
   simp only [V0,sevalprocAttr,hfr,e2,e3]
   exact hnA _ (j - 1 - (i+1)) (by omega) ⟨i+1,j - 1,_,_,rfl,by omega,(zm hx hy).trans hp,rfl,by simp only [V0,sevalprocAttr,hfr]⟩
  ·simp only [V0,sevalprocAttr,hfr,h]
   refine heA _ _ ?_
   simp only [V0,sevalprocAttr,hfr,zr,ze,yk]
   exact ⟨_,rfl,rfl,ys,_,rfl,hp⟩
 obtain ⟨v,own',h1,rfl,xs',J',rfl,hp⟩:=main
 exact ⟨xs',J',h1,hp⟩
end
end
section
section
variable {X:SF} {S:ySM} {α:Type} {g:α->List IV} {e:α->IV} {own0:yLO} {b d:Nat} {out:yLM} {n cp:Nat} {tg:Bool} {gf:FuncId} {caps:List IV} {r:α->α->Int} {Nc:Nat}
theorem x_piv (hFm:FamOK S X) (hS:NoS S) (hb:b<own0.length) (hE:Elt g e X.sz X.ag) (hc:CmpOK S Nc d out own0 b e gf caps r) (hn:n<65536) (m:Nat) (hm:Nc+12<=m) (ownV:yLO) (xs:List α) (J:yLO) (a c:Nat) (hl0:xs.length=n) (hac:a+12<c) (hcn:c<=n) :
  ∃ (xs':List α) (J':yLO) (p:Nat) (w:Int),(∀ id,callN Ftab S m d out ownV (Bk own0 b (xs.flatMap g)++J) id X.piv [.slM d b 0 n cp X.sz tg,.int .i64 (a:Int),.int .i64 (c:Int),.fn gf [] caps]=some (.x,.tuple [.int .i64 (p:Int),.int .i64 w],Bk own0 b (xs'.flatMap g)++J'))/\xs'.Perm xs/\a<=p/\p<c:=by
 obtain ⟨m,rfl⟩:∃ q,m=q+1:=⟨m - 1,by omega⟩
 have main:∃ v own',(∀ id,callN Ftab S (m+1) d out ownV (Bk own0 b (xs.flatMap g)++J) id X.piv [.slM d b 0 n cp X.sz tg,.int .i64 (a:Int),.int .i64 (c:Int),.fn gf [] caps]=some (.x,v,own'))/\(∃ (xs':List α) (J':yLO) (p:Nat) (w:Int),v=.tuple [.int .i64 (p:Int),.int .i64 w]/\own'=Bk own0 b (xs'.flatMap g)++J'/\xs'.Perm xs/\a<=p/\p<c):=by
  refine zt (i:=cPiv X) (hFm.piv.1 _) hFm.piv.2 rfl (lb rfl) fun t hfr=>?_
  simp only [V2,Nat.reduceAdd,cPiv] at hfr
  have e1:wrapI .i64 ((c:Int) - (a:Int))=((c - a:Nat):Int):=we
  have e2:wrapI .i64 (Int.tdiv ((c - a:Nat):Int) 4)=(((c - a) / 4:Nat):Int):=yP _ 4 (by omega)
  have e0:((4:Int)=0)=False:=eq_false (by decide)
  have hL1:4*((c - a) / 4)<=c - a:=Nat.mul_div_le _ _
  have hL2:3<=(c - a) / 4:=by omega
  generalize (c - a) / 4=L at e2 hL1 hL2
  have m1:wrapI .i64 ((L:Int)*1)=((L*1:Nat):Int):=we
  have m2:wrapI .i64 ((L:Int)*2)=((L*2:Nat):Int):=we
  have m3:wrapI .i64 ((L:Int)*3)=((L*3:Nat):Int):=we
  have a1:wrapI .i64 ((a:Int)+((L*1:Nat):Int))=((a+L*1:Nat):Int):=we
  have a2:wrapI .i64 ((a:Int)+((L*2:Nat):Int))=((a+L*2:Nat):Int):=we
  have a3:wrapI .i64 ((a:Int)+((L*3:Nat):Int))=((a+L*3:Nat):Int):=we
  have h8:(8:Int)<=((c - a:Nat):Int):=by omega
  by_cases h50:(50:Int)<=((c - a:Nat):Int)
  ·obtain ⟨z1,J1,p1,h1,g1⟩:=x_medA (cp:=cp) (tg:=tg) (d:=d) (out:=out) hFm hS hb hE hc hn m (by omega) xs J [.free] 0 (a+L*1) hl0 (by omega) (by omega)
   obtain ⟨z2,J2,p2,h2,g2⟩:=x_medA (cp:=cp) (tg:=tg) (d:=d) (out:=out) hFm hS hb hE hc hn m (by omega) xs J (J1++[.free]) z1 (a+L*2) hl0 (by omega) (by omega)
   obtain ⟨z3,J3,p3,h3,g3⟩:=x_medA (cp:=cp) (tg:=tg) (d:=d) (out:=out) hFm hS hb hE hc hn m (by omega) xs J (J2++[.free]) z2 (a+L*3) hl0 (by omega) (by omega)
   obtain ⟨z4,J4,p4,h4,g4⟩:=x_med (cp:=cp) (tg:=tg) (d:=d) (out:=out) hFm hS hb hE hc hn m (by omega) xs J (J3++[.free]) z3 p1 p2 p3 hl0 (by omega) (by omega) (by omega)
   have hp:a<=p4/\p4<c:=by omega
   simp only [cPiv,V0,sevalprocAttr,hfr,L1,L2 hb hE,e0,e1,e2,m1,m2,m3,a1,a2,a3,zO,zQ,h8,h50,h1,h2,h3,h4]
   cases hz0:z4==0
   ·cases hz1:z4==12
    ·simp only [V0,sevalprocAttr,hfr,hz0,hz1,ze]
     exact ⟨_,rfl,xs,_,p4,_,rfl,rfl,zc9 _,hp⟩
    ·simp only [V0,sevalprocAttr,hfr,hz0,hz1,ze]
     exact ⟨_,rfl,xs,_,p4,_,rfl,rfl,zc9 _,hp⟩
   ·simp only [V0,sevalprocAttr,hfr,hz0,ze]
    exact ⟨_,rfl,xs,_,p4,_,rfl,rfl,zc9 _,hp⟩
  ·obtain ⟨z4,J4,p4,h4,g4⟩:=x_med (cp:=cp) (tg:=tg) (d:=d) (out:=out) hFm hS hb hE hc hn m (by omega) xs J [.free] 0 (a+L*1) (a+L*2) (a+L*3) hl0 (by omega) (by omega) (by omega)
   have hp:a<=p4/\p4<c:=by omega
   simp only [cPiv,V0,sevalprocAttr,hfr,L1,L2 hb hE,e0,e1,e2,m1,m2,m3,a1,a2,a3,zO,zQ,h8,h50,h4]
   cases hz0:z4==0
   ·cases hz1:z4==12
    ·simp only [V0,sevalprocAttr,hfr,hz0,hz1,ze]
     exact ⟨_,rfl,xs,_,p4,_,rfl,rfl,zc9 _,hp⟩
    ·simp only [V0,sevalprocAttr,hfr,hz0,hz1,ze]
     exact ⟨_,rfl,xs,_,p4,_,rfl,rfl,zc9 _,hp⟩
   ·simp only [V0,sevalprocAttr,hfr,hz0,ze]
    exact ⟨_,rfl,xs,_,p4,_,rfl,rfl,zc9 _,hp⟩
 obtain ⟨v,own',h1,xs',J',p,w,rfl,rfl,h2⟩:=main
 exact ⟨xs',J',p,w,h1,h2⟩
end
end
section
section
variable {X:SF} {S:ySM} {α:Type} {g:α->List IV} {e:α->IV} {own0:yLO} {b d:Nat} {out:yLM} {n cp:Nat} {tg:Bool} {gf:FuncId} {caps:List IV} {r:α->α->Int} {Nc:Nat}
theorem x_parE (hFm:FamOK S X) (hS:NoS S) (hb:b<own0.length) (hE:Elt g e X.sz X.ag) (hc:CmpOK S Nc d out own0 b e gf caps r) (hn:n<65536) (m:Nat) (hm:Nc+n+12<=m) (ownV:yLO) (xs:List α) (J:yLO) (a c p:Nat) (hl0:xs.length=n) (hap:a<=p) (hpc:p<c) (hcn:c<=n) :
  ∃ (xs':List α) (J':yLO) (q:Nat),(∀ id,callN Ftab S m d out ownV (Bk own0 b (xs.flatMap g)++J) id X.parE [.slM d b 0 n cp X.sz tg,.int .i64 (a:Int),.int .i64 (c:Int),.int .i64 (p:Int),.fn gf [] caps]=some (.x,.int .i64 (q:Int),Bk own0 b (xs'.flatMap g)++J'))/\xs'.Perm xs/\a<q/\q<=c:=by
 obtain ⟨m,rfl⟩:∃ q,m=q+1:=⟨m - 1,by omega⟩
 have main:∃ v own',(∀ id,callN Ftab S (m+1) d out ownV (Bk own0 b (xs.flatMap g)++J) id X.parE [.slM d b 0 n cp X.sz tg,.int .i64 (a:Int),.int .i64 (c:Int),.int .i64 (p:Int),.fn gf [] caps]=some (.x,v,own'))/\(∃ (xs':List α) (J':yLO) (q:Nat),v=.int .i64 (q:Int)/\own'=Bk own0 b (xs'.flatMap g)++J'/\xs'.Perm xs/\a<q/\q<=c):=by
  refine zt (i:=cParE X) (hFm.parE.1 _) hFm.parE.2 rfl (lb rfl) fun t hfr=>?_
  simp only [V2,Nat.reduceAdd,cParE] at hfr
  have e1:wrapI .i64 ((a:Int)+1)=((a+1:Nat):Int):=we
  have e2:wrapI .i64 ((c:Int) - 1)=((c - 1:Nat):Int):=we
  have ha:a<n:=by omega
  have hpn:p<n:=by omega
  obtain ⟨x,hx⟩:=gx (l:=xs) (i:=a) (by omega)
  have lx:=hE.ld hx
  obtain ⟨y,hy⟩:=gx (l:=xs) (i:=p) (by omega)
  have ly:=hE.ld hy
  simp only [cParE,V0,sevalprocAttr,hfr,L1,L2 hb hE,ha,hpn,hl0,lx,ly]
  refine ⟨by simp [comm],?_⟩
  simp only [V0,sevalprocAttr,hfr,e1,e2]
  refine zb (fun jj st=>∃ (i:Nat) (j:Nat) (ys:List α) (J1:yLO),j+1 - i<=jj/\(a+1<=i/\i<=c)/\(a<=j/\j<c)/\ys.Perm xs/\st.own=Bk own0 b (ys.flatMap g)++J1/\Slots 90 st.t [(0,.slM d b 0 n cp X.sz tg),(1,iv a),(4,.fn gf [] caps),(11,iv i),(12,iv j)]) (c+1) (by omega) ⟨a+1,c - 1,_,_,by omega,by omega,by omega,zm hx hy,rfl,by simp only [V0,sevalprocAttr,hfr]⟩ ?_
  clear lx ly hx hy x y
  rintro jjA ⟨t,own⟩ KA ⟨i,j,ys,J1,hjj,h1,h2,hp,ho,hfr⟩ hnA heA hrA
  dsimp only at ho hfr
  subst ho
  simp only [V3] at hfr
  simp only [V0,sevalprocAttr,hfr]
  refine zb (fun jj st=>∃ (i2:Nat) (ys2:List α) (J2:yLO),n - i2<=jj/\(i<=i2/\i2<=c)/\ys2.Perm xs/\st.own=Bk own0 b (ys2.flatMap g)++J2/\Slots 90 st.t [(0,.slM d b 0 n cp X.sz tg),(1,iv a),(4,.fn gf [] caps),(11,iv i2),(12,iv j)]) n (by omega) ⟨i,ys,_,by omega,by omega,hp,rfl,by simp only [V0,sevalprocAttr,hfr]⟩ ?_
  rintro jjB ⟨t,own⟩ KB ⟨i2,ys2,J2,hjB,hB,hpB,ho,hfr⟩ hnB heB hrB
  have keyB:∀ (i2:Nat) (ys2:List α) (J2:yLO) (t:List IV),(i<=i2/\i2<=c)->ys2.Perm xs->Slots 90 t [(0,.slM d b 0 n cp X.sz tg),(1,iv a),(4,.fn gf [] caps),(11,iv i2),(12,iv j)]->KB (.exit 2) ⟨t,Bk own0 b (ys2.flatMap g)++J2⟩:=by
   clear hjB hB hpB hfr ho hnB hrB i2 ys2 J2 t own
   intro i2 ys2 J2 t hB hpB hfr
   simp only [V3] at hfr
   refine heB _ _ ?_
   simp only [V0,sevalprocAttr,hfr]
   refine zb (fun jj st=>∃ (j2:Nat) (ys3:List α) (J3:yLO),j2<=jj/\(a<=j2/\j2<=j)/\ys3.Perm xs/\st.own=Bk own0 b (ys3.flatMap g)++J3/\Slots 90 st.t [(0,.slM d b 0 n cp X.sz tg),(1,iv a),(4,.fn gf [] caps),(11,iv i2),(12,iv j2)]) n (by omega) ⟨j,ys2,J2,by omega,by omega,hpB,rfl,by simp only [V0,sevalprocAttr,hfr]⟩ ?_
   rintro jjC ⟨t,own⟩ KC ⟨j2,ys3,J3,hjC,hC,hpC,ho,hfr⟩ hnC heC hrC
   have keyC:∀ (j2:Nat) (ys3:List α) (J3:yLO) (t:List IV),(a<=j2/\j2<=j)->ys3.Perm xs->Slots 90 t [(0,.slM d b 0 n cp X.sz tg),(1,iv a),(4,.fn gf [] caps),(11,iv i2),(12,iv j2)]->KC (.exit 4) ⟨t,Bk own0 b (ys3.flatMap g)++J3⟩:=by
    clear hjC hC hpC hfr ho hnC hrC j2 ys3 J3 t own
    intro j2 ys3 J3 t hC hpC hfr
    simp only [V3] at hfr
    refine heC _ _ ?_
    simp only [V0,sevalprocAttr,hfr]
    by_cases hg:j2<i2
    ·simp only [V0,sevalprocAttr,hfr,L1,L2 hb hE,hg]
     refine heA _ _ ?_
     simp only [V0,sevalprocAttr,hfr,ze]
     exact ⟨_,rfl,ys3,_,i2,rfl,rfl,hpC,by omega,by omega⟩
    ·have hi:i2<n:=by omega
     have hj:j2<n:=by omega
     have hly:ys3.length=n:=hpC.length_eq.trans hl0
     have e3:wrapI .i64 ((i2:Int)+1)=((i2+1:Nat):Int):=we
     have e4:wrapI .i64 ((j2:Int) - 1)=((j2 - 1:Nat):Int):=we
     obtain ⟨x,hx⟩:=gx (l:=ys3) (i:=i2) (by omega)
     have lx:=hE.ld hx
     obtain ⟨y,hy⟩:=gx (l:=ys3) (i:=j2) (by omega)
     have ly:=hE.ld hy
     simp only [V0,sevalprocAttr,hfr,L1,L2 hb hE,hg,hi,hj,hly,lx,ly]
     refine ⟨by simp [comm],?_⟩
     simp only [V0,sevalprocAttr,hfr,e3,e4]
     exact hnA _ (j2 - 1+1 - (i2+1)) (by omega) ⟨i2+1,j2 - 1,_,_,zcf _,by omega,by omega,(zm hx hy).trans hpC,rfl,by simp only [V0,sevalprocAttr,hfr]⟩
   dsimp only at ho hfr
   subst ho
   simp only [V3] at hfr
   have hly:ys3.length=n:=hpC.length_eq.trans hl0
   by_cases h:i2<=j2
   ·have hi:a<n:=by omega
    have hj:j2<n:=by omega
    have e3:wrapI .i64 ((j2:Int) - 1)=((j2 - 1:Nat):Int):=we
    obtain ⟨x,hx⟩:=gx (l:=ys3) (i:=a) (by omega)
    have lx:=hE.ld hx
    obtain ⟨y,hy⟩:=gx (l:=ys3) (i:=j2) (by omega)
    have ly:=hE.ld hy
    have cc:=fun ownV own id=>hc m (by omega) ownV own id x y
    cases hlt:decide (r x y<0)
    ·simp only [V0,sevalprocAttr,hfr,L1,L2 hb hE,h,hi,hj,hly,lx,ly,cc,hlt]
     refine ⟨by simp [comm],?_⟩
     simp only [V0,sevalprocAttr,hfr,e3]
     exact keyC j2 ys3 _ _ hC hpC (by simp only [V0,sevalprocAttr,hfr])
    ·simp only [V0,sevalprocAttr,hfr,L1,L2 hb hE,h,hi,hj,hly,lx,ly,cc,hlt]
     refine ⟨by simp [comm],?_⟩
     simp only [V0,sevalprocAttr,hfr,e3]
     exact hnC _ (j2 - 1) (by omega) ⟨j2 - 1,ys3,_,by omega,by omega,hpC,rfl,by simp only [V0,sevalprocAttr,hfr]⟩
   ·simp only [V0,sevalprocAttr,hfr,h,Int.ofNat_le]
    refine ⟨by simp [comm],?_⟩
    simp only [V0,sevalprocAttr,hfr]
    exact keyC j2 ys3 _ _ hC hpC (by simp only [V0,sevalprocAttr,hfr])
  dsimp only at ho hfr
  subst ho
  simp only [V3] at hfr
  have hly:ys2.length=n:=hpB.length_eq.trans hl0
  by_cases h:i2<=j
  ·have hi:a<n:=by omega
   have hj:i2<n:=by omega
   have e3:wrapI .i64 ((i2:Int)+1)=((i2+1:Nat):Int):=we
   obtain ⟨x,hx⟩:=gx (l:=ys2) (i:=a) (by omega)
   have lx:=hE.ld hx
   obtain ⟨y,hy⟩:=gx (l:=ys2) (i:=i2) (by omega)
   have ly:=hE.ld hy
   have cc:=fun ownV own id=>hc m (by omega) ownV own id x y
   cases hlt:decide (r x y<0)
   ·simp only [V0,sevalprocAttr,hfr,L1,L2 hb hE,h,hi,hj,hly,lx,ly,cc,hlt]
    refine ⟨by simp [comm],?_⟩
    simp only [V0,sevalprocAttr,hfr,e3]
    exact hnB _ (n - (i2+1)) (by omega) ⟨i2+1,ys2,_,by omega,by omega,hpB,rfl,by simp only [V0,sevalprocAttr,hfr]⟩
   ·simp only [V0,sevalprocAttr,hfr,L1,L2 hb hE,h,hi,hj,hly,lx,ly,cc,hlt]
    refine ⟨by simp [comm],?_⟩
    simp only [V0,sevalprocAttr,hfr,e3]
    exact keyB i2 ys2 _ _ hB hpB (by simp only [V0,sevalprocAttr,hfr])
  ·simp only [V0,sevalprocAttr,hfr,h,Int.ofNat_le]
   refine ⟨by simp [comm],?_⟩
   simp only [V0,sevalprocAttr,hfr]
   exact keyB i2 ys2 _ _ hB hpB (by simp only [V0,sevalprocAttr,hfr])
 obtain ⟨v,own',h1,xs',J',q,rfl,rfl,h2⟩:=main
 exact ⟨xs',J',q,h1,h2⟩
end
end
section
section
variable {X:SF} {S:ySM} {α:Type} {g:α->List IV} {e:α->IV} {own0:yLO} {b d:Nat} {out:yLM} {n cp:Nat} {tg:Bool} {gf:FuncId} {caps:List IV} {r:α->α->Int} {Nc:Nat}
theorem x_par (hFm:FamOK S X) (hS:NoS S) (hb:b<own0.length) (hE:Elt g e X.sz X.ag) (hc:CmpOK S Nc d out own0 b e gf caps r) (hn:n<65536) (m:Nat) (hm:Nc+n+12<=m) (ownV:yLO) (xs:List α) (J:yLO) (a c p:Nat) (hl0:xs.length=n) (hap:a<=p) (hpc:p<c) (hcn:c<=n) :
  ∃ (xs':List α) (J':yLO) (q:Nat) (w:Bool),(∀ id,callN Ftab S m d out ownV (Bk own0 b (xs.flatMap g)++J) id X.par [.slM d b 0 n cp X.sz tg,.int .i64 (a:Int),.int .i64 (c:Int),.int .i64 (p:Int),.fn gf [] caps]=some (.x,.tuple [.int .i64 (q:Int),.bool w],Bk own0 b (xs'.flatMap g)++J'))/\xs'.Perm xs/\a<=q/\q<c:=by
 obtain ⟨m,rfl⟩:∃ q,m=q+1:=⟨m - 1,by omega⟩
 have main:∃ v own',(∀ id,callN Ftab S (m+1) d out ownV (Bk own0 b (xs.flatMap g)++J) id X.par [.slM d b 0 n cp X.sz tg,.int .i64 (a:Int),.int .i64 (c:Int),.int .i64 (p:Int),.fn gf [] caps]=some (.x,v,own'))/\(∃ (xs':List α) (J':yLO) (q:Nat) (w:Bool),v=.tuple [.int .i64 (q:Int),.bool w]/\own'=Bk own0 b (xs'.flatMap g)++J'/\xs'.Perm xs/\a<=q/\q<c):=by
  refine zt (i:=cPar X) (hFm.par.1 _) hFm.par.2 rfl (lb rfl) fun t hfr=>?_
  simp only [V2,Nat.reduceAdd,cPar] at hfr
  obtain ⟨i,hi0⟩:∃ i:Nat,i=a+1:=⟨_,rfl⟩
  obtain ⟨j,hj0⟩:∃ j:Nat,j=c - 1:=⟨_,rfl⟩
  have e1:wrapI .i64 ((a:Int)+1)=((i:Nat):Int):=we
  have e2:wrapI .i64 ((c:Int) - 1)=((j:Nat):Int):=we
  have ha:a<n:=by omega
  have hpn:p<n:=by omega
  obtain ⟨x0,hx0⟩:=gx (l:=xs) (i:=a) (by omega)
  have lx0:=hE.ld hx0
  obtain ⟨y0,hy0⟩:=gx (l:=xs) (i:=p) (by omega)
  have ly0:=hE.ld hy0
  simp only [cPar,V0,sevalprocAttr,hfr,L1,L2 hb hE,ha,hpn,hl0,lx0,ly0]
  refine ⟨by simp [comm],?_⟩
  simp only [V0,sevalprocAttr,hfr,e1,e2]
  refine zb (fun jj st=>∃ (i2:Nat) (ys1:List α) (J2:yLO),n - i2<=jj/\(i<=i2/\i2<=c)/\ys1.Perm xs/\st.own=Bk own0 b (ys1.flatMap g)++J2/\Slots 178 st.t [(0,.slM d b 0 n cp X.sz tg),(1,iv a),(4,.fn gf [] caps),(12,iv i2),(13,iv j)]) n (by omega) ⟨i,_,_,by omega,by omega,(zm hx0 hy0),rfl,by simp only [V0,sevalprocAttr,hfr]⟩ ?_
  rintro jjB ⟨t,own⟩ KB ⟨i2,ys1,J2,hjB,hB,hpB,ho,hfr⟩ hnB heB hrB
  have keyB:∀ (i2:Nat) (ys1:List α) (J2:yLO) (t:List IV),(i<=i2/\i2<=c)->ys1.Perm xs->Slots 178 t [(0,.slM d b 0 n cp X.sz tg),(1,iv a),(4,.fn gf [] caps),(12,iv i2),(13,iv j)]->KB (.exit 0) ⟨t,Bk own0 b (ys1.flatMap g)++J2⟩:=by
   clear hjB hB hpB hfr ho hnB hrB i2 ys1 J2 t own
   intro i2 ys1 J2 t hB hpB hfr
   simp only [V3] at hfr
   refine heB _ _ ?_
   simp only [V0,sevalprocAttr,hfr]
   refine zb (fun jj st=>∃ (j2:Nat) (ys2:List α) (J3:yLO),j2<=jj/\(a<=j2/\j2<=j)/\ys2.Perm xs/\st.own=Bk own0 b (ys2.flatMap g)++J3/\Slots 178 st.t [(0,.slM d b 0 n cp X.sz tg),(1,iv a),(4,.fn gf [] caps),(12,iv i2),(13,iv j2)]) n (by omega) ⟨j,ys1,J2,by omega,by omega,hpB,rfl,by simp only [V0,sevalprocAttr,hfr]⟩ ?_
   rintro jjC ⟨t,own⟩ KC ⟨j2,ys2,J3,hjC,hC,hpC,ho,hfr⟩ hnC heC hrC
   have keyC:∀ (j2:Nat) (ys2:List α) (J3:yLO) (t:List IV),(a<=j2/\j2<=j)->ys2.Perm xs->Slots 178 t [(0,.slM d b 0 n cp X.sz tg),(1,iv a),(4,.fn gf [] caps),(12,iv i2),(13,iv j2)]->KC (.exit 2) ⟨t,Bk own0 b (ys2.flatMap g)++J3⟩:=by
    clear hjC hC hpC hfr ho hnC hrC j2 ys2 J3 t own
    intro j2 ys2 J3 t hC hpC hfr
    simp only [V3] at hfr
    refine heC _ _ ?_
    simp only [V0,sevalprocAttr,hfr]
    by_cases hg:j2<i2
    ·simp only [V0,sevalprocAttr,hfr,L1,L2 hb hE,hg]
     have ha:a<n:=by omega
     have hj:j2<n:=by omega
     have hly:ys2.length=n:=hpC.length_eq.trans hl0
     obtain ⟨x,hx⟩:=gx (l:=ys2) (i:=j2) (by omega)
     have lx:=hE.ld hx
     obtain ⟨y,hy⟩:=gx (l:=ys2) (i:=a) (by omega)
     have ly:=hE.ld hy
     simp only [V0,sevalprocAttr,hfr,L1,L2 hb hE,ha,hj,hly,lx,ly]
     refine ⟨by simp [comm],?_⟩
     simp only [V0,sevalprocAttr,hfr,ze]
     exact ⟨_,rfl,_,_,j2,_,rfl,rfl,(zm hx hy).trans hpC,by omega,by omega⟩
    ·have hi:i2<n:=by omega
     have hj:j2<n:=by omega
     have hly:ys2.length=n:=hpC.length_eq.trans hl0
     have e3:wrapI .i64 ((i2:Int)+1)=((i2+1:Nat):Int):=we
     have e4:wrapI .i64 ((j2:Int) - 1)=((j2 - 1:Nat):Int):=we
     obtain ⟨x,hx⟩:=gx (l:=ys2) (i:=i2) (by omega)
     have lx:=hE.ld hx
     obtain ⟨y,hy⟩:=gx (l:=ys2) (i:=j2) (by omega)
     have ly:=hE.ld hy
     simp only [V0,sevalprocAttr,hfr,L1,L2 hb hE,hg,hi,hj,hly,lx,ly]
     refine ⟨by simp [comm],?_⟩
     simp only [V0,sevalprocAttr,hfr,L1,L2 hb hE,e3,e4]
     refine zb (fun jj st=>∃ (i:Nat) (j:Nat) (ys:List α) (J1:yLO),j+1 - i<=jj/\(a+1<=i/\i<=c)/\(a<=j/\j<c)/\ys.Perm xs/\st.own=Bk own0 b (ys.flatMap g)++J1/\Slots 178 st.t [(0,.slM d b 0 n cp X.sz tg),(1,iv a),(4,.fn gf [] caps),(12,iv i),(13,iv j)]) (c+1) (by omega) ⟨i2+1,j2 - 1,_,_,by omega,by omega,by omega,(zm hx hy).trans hpC,rfl,by simp only [V0,sevalprocAttr,hfr]⟩ ?_
     clear lx ly hx hy x y
     rintro jjA ⟨t,own⟩ KA ⟨i4,j4,ys3,J3,hjj,h1,h2,hp,ho,hfr⟩ hnA heA hrA
     dsimp only at ho hfr
     subst ho
     simp only [V3] at hfr
     simp only [V0,sevalprocAttr,hfr]
     refine zb (fun jj st=>∃ (i3:Nat) (ys4:List α) (J4:yLO),n - i3<=jj/\(i4<=i3/\i3<=c)/\ys4.Perm xs/\st.own=Bk own0 b (ys4.flatMap g)++J4/\Slots 178 st.t [(0,.slM d b 0 n cp X.sz tg),(1,iv a),(4,.fn gf [] caps),(12,iv i3),(13,iv j4)]) n (by omega) ⟨i4,ys3,_,by omega,by omega,hp,rfl,by simp only [V0,sevalprocAttr,hfr]⟩ ?_
     rintro jjD ⟨t,own⟩ KD ⟨i3,ys4,J4,hjD,hD,hpD,ho,hfr⟩ hnD heD hrD
     have keyD:∀ (i3:Nat) (ys4:List α) (J4:yLO) (t:List IV),(i4<=i3/\i3<=c)->ys4.Perm xs->Slots 178 t [(0,.slM d b 0 n cp X.sz tg),(1,iv a),(4,.fn gf [] caps),(12,iv i3),(13,iv j4)]->KD (.exit 6) ⟨t,Bk own0 b (ys4.flatMap g)++J4⟩:=by
      clear hjD hD hpD hfr ho hnD hrD i3 ys4 J4 t own
      intro i3 ys4 J4 t hD hpD hfr
      simp only [V3] at hfr
      refine heD _ _ ?_
      simp only [V0,sevalprocAttr,hfr]
      refine zb (fun jj st=>∃ (j3:Nat) (ys5:List α) (J5:yLO),j3<=jj/\(a<=j3/\j3<=j4)/\ys5.Perm xs/\st.own=Bk own0 b (ys5.flatMap g)++J5/\Slots 178 st.t [(0,.slM d b 0 n cp X.sz tg),(1,iv a),(4,.fn gf [] caps),(12,iv i3),(13,iv j3)]) n (by omega) ⟨j4,ys4,J4,by omega,by omega,hpD,rfl,by simp only [V0,sevalprocAttr,hfr]⟩ ?_
      rintro jjG ⟨t,own⟩ KG ⟨j3,ys5,J5,hjG,hG,hpE,ho,hfr⟩ hnG heG hrG
      have keyG:∀ (j3:Nat) (ys5:List α) (J5:yLO) (t:List IV),(a<=j3/\j3<=j4)->ys5.Perm xs->Slots 178 t [(0,.slM d b 0 n cp X.sz tg),(1,iv a),(4,.fn gf [] caps),(12,iv i3),(13,iv j3)]->KG (.exit 8) ⟨t,Bk own0 b (ys5.flatMap g)++J5⟩:=by
       clear hjG hG hpE hfr ho hnG hrG j3 ys5 J5 t own
       intro j3 ys5 J5 t hG hpE hfr
       simp only [V3] at hfr
       refine heG _ _ ?_
       simp only [V0,sevalprocAttr,hfr]
       by_cases hg:j3<i3
       ·simp only [V0,sevalprocAttr,hfr,L1,L2 hb hE,hg]
        refine heA _ _ ?_
        simp only [V0,sevalprocAttr,hfr]
        have ha:a<n:=by omega
        have hj:j3<n:=by omega
        have hly:ys5.length=n:=hpE.length_eq.trans hl0
        obtain ⟨x,hx⟩:=gx (l:=ys5) (i:=j3) (by omega)
        have lx:=hE.ld hx
        obtain ⟨y,hy⟩:=gx (l:=ys5) (i:=a) (by omega)
        have ly:=hE.ld hy
        simp only [V0,sevalprocAttr,hfr,L1,L2 hb hE,ha,hj,hly,lx,ly]
        refine ⟨by simp [comm],?_⟩
        simp only [V0,sevalprocAttr,hfr,ze]
        exact ⟨_,rfl,_,_,j3,_,rfl,rfl,(zm hx hy).trans hpE,by omega,by omega⟩
       ·have hi:i3<n:=by omega
        have hj:j3<n:=by omega
        have hly:ys5.length=n:=hpE.length_eq.trans hl0
        have e3:wrapI .i64 ((i3:Int)+1)=((i3+1:Nat):Int):=we
        have e4:wrapI .i64 ((j3:Int) - 1)=((j3 - 1:Nat):Int):=we
        obtain ⟨x,hx⟩:=gx (l:=ys5) (i:=i3) (by omega)
        have lx:=hE.ld hx
        obtain ⟨y,hy⟩:=gx (l:=ys5) (i:=j3) (by omega)
        have ly:=hE.ld hy
        simp only [V0,sevalprocAttr,hfr,L1,L2 hb hE,hg,hi,hj,hly,lx,ly]
        refine ⟨by simp [comm],?_⟩
        simp only [V0,sevalprocAttr,hfr,e3,e4]
        exact hnA _ (j3 - 1+1 - (i3+1)) (by omega) ⟨i3+1,j3 - 1,_,_,zcf _,by omega,by omega,(zm hx hy).trans hpE,rfl,by simp only [V0,sevalprocAttr,hfr]⟩
      dsimp only at ho hfr
      subst ho
      simp only [V3] at hfr
      have hly:ys5.length=n:=hpE.length_eq.trans hl0
      by_cases h:i3<=j3
      ·have hi:j3<n:=by omega
       have hj:a<n:=by omega
       have e3:wrapI .i64 ((j3:Int) - 1)=((j3 - 1:Nat):Int):=we
       obtain ⟨x,hx⟩:=gx (l:=ys5) (i:=j3) (by omega)
       have lx:=hE.ld hx
       obtain ⟨y,hy⟩:=gx (l:=ys5) (i:=a) (by omega)
       have ly:=hE.ld hy
       have cc:=fun ownV own id=>hc m (by omega) ownV own id x y
       cases hlt:decide (r x y<0)
       ·simp only [V0,sevalprocAttr,hfr,L1,L2 hb hE,h,hi,hj,hly,lx,ly,cc,hlt]
        refine ⟨by simp [comm],?_⟩
        simp only [V0,sevalprocAttr,hfr,e3]
        exact hnG _ (j3 - 1) (by omega) ⟨j3 - 1,ys5,_,by omega,by omega,hpE,rfl,by simp only [V0,sevalprocAttr,hfr]⟩
       ·simp only [V0,sevalprocAttr,hfr,L1,L2 hb hE,h,hi,hj,hly,lx,ly,cc,hlt]
        refine ⟨by simp [comm],?_⟩
        simp only [V0,sevalprocAttr,hfr,e3]
        exact keyG j3 ys5 _ _ hG hpE (by simp only [V0,sevalprocAttr,hfr])
      ·simp only [V0,sevalprocAttr,hfr,h,Int.ofNat_le]
       refine ⟨by simp [comm],?_⟩
       simp only [V0,sevalprocAttr,hfr]
       exact keyG j3 ys5 _ _ hG hpE (by simp only [V0,sevalprocAttr,hfr])
     dsimp only at ho hfr
     subst ho
     simp only [V3] at hfr
     have hly:ys4.length=n:=hpD.length_eq.trans hl0
     by_cases h:i3<=j4
     ·have hi:i3<n:=by omega
      have hj:a<n:=by omega
      have e3:wrapI .i64 ((i3:Int)+1)=((i3+1:Nat):Int):=we
      obtain ⟨x,hx⟩:=gx (l:=ys4) (i:=i3) (by omega)
      have lx:=hE.ld hx
      obtain ⟨y,hy⟩:=gx (l:=ys4) (i:=a) (by omega)
      have ly:=hE.ld hy
      have cc:=fun ownV own id=>hc m (by omega) ownV own id x y
      cases hlt:decide (r x y<0)
      ·simp only [V0,sevalprocAttr,hfr,L1,L2 hb hE,h,hi,hj,hly,lx,ly,cc,hlt]
       refine ⟨by simp [comm],?_⟩
       simp only [V0,sevalprocAttr,hfr,e3]
       exact keyD i3 ys4 _ _ hD hpD (by simp only [V0,sevalprocAttr,hfr])
      ·simp only [V0,sevalprocAttr,hfr,L1,L2 hb hE,h,hi,hj,hly,lx,ly,cc,hlt]
       refine ⟨by simp [comm],?_⟩
       simp only [V0,sevalprocAttr,hfr,e3]
       exact hnD _ (n - (i3+1)) (by omega) ⟨i3+1,ys4,_,by omega,by omega,hpD,rfl,by simp only [V0,sevalprocAttr,hfr]⟩
     ·simp only [V0,sevalprocAttr,hfr,h,Int.ofNat_le]
      refine ⟨by simp [comm],?_⟩
      simp only [V0,sevalprocAttr,hfr]
      exact keyD i3 ys4 _ _ hD hpD (by simp only [V0,sevalprocAttr,hfr])
   dsimp only at ho hfr
   subst ho
   simp only [V3] at hfr
   have hly:ys2.length=n:=hpC.length_eq.trans hl0
   by_cases h:i2<=j2
   ·have hi:j2<n:=by omega
    have hj:a<n:=by omega
    have e3:wrapI .i64 ((j2:Int) - 1)=((j2 - 1:Nat):Int):=we
    obtain ⟨x,hx⟩:=gx (l:=ys2) (i:=j2) (by omega)
    have lx:=hE.ld hx
    obtain ⟨y,hy⟩:=gx (l:=ys2) (i:=a) (by omega)
    have ly:=hE.ld hy
    have cc:=fun ownV own id=>hc m (by omega) ownV own id x y
    cases hlt:decide (r x y<0)
    ·simp only [V0,sevalprocAttr,hfr,L1,L2 hb hE,h,hi,hj,hly,lx,ly,cc,hlt]
     refine ⟨by simp [comm],?_⟩
     simp only [V0,sevalprocAttr,hfr,e3]
     exact hnC _ (j2 - 1) (by omega) ⟨j2 - 1,ys2,_,by omega,by omega,hpC,rfl,by simp only [V0,sevalprocAttr,hfr]⟩
    ·simp only [V0,sevalprocAttr,hfr,L1,L2 hb hE,h,hi,hj,hly,lx,ly,cc,hlt]
     refine ⟨by simp [comm],?_⟩
     simp only [V0,sevalprocAttr,hfr,e3]
     exact keyC j2 ys2 _ _ hC hpC (by simp only [V0,sevalprocAttr,hfr])
   ·simp only [V0,sevalprocAttr,hfr,h,Int.ofNat_le]
    refine ⟨by simp [comm],?_⟩
    simp only [V0,sevalprocAttr,hfr]
    exact keyC j2 ys2 _ _ hC hpC (by simp only [V0,sevalprocAttr,hfr])
  dsimp only at ho hfr
  subst ho
  simp only [V3] at hfr
  have hly:ys1.length=n:=hpB.length_eq.trans hl0
  by_cases h:i2<=j
  ·have hi:i2<n:=by omega
   have hj:a<n:=by omega
   have e3:wrapI .i64 ((i2:Int)+1)=((i2+1:Nat):Int):=we
   obtain ⟨x,hx⟩:=gx (l:=ys1) (i:=i2) (by omega)
   have lx:=hE.ld hx
   obtain ⟨y,hy⟩:=gx (l:=ys1) (i:=a) (by omega)
   have ly:=hE.ld hy
   have cc:=fun ownV own id=>hc m (by omega) ownV own id x y
   cases hlt:decide (r x y<0)
   ·simp only [V0,sevalprocAttr,hfr,L1,L2 hb hE,h,hi,hj,hly,lx,ly,cc,hlt]
    refine ⟨by simp [comm],?_⟩
    simp only [V0,sevalprocAttr,hfr,e3]
    exact keyB i2 ys1 _ _ hB hpB (by simp only [V0,sevalprocAttr,hfr])
   ·simp only [V0,sevalprocAttr,hfr,L1,L2 hb hE,h,hi,hj,hly,lx,ly,cc,hlt]
    refine ⟨by simp [comm],?_⟩
    simp only [V0,sevalprocAttr,hfr,e3]
    exact hnB _ (n - (i2+1)) (by omega) ⟨i2+1,ys1,_,by omega,by omega,hpB,rfl,by simp only [V0,sevalprocAttr,hfr]⟩
  ·simp only [V0,sevalprocAttr,hfr,h,Int.ofNat_le]
   refine ⟨by simp [comm],?_⟩
   simp only [V0,sevalprocAttr,hfr]
   exact keyB i2 ys1 _ _ hB hpB (by simp only [V0,sevalprocAttr,hfr])
 obtain ⟨v,own',h1,xs',J',q,w,rfl,rfl,h2⟩:=main
 exact ⟨xs',J',q,w,h1,h2⟩
end
end
section
section
variable {X:SF} {S:ySM} {α:Type} {g:α->List IV} {e:α->IV} {own0:yLO} {b d:Nat} {out:yLM} {n cp:Nat} {tg:Bool} {gf:FuncId} {caps:List IV} {r:α->α->Int} {Nc:Nat}
theorem x_part (hFm:FamOK S X) (hS:NoS S) (hb:b<own0.length) (hE:Elt g e X.sz X.ag) (hc:CmpOK S Nc d out own0 b e gf caps r) (hn:n<65536) (m:Nat) (hm:Nc+n+12<=m) (ownV:yLO) (xs:List α) (J:yLO) (a c:Nat) (hl0:xs.length=n) (hac:a<c) (hcn:c<=n) :
  ∃ (xs':List α) (J':yLO) (w:Bool),(∀ id,callN Ftab S m d out ownV (Bk own0 b (xs.flatMap g)++J) id X.part [.slM d b 0 n cp X.sz tg,.int .i64 (a:Int),.int .i64 (c:Int),.fn gf [] caps]=some (.x,.bool w,Bk own0 b (xs'.flatMap g)++J'))/\xs'.Perm xs:=by
 obtain ⟨m,rfl⟩:∃ q,m=q+1:=⟨m - 1,by omega⟩
 have main:∃ v own',(∀ id,callN Ftab S (m+1) d out ownV (Bk own0 b (xs.flatMap g)++J) id X.part [.slM d b 0 n cp X.sz tg,.int .i64 (a:Int),.int .i64 (c:Int),.fn gf [] caps]=some (.x,v,own'))/\(∃ (xs':List α) (J':yLO) (w:Bool),v=.bool w/\own'=Bk own0 b (xs'.flatMap g)++J'/\xs'.Perm xs):=by
  refine zt (i:=cPart X) (hFm.part.1 _) hFm.part.2 rfl (lb rfl) fun t hfr=>?_
  simp only [V2,Nat.reduceAdd,cPart] at hfr
  have e1:wrapI .i64 ((a:Int)+1)=((a+1:Nat):Int):=we
  simp only [cPart,V0,sevalprocAttr,hfr,e1]
  refine zb (fun jj st=>∃ (i:Nat) (k:Nat) (ys:List α) (J1:yLO),5 - k<=jj/\(a+1<=i/\i<=c/\k<=5)/\ys.Perm xs/\st.own=Bk own0 b (ys.flatMap g)++J1/\Slots 141 st.t [(0,.slM d b 0 n cp X.sz tg),(1,iv a),(2,iv c),(3,.fn gf [] caps),(9,iv i),(10,iv k)]) 5 (by omega) ⟨a+1,0,xs,J,by omega,by omega,zc9 _,rfl,by simp only [V0,sevalprocAttr,hfr,zcp]⟩ ?_
  rintro jjA ⟨t,own⟩ KA ⟨i,k,ys,J1,hjj,h1,hp,ho,hfr⟩ hnA heA hrA
  dsimp only at ho hfr
  subst ho
  simp only [V3] at hfr
  by_cases h5:(k:Int)<5
  ·simp only [V0,sevalprocAttr,hfr,h5]
   refine zb (fun jj st=>∃ (i2:Nat) (zs:List α) (J2:yLO),n - i2<=jj/\(i<=i2/\i2<=c)/\zs.Perm xs/\st.own=Bk own0 b (zs.flatMap g)++J2/\Slots 141 st.t [(0,.slM d b 0 n cp X.sz tg),(1,iv a),(2,iv c),(3,.fn gf [] caps),(9,iv i2),(10,iv k)]) n (by omega) ⟨i,_,_,by omega,by omega,hp,rfl,by simp only [V0,sevalprocAttr,hfr]⟩ ?_
   rintro jjB ⟨t,own⟩ KB ⟨i2,zs,J2,hjB,cnB,hpB,ho,hfr⟩ hnB heB hrB
   have keyB:∀ (i2:Nat) (zs:List α) (J2:yLO) (t:List IV),(i<=i2/\i2<=c)->zs.Perm xs->Slots 141 t [(0,.slM d b 0 n cp X.sz tg),(1,iv a),(2,iv c),(3,.fn gf [] caps),(9,iv i2),(10,iv k)]->KB (.exit 2) ⟨t,Bk own0 b (zs.flatMap g)++J2⟩:=by
    clear hjB cnB hpB hfr ho hnB hrB i2 zs J2 t own
    intro i2 zs J2 t cnB hpB hfr
    simp only [V3] at hfr
    refine heB _ _ ?_
    simp only [V0,sevalprocAttr,hfr]
    by_cases hic:i2=c
    ·have hbe:((i2:Int)==(c:Int))=true:=by simp [hic]
     simp only [V0,sevalprocAttr,hfr,hbe]
     refine hrA _ ?_
     simp only [V0,sevalprocAttr,hfr,ze,ZE]
     exact ⟨_,rfl,zs,_,_,rfl,rfl,hpB⟩
    ·have hbe:((i2:Int)==(c:Int))=false:=by
      rw [beq_eq_false_iff_ne]
      omega
     have e5:wrapI .i64 ((c:Int) - (a:Int))=((c - a:Nat):Int):=we
     by_cases h50:((c - a:Nat):Int)<50
     ·simp only [V0,sevalprocAttr,hfr,hbe,e5,h50]
      refine hrA _ ?_
      simp only [V0,sevalprocAttr,hfr,ze,ZE]
      exact ⟨_,rfl,zs,_,_,rfl,rfl,hpB⟩
     ·have hi:i2<n:=by omega
      have hj:i2 - 1<n:=by omega
      have hly:zs.length=n:=hpB.length_eq.trans hl0
      have e3:wrapI .i64 ((i2:Int) - 1)=((i2 - 1:Nat):Int):=we
      have e6:wrapI .i64 ((i2:Int) - (a:Int))=((i2 - a:Nat):Int):=we
      obtain ⟨x,hx⟩:=gx (l:=zs) (i:=i2) (by omega)
      have lx:=hE.ld hx
      obtain ⟨y,hy⟩:=gx (l:=zs) (i:=i2 - 1) (by omega)
      have ly:=hE.ld hy
      simp only [V0,sevalprocAttr,hfr,L1,L2 hb hE,hbe,e5,h50,e3,hi,hj,hly,lx,ly]
      refine ⟨by simp [comm],?_⟩
      by_cases h2:(2:Int)<=((i2 - a:Nat):Int)
      ·simp only [V0,sevalprocAttr,hfr,L1,L2 hb hE,e6,h2,e3]
       refine zb (fun jj st=>∃ (j4:Nat) (vs:List α) (J4:yLO),j4<=jj/\j4<=i2/\vs.Perm xs/\st.own=Bk own0 b (vs.flatMap g)++J4/\Slots 141 st.t [(0,.slM d b 0 n cp X.sz tg),(1,iv a),(2,iv c),(3,.fn gf [] caps),(9,iv i2),(10,iv k),(11,iv j4)]) n (by omega) ⟨i2 - 1,_,_,by omega,by omega,((zm hx hy).trans hpB),rfl,by simp only [V0,sevalprocAttr,hfr]⟩ ?_
       rintro jjC ⟨t,own⟩ KC ⟨j4,vs,J4,hjC,cnC,hpC,ho,hfr⟩ hnC heC hrC
       have keyC:∀ (j4:Nat) (vs:List α) (J4:yLO) (t:List IV),j4<=i2->vs.Perm xs->Slots 141 t [(0,.slM d b 0 n cp X.sz tg),(1,iv a),(2,iv c),(3,.fn gf [] caps),(9,iv i2),(10,iv k),(11,iv j4)]->KC (.exit 4) ⟨t,Bk own0 b (vs.flatMap g)++J4⟩:=by
        clear hjC cnC hpC hfr ho hnC hrC j4 vs J4 t own
        intro j4 vs J4 t cnC hpC hfr
        simp only [V3] at hfr
        refine heC _ _ ?_
        simp only [V0,sevalprocAttr,hfr]
        have e7:wrapI .i64 ((c:Int) - (i2:Int))=((c - i2:Nat):Int):=we
        by_cases h3:(2:Int)<=((c - i2:Nat):Int)
        ·have e8:wrapI .i64 ((i2:Int)+1)=((i2+1:Nat):Int):=we
         simp only [V0,sevalprocAttr,hfr,L1,L2 hb hE,e7,h3,e8]
         refine zb (fun jj st=>∃ (j5:Nat) (ws:List α) (J5:yLO),n - j5<=jj/\(i2+1<=j5/\j5<=c)/\ws.Perm xs/\st.own=Bk own0 b (ws.flatMap g)++J5/\Slots 141 st.t [(0,.slM d b 0 n cp X.sz tg),(1,iv a),(2,iv c),(3,.fn gf [] caps),(9,iv i2),(10,iv k),(12,iv j5)]) n (by omega) ⟨i2+1,_,_,by omega,by omega,hpC,rfl,by simp only [V0,sevalprocAttr,hfr]⟩ ?_
         rintro jjD1 ⟨t,own⟩ KD1 ⟨j5,ws,J5,hjD1,cnD1,hpD,ho,hfr⟩ hnD1 heD1 hrD1
         have keyD1:∀ (j5:Nat) (ws:List α) (J5:yLO) (t:List IV),(i2+1<=j5/\j5<=c)->ws.Perm xs->Slots 141 t [(0,.slM d b 0 n cp X.sz tg),(1,iv a),(2,iv c),(3,.fn gf [] caps),(9,iv i2),(10,iv k),(12,iv j5)]->KD1 (.exit 6) ⟨t,Bk own0 b (ws.flatMap g)++J5⟩:=by
          clear hjD1 cnD1 hpD hfr ho hnD1 hrD1 j5 ws J5 t own
          intro j5 ws J5 t cnD1 hpD hfr
          simp only [V3] at hfr
          refine heD1 _ _ ?_
          simp only [V0,sevalprocAttr,hfr]
          have e9:wrapI .i64 ((k:Int)+1)=((k+1:Nat):Int):=we
          simp only [V0,sevalprocAttr,hfr,e9]
          exact hnA _ (5 - (k+1)) (by omega) ⟨i2,k+1,ws,_,by omega,by omega,hpD,rfl,by simp only [V0,sevalprocAttr,hfr]⟩
         dsimp only at ho hfr
         subst ho
         simp only [V3] at hfr
         have hly:ws.length=n:=hpD.length_eq.trans hl0
         by_cases h:j5<c
         ·have hi:j5<n:=by omega
          have hj:j5 - 1<n:=by omega
          have e3:wrapI .i64 ((j5:Int) - 1)=((j5 - 1:Nat):Int):=we
          have e4:wrapI .i64 ((j5:Int)+1)=((j5+1:Nat):Int):=we
          obtain ⟨x,hx⟩:=gx (l:=ws) (i:=j5) (by omega)
          have lx:=hE.ld hx
          obtain ⟨y,hy⟩:=gx (l:=ws) (i:=j5 - 1) (by omega)
          have ly:=hE.ld hy
          have cc:=fun ownV own id=>hc m (by omega) ownV own id x y
          cases hlt:decide (r x y<0)
          ·simp only [V0,sevalprocAttr,hfr,L1,L2 hb hE,h,hi,hj,e3,hly,lx,ly,cc,hlt]
           refine ⟨by simp [comm],?_⟩
           simp only [V0,sevalprocAttr,hfr]
           exact keyD1 j5 ws _ _ cnD1 hpD (by simp only [V0,sevalprocAttr,hfr])
          ·simp only [V0,sevalprocAttr,hfr,L1,L2 hb hE,h,hi,hj,e3,hly,lx,ly,cc,hlt]
           refine ⟨by simp [comm],?_⟩
           simp only [V0,sevalprocAttr,hfr,L1,L2 hb hE,h,hi,hj,e3,hly,lx,ly]
           refine ⟨by simp [comm],?_⟩
           simp only [V0,sevalprocAttr,hfr,e3,e4]
           exact hnD1 _ (n - (j5+1)) (by omega) ⟨j5+1,_,_,by omega,by omega,(zm hx hy).trans hpD,rfl,by simp only [V0,sevalprocAttr,hfr]⟩
         ·simp only [V0,sevalprocAttr,hfr,L1,L2 hb hE,h]
          exact keyD1 j5 ws _ _ cnD1 hpD (by simp only [V0,sevalprocAttr,hfr])
        ·simp only [V0,sevalprocAttr,hfr,L1,L2 hb hE,e7,h3]
         have e9:wrapI .i64 ((k:Int)+1)=((k+1:Nat):Int):=we
         simp only [V0,sevalprocAttr,hfr,e9]
         exact hnA _ (5 - (k+1)) (by omega) ⟨i2,k+1,vs,_,by omega,by omega,hpC,rfl,by simp only [V0,sevalprocAttr,hfr]⟩
       dsimp only at ho hfr
       subst ho
       simp only [V3] at hfr
       have hly:vs.length=n:=hpC.length_eq.trans hl0
       by_cases h:(1:Int)<=(j4:Int)
       ·have hi:j4<n:=by omega
        have hj:j4 - 1<n:=by omega
        have e3:wrapI .i64 ((j4:Int) - 1)=((j4 - 1:Nat):Int):=we
        have e4:True:=trivial
        obtain ⟨x,hx⟩:=gx (l:=vs) (i:=j4) (by omega)
        have lx:=hE.ld hx
        obtain ⟨y,hy⟩:=gx (l:=vs) (i:=j4 - 1) (by omega)
        have ly:=hE.ld hy
        have cc:=fun ownV own id=>hc m (by omega) ownV own id x y
        cases hlt:decide (r x y<0)
        ·simp only [V0,sevalprocAttr,hfr,L1,L2 hb hE,h,hi,hj,e3,hly,lx,ly,cc,hlt]
         refine ⟨by simp [comm],?_⟩
         simp only [V0,sevalprocAttr,hfr]
         exact keyC j4 vs _ _ cnC hpC (by simp only [V0,sevalprocAttr,hfr])
        ·simp only [V0,sevalprocAttr,hfr,L1,L2 hb hE,h,hi,hj,e3,hly,lx,ly,cc,hlt]
         refine ⟨by simp [comm],?_⟩
         simp only [V0,sevalprocAttr,hfr,L1,L2 hb hE,h,hi,hj,e3,hly,lx,ly]
         refine ⟨by simp [comm],?_⟩
         simp only [V0,sevalprocAttr,hfr,e3,e4]
         exact hnC _ ((j4 - 1)) (by omega) ⟨j4 - 1,_,_,by omega,by omega,(zm hx hy).trans hpC,rfl,by simp only [V0,sevalprocAttr,hfr]⟩
       ·simp only [V0,sevalprocAttr,hfr,L1,L2 hb hE,h]
        exact keyC j4 vs _ _ cnC hpC (by simp only [V0,sevalprocAttr,hfr])
      ·simp only [V0,sevalprocAttr,hfr,L1,L2 hb hE,e6,h2]
       have e7:wrapI .i64 ((c:Int) - (i2:Int))=((c - i2:Nat):Int):=we
       by_cases h3:(2:Int)<=((c - i2:Nat):Int)
       ·have e8:wrapI .i64 ((i2:Int)+1)=((i2+1:Nat):Int):=we
        simp only [V0,sevalprocAttr,hfr,L1,L2 hb hE,e7,h3,e8]
        refine zb (fun jj st=>∃ (j5:Nat) (ws:List α) (J5:yLO),n - j5<=jj/\(i2+1<=j5/\j5<=c)/\ws.Perm xs/\st.own=Bk own0 b (ws.flatMap g)++J5/\Slots 141 st.t [(0,.slM d b 0 n cp X.sz tg),(1,iv a),(2,iv c),(3,.fn gf [] caps),(9,iv i2),(10,iv k),(12,iv j5)]) n (by omega) ⟨i2+1,_,_,by omega,by omega,((zm hx hy).trans hpB),rfl,by simp only [V0,sevalprocAttr,hfr]⟩ ?_
        rintro jjD2 ⟨t,own⟩ KD2 ⟨j5,ws,J5,hjD2,cnD2,hpD,ho,hfr⟩ hnD2 heD2 hrD2
        have keyD2:∀ (j5:Nat) (ws:List α) (J5:yLO) (t:List IV),(i2+1<=j5/\j5<=c)->ws.Perm xs->Slots 141 t [(0,.slM d b 0 n cp X.sz tg),(1,iv a),(2,iv c),(3,.fn gf [] caps),(9,iv i2),(10,iv k),(12,iv j5)]->KD2 (.exit 6) ⟨t,Bk own0 b (ws.flatMap g)++J5⟩:=by
         clear hjD2 cnD2 hpD hfr ho hnD2 hrD2 j5 ws J5 t own
         intro j5 ws J5 t cnD2 hpD hfr
         simp only [V3] at hfr
         refine heD2 _ _ ?_
         simp only [V0,sevalprocAttr,hfr]
         have e9:wrapI .i64 ((k:Int)+1)=((k+1:Nat):Int):=we
         simp only [V0,sevalprocAttr,hfr,e9]
         exact hnA _ (5 - (k+1)) (by omega) ⟨i2,k+1,ws,_,by omega,by omega,hpD,rfl,by simp only [V0,sevalprocAttr,hfr]⟩
        dsimp only at ho hfr
        subst ho
        simp only [V3] at hfr
        have hly:ws.length=n:=hpD.length_eq.trans hl0
        by_cases h:j5<c
        ·have hi:j5<n:=by omega
         have hj:j5 - 1<n:=by omega
         have e3:wrapI .i64 ((j5:Int) - 1)=((j5 - 1:Nat):Int):=we
         have e4:wrapI .i64 ((j5:Int)+1)=((j5+1:Nat):Int):=we
         obtain ⟨x,hx⟩:=gx (l:=ws) (i:=j5) (by omega)
         have lx:=hE.ld hx
         obtain ⟨y,hy⟩:=gx (l:=ws) (i:=j5 - 1) (by omega)
         have ly:=hE.ld hy
         have cc:=fun ownV own id=>hc m (by omega) ownV own id x y
         cases hlt:decide (r x y<0)
         ·simp only [V0,sevalprocAttr,hfr,L1,L2 hb hE,h,hi,hj,e3,hly,lx,ly,cc,hlt]
          refine ⟨by simp [comm],?_⟩
          simp only [V0,sevalprocAttr,hfr]
          exact keyD2 j5 ws _ _ cnD2 hpD (by simp only [V0,sevalprocAttr,hfr])
         ·simp only [V0,sevalprocAttr,hfr,L1,L2 hb hE,h,hi,hj,e3,hly,lx,ly,cc,hlt]
          refine ⟨by simp [comm],?_⟩
          simp only [V0,sevalprocAttr,hfr,L1,L2 hb hE,h,hi,hj,e3,hly,lx,ly]
          refine ⟨by simp [comm],?_⟩
          simp only [V0,sevalprocAttr,hfr,e3,e4]
          exact hnD2 _ (n - (j5+1)) (by omega) ⟨j5+1,_,_,by omega,by omega,(zm hx hy).trans hpD,rfl,by simp only [V0,sevalprocAttr,hfr]⟩
        ·simp only [V0,sevalprocAttr,hfr,L1,L2 hb hE,h]
         exact keyD2 j5 ws _ _ cnD2 hpD (by simp only [V0,sevalprocAttr,hfr])
       ·simp only [V0,sevalprocAttr,hfr,L1,L2 hb hE,e7,h3]
        have e9:wrapI .i64 ((k:Int)+1)=((k+1:Nat):Int):=we
        simp only [V0,sevalprocAttr,hfr,e9]
        exact hnA _ (5 - (k+1)) (by omega) ⟨i2,k+1,_,_,by omega,by omega,((zm hx hy).trans hpB),rfl,by simp only [V0,sevalprocAttr,hfr]⟩
   dsimp only at ho hfr
   subst ho
   simp only [V3] at hfr
   have hly:zs.length=n:=hpB.length_eq.trans hl0
   by_cases h:i2<c
   ·have hi:i2<n:=by omega
    have hj:i2 - 1<n:=by omega
    have e3:wrapI .i64 ((i2:Int) - 1)=((i2 - 1:Nat):Int):=we
    have e4:wrapI .i64 ((i2:Int)+1)=((i2+1:Nat):Int):=we
    obtain ⟨x,hx⟩:=gx (l:=zs) (i:=i2) (by omega)
    have lx:=hE.ld hx
    obtain ⟨y,hy⟩:=gx (l:=zs) (i:=i2 - 1) (by omega)
    have ly:=hE.ld hy
    have cc:=fun ownV own id=>hc m (by omega) ownV own id x y
    cases hlt:decide (r x y<0)
    ·simp only [V0,sevalprocAttr,hfr,L1,L2 hb hE,h,hi,hj,e3,hly,lx,ly,cc,hlt]
     refine ⟨by simp [comm],?_⟩
     simp only [V0,sevalprocAttr,hfr,e3,e4]
     exact hnB _ (n - (i2+1)) (by omega) ⟨i2+1,zs,_,by omega,by omega,hpB,rfl,by simp only [V0,sevalprocAttr,hfr]⟩
    ·simp only [V0,sevalprocAttr,hfr,L1,L2 hb hE,h,hi,hj,e3,hly,lx,ly,cc,hlt]
     refine ⟨by simp [comm],?_⟩
     simp only [V0,sevalprocAttr,hfr]
     exact keyB i2 zs _ _ cnB hpB (by simp only [V0,sevalprocAttr,hfr])
   ·simp only [V0,sevalprocAttr,hfr,L1,L2 hb hE,h]
    refine ⟨by simp [comm],?_⟩
    simp only [V0,sevalprocAttr,hfr]
    exact keyB i2 zs _ _ cnB hpB (by simp only [V0,sevalprocAttr,hfr])
  ·simp only [V0,sevalprocAttr,hfr,h5]
   refine heA _ _ ?_
   simp only [V0,sevalprocAttr,hfr,ze,ZE]
   exact ⟨_,rfl,ys,_,_,rfl,rfl,hp⟩
 obtain ⟨v,own',h1,xs',J',w,rfl,rfl,h2⟩:=main
 exact ⟨xs',J',w,h1,h2⟩
end
end
section
def tabL:List Nat:=[0,1,2,2,3,3,3,3,4,4,4,4,4,4,4,4,5,5,5,5,5,5,5,5,5,5,5,5,5,5,5,5,6,6,6,6,6,6,6,6,6,6,6,6,6,6,6,6,6,6,6,6,6,6,6,6,6,6,6,6,6,6,6,6,7,7,7,7,7,7,7,7,7,7,7,7,7,7,7,7,7,7,7,7,7,7,7,7,7,7,7,7,7,7,7,7,7,7,7,7,7,7,7,7,7,7,7,7,7,7,7,7,7,7,7,7,7,7,7,7,7,7,7,7,7,7,7,7,8,8,8,8,8,8,8,8,8,8,8,8,8,8,8,8,8,8,8,8,8,8,8,8,8,8,8,8,8,8,8,8,8,8,8,8,8,8,8,8,8,8,8,8,8,8,8,8,8,8,8,8,8,8,8,8,8,8,8,8,8,8,8,8,8,8,8,8,8,8,8,8,8,8,8,8,8,8,8,8,8,8,8,8,8,8,8,8,8,8,8,8,8,8,8,8,8,8,8,8,8,8,8,8,8,8,8,8,8,8,8,8,8,8,8,8,8,8,8,8,8,8,8,8,8,8,8,8]
theorem tab_lit:bs [0,1,2,2,3,3,3,3,4,4,4,4,4,4,4,4,5,5,5,5,5,5,5,5,5,5,5,5,5,5,5,5,6,6,6,6,6,6,6,6,6,6,6,6,6,6,6,6,6,6,6,6,6,6,6,6,6,6,6,6,6,6,6,6,7,7,7,7,7,7,7,7,7,7,7,7,7,7,7,7,7,7,7,7,7,7,7,7,7,7,7,7,7,7,7,7,7,7,7,7,7,7,7,7,7,7,7,7,7,7,7,7,7,7,7,7,7,7,7,7,7,7,7,7,7,7,7,7,8,8,8,8,8,8,8,8,8,8,8,8,8,8,8,8,8,8,8,8,8,8,8,8,8,8,8,8,8,8,8,8,8,8,8,8,8,8,8,8,8,8,8,8,8,8,8,8,8,8,8,8,8,8,8,8,8,8,8,8,8,8,8,8,8,8,8,8,8,8,8,8,8,8,8,8,8,8,8,8,8,8,8,8,8,8,8,8,8,8,8,8,8,8,8,8,8,8,8,8,8,8,8,8,8,8,8,8,8,8,8,8,8,8,8,8,8,8,8,8,8,8,8,8,8,8,8,8]=bs tabL:=rfl
def tabB:Bool:=(List.range 256).all fun y=>match (bs tabL)[y]? with
 | some b=>Nat.beq b.toNat (tabL.getD y 0)&&(Nat.beq y 0||Nat.ble (2 ^ b.toNat) (2*y))&&Nat.ble b.toNat 8
 | none=>false
theorem tabB_ok:tabB=true:=by kernel_rfl
theorem tab_at {y:Nat} (h:y<256):∃ b:UInt8,(bs tabL)[y]?=some b/\b.toNat=tabL.getD y 0/\(y=0∨2 ^ tabL.getD y 0<=2*y)/\tabL.getD y 0<=8:=by
 have h1:=zdh.1 tabB_ok y (List.mem_range.2 h)
 cases hb:(bs tabL)[y]? with
 | none=>rw [hb] at h1; simp at h1
 | some b =>
  rw [hb] at h1
  simp only [zcm,Bool.or_eq_true,Nat.beq_eq,Nat.ble_eq] at h1
  obtain ⟨⟨h2,h3⟩,h4⟩:=h1
  refine ⟨b,rfl,h2,?_,by omega⟩
  rw [← h2]
  exact h3
def lenN (x:Nat):Nat:=if x<256 then tabL.getD x 0 else 8+tabL.getD (x / 256) 0
theorem lenN_le {x:Nat} (h0:0<x) (h:x<65536):2 ^ lenN x<=2*x/\lenN x<=16:=by
 unfold lenN
 split
 ·rename_i h1
  obtain ⟨b,_,_,h2,h3⟩:=tab_at h1
  exact ⟨by omega,by omega⟩
 ·obtain ⟨b,_,_,h2,h3⟩:=tab_at (y:=x / 256) (by omega)
  refine ⟨?_,by omega⟩
  rw [Nat.pow_add]
  have:x / 256*256<=x:=Nat.div_mul_le_self _ _
  rcases h2 with h2 | h2
  ·omega
  ·have e:2 ^ 8=256:=rfl
   rw [e]
   omega
theorem wrap_u {k:IntKind} {x:Nat} (h:x<256) (hk:k=.u8∨k=.u64∨k=.i64):wrapI k (x:Int)=(x:Int):=by
 rw [zC]
 rcases hk with rfl | rfl | rfl
 ·exact IntWalk.u8_in _ (by omega)
 ·exact IntWalk.u64_in _ (by omega)
 ·exact IntWalk.i64_in _ (by omega)
section
variable {S:ySM}
theorem gives_len64 (hS:NoS S) (x:Nat) (hx:x<65536):Gives Ftab S 122 [.int .u64 (x:Int)] (.int .i64 (lenN x:Int)):=by
 refine zM (i:=i122) (k:=1) (ns hS (by rfl)) rfl rfl zy 2 (by omega) fun m hm d out=>?_
 have h1:¬ ((4294967296:Int)<=(x:Int)):=by omega
 have h2:¬ ((65536:Int)<=(x:Int)):=by omega
 have ei:∀ (C:Call) (d:Nat) (out:yLM) (n0:Nat) (ownV own:yLO) (t:List IV) (a b:Opd),evOp C d out n0 ownV own t (.indexS a b)=e_indexS own t a b:=fun _ _ _ _ _ _ _ _ _=>rfl
 by_cases h3:(256:Int)<=(x:Int)
 ·have hsh:shiftI .shr .u64 (x:Int) 8=some (.int .u64 ((x / 256:Nat):Int)):=by
   have e:(2:Int) ^ (min (8:Int).toNat IntKind.u64.bits)=256:=by decide
   simp only [shiftI,e]
   rw [Int.fdiv_eq_ediv_of_nonneg _ (by omega)]
   rfl
  obtain ⟨b,hb,hb2,_,h8⟩:=tab_at (y:=x / 256) (by omega)
  have hw:wrapI .u8 ((x / 256:Nat):Int)=((x / 256:Nat):Int):=wrap_u (by omega) (.inl rfl)
  have hw8:wrapI .i64 ((0:Int)+8)=8:=rfl
  have hc:natI (.int .u8 ((x / 256:Nat):Int))=some (x / 256):=z8
  have hwb:wrapI .i64 ((b.toNat:Nat):Int)=((b.toNat:Nat):Int):=wrap_u (by omega) (.inr (.inr rfl))
  have hwc:wrapI .i64 ((8:Int)+((b.toNat:Nat):Int))=((lenN x:Nat):Int):=by
   refine yx ?_ ?_ <;> unfold lenN <;> rw [if_neg (by omega)] <;> omega
  simp only [i122,tab_lit,W0,e_nilchk,e_pick,e_box,e_bslice,e_load,e_store,e_eqb,e_eqp,e_eqs,e_eqagg,e_conv,e_faddr,e_field,e_extract,e_call,e_mx,mkAt,List.replicate,look,mkv,binI,intBin,isShift,unI,fillI,cellV,Nat.reduceAdd,Nat.reduceMul,Nat.reduceLeDiff,reduceCtorEq,Nat.reduceEqDiff,ge_iff_le,h1,h2,h3,hsh,hw8,hw,ei,e_indexS,hc,hb,hwb,hwc,e_conv]
 ·obtain ⟨b,hb,hb2,_,h8⟩:=tab_at (y:=x) (by omega)
  have hw:wrapI .u8 (x:Int)=(x:Int):=wrap_u (by omega) (.inl rfl)
  have hc:natI (.int .u8 (x:Int))=some x:=z8
  have hwb:wrapI .i64 ((b.toNat:Nat):Int)=((b.toNat:Nat):Int):=wrap_u (by omega) (.inr (.inr rfl))
  have hwc:wrapI .i64 ((0:Int)+((b.toNat:Nat):Int))=((lenN x:Nat):Int):=by
   refine yx ?_ ?_ <;> unfold lenN <;> rw [if_pos (by omega)] <;> omega
  simp only [i122,tab_lit,W0,e_nilchk,e_pick,e_box,e_bslice,e_load,e_store,e_eqb,e_eqp,e_eqs,e_eqagg,e_conv,e_faddr,e_field,e_extract,e_call,e_mx,mkAt,List.replicate,look,mkv,binI,intBin,isShift,unI,fillI,cellV,Nat.reduceAdd,Nat.reduceMul,Nat.reduceLeDiff,reduceCtorEq,Nat.reduceEqDiff,ge_iff_le,h1,h2,h3,hw,ei,e_indexS,hc,hb,hwb,hwc,e_conv]
theorem gives_len (hS:NoS S) (x:Nat) (hx:x<65536):Gives Ftab S 100 [.int .u64 (x:Int)] (.int .i64 (lenN x:Int)):=by
 obtain ⟨N,hN⟩:=gives_len64 hS x hx
 refine zM (i:=i100) (k:=1) (ns hS (by rfl)) rfl rfl zy (N+2) (by omega) fun m hm d out=>?_
 have c1:=hN m (by omega)
 simp only [i100,W0,e_nilchk,e_pick,e_box,e_bslice,e_load,e_store,e_eqb,e_eqp,e_eqs,e_eqagg,e_conv,e_faddr,e_field,e_extract,e_call,e_mx,mkAt,List.replicate,look,mkv,binI,intBin,isShift,unI,fillI,cellV,Nat.reduceAdd,Nat.reduceMul,Nat.reduceLeDiff,reduceCtorEq,Nat.reduceEqDiff,c1]
theorem gives_pow (hS:NoS S) (x:Nat) (h0:0<x) (hx:x<65536):Gives Ftab S 143 [.int .i64 (x:Int)] (.int .u64 ((2 ^ lenN x:Nat):Int)):=by
 obtain ⟨N,hN⟩:=gives_len hS x hx
 refine zM (i:=i143) (k:=1) (ns hS (by rfl)) rfl rfl zy (N+2) (by omega) fun m hm d out=>?_
 have c1:=hN m (by omega)
 have hl:=lenN_le h0 hx
 have hw:wrapI .u64 (x:Int)=(x:Int):=by
  rw [zC]
  exact IntWalk.u64_in _ (by omega)
 have hsh:shiftI .shl .u64 1 (lenN x:Int)=some (.int .u64 ((2 ^ lenN x:Nat):Int)):=by
  have hle:lenN x<=64:=by omega
  have e:min ((lenN x:Int)).toNat IntKind.u64.bits=lenN x:=by
   rw [Int.toNat_natCast]
   exact Nat.min_eq_left hle
  simp only [shiftI,e]
  rw [if_neg (by omega),zC]
  have h2:(1:Int)*2 ^ lenN x=((2 ^ lenN x:Nat):Int):=by simp
  rw [h2]
  have hP:=hl.1
  generalize 2 ^ lenN x=P at hP ⊢
  rw [IntWalk.u64_in _ (by omega)]
 simp only [i143,W0,e_nilchk,e_pick,e_box,e_bslice,e_load,e_store,e_eqb,e_eqp,e_eqs,e_eqagg,e_conv,e_faddr,e_field,e_extract,e_call,e_mx,mkAt,List.replicate,look,mkv,binI,intBin,isShift,unI,fillI,cellV,Nat.reduceAdd,Nat.reduceMul,Nat.reduceLeDiff,reduceCtorEq,Nat.reduceEqDiff,e_conv,hw,c1,hsh]
theorem zbm (hS:NoS S) {own0:yLO} {b d:Nat} {out:yLM} (hb:b<own0.length) (m:Nat) (hm:2<=m) (c:List IV) (J0 J:yLO) (z:Int) :
  ∃ (w:Int) (J':yLO),(∀ id,callN Ftab S m d out (Bk own0 b c++(J0++.cells [.int .u64 z]::J)) (Bk own0 b c++(J0++.cells [.int .u64 z]::J)) id 144 [.ptrM d (own0.length+J0.length) 0]=some (.x,.int .u64 w,Bk own0 b c++(J0++.cells [.int .u64 w]::J'))):=by
 obtain ⟨m,rfl⟩:∃ q,m=q+1:=⟨m - 1,by omega⟩
 have main:∃ v own',(∀ id,callN Ftab S (m+1) d out (Bk own0 b c++(J0++.cells [.int .u64 z]::J)) (Bk own0 b c++(J0++.cells [.int .u64 z]::J)) id 144 [.ptrM d (own0.length+J0.length) 0]=some (.x,v,own'))/\(∃ (w:Int) (J':yLO),v=.int .u64 w/\own'=Bk own0 b c++(J0++.cells [.int .u64 w]::J')):=by
  refine zt (i:=i144) (ns hS (by rfl)) rfl rfl (lb rfl) fun t hfr=>?_
  simp only [V2,i144] at hfr
  obtain ⟨w1,h1⟩:∃ w,shiftI .shl .u64 z 13=some (.int .u64 w):=⟨_,rfl⟩
  simp only [i144,V0,sevalprocAttr,hfr,zO,zQ,zN,yH,h1]
  refine ⟨by simp [comm],?_⟩
  generalize IntKind.wrap .u64 _=z1
  obtain ⟨w2,h2⟩:∃ w,shiftI .shr .u64 z1 7=some (.int .u64 w):=⟨_,rfl⟩
  simp only [V0,sevalprocAttr,hfr,zO,zQ,zN,yH,h2]
  refine ⟨by simp [comm],?_⟩
  generalize IntKind.wrap .u64 _=z2
  obtain ⟨w3,h3⟩:∃ w,shiftI .shl .u64 z2 17=some (.int .u64 w):=⟨_,rfl⟩
  simp only [V0,sevalprocAttr,hfr,zO,zQ,zN,yH,h3]
  refine ⟨by simp [comm],?_⟩
  simp only [V0,sevalprocAttr,hfr,zO,zQ,zN,yH,ze]
  exact ⟨_,rfl,_,_,rfl,rfl⟩
 obtain ⟨v,own',h1,w,J',rfl,rfl⟩:=main
 exact ⟨w,J',h1⟩
theorem mask_le (x:Int) (P:Nat) (h0:0<P) (h:P<=131072):∃ v:Nat,v<P/\IntKind.wrap .u64 (((BitVec.ofInt IntKind.u64.bits x &&& BitVec.ofInt IntKind.u64.bits ((P - 1:Nat):Int)).toNat:Nat):Int)=(v:Int):=by
 refine ⟨(BitVec.ofInt IntKind.u64.bits x &&& BitVec.ofInt IntKind.u64.bits ((P - 1:Nat):Int)).toNat,?_,?_⟩
 ·rw [BitVec.toNat_and]
  refine Nat.lt_of_le_of_lt Nat.and_le_right ?_
  rw [BitVec.ofInt_natCast,BitVec.toNat_ofNat]
  exact Nat.lt_of_le_of_lt (Nat.mod_le _ _) (by omega)
 ·refine IntWalk.u64_in _ ⟨by omega,?_⟩
  have h1:(BitVec.ofInt IntKind.u64.bits x &&& BitVec.ofInt IntKind.u64.bits ((P - 1:Nat):Int)).toNat<=P - 1:=by
   rw [BitVec.toNat_and]
   refine zd6 Nat.and_le_right ?_
   rw [BitVec.ofInt_natCast,BitVec.toNat_ofNat]
   exact Nat.mod_le _ _
  omega
def PowOK (S:ySM) (N:Nat):Prop:=∀ x:Nat,0<x->x<65536->∀ m,N<=m->∀ d out ownV own id,callN Ftab S m d out ownV own id 143 [.int .i64 (x:Int)]=some (.r,.int .u64 ((2 ^ lenN x:Nat):Int),own)
def LenOK (S:ySM) (N:Nat):Prop:=∀ x:Nat,x<65536->∀ m,N<=m->∀ d out ownV own id,callN Ftab S m d out ownV own id 100 [.int .u64 (x:Int)]=some (.r,.int .i64 (lenN x:Int),own)
theorem unifN {P:Nat->Nat->Prop} (hmono:∀ N M x,N<=M->P N x->P M x):∀ B,(∀ x,x<B->∃ N,P N x)->∃ N,∀ x,x<B->P N x
 | 0,_=>⟨0,fun x h=>absurd h (Nat.not_lt_zero _)⟩
 | B+1,h=>by
  obtain ⟨N,hN⟩:=unifN hmono B fun x hx=>h x (by omega)
  obtain ⟨M,hM⟩:=h B (by omega)
  refine ⟨N+M,fun x hx=>?_⟩
  by_cases hb:x=B
  ·exact hmono M _ _ (by omega) (hb ▸ hM)
  ·exact hmono N _ _ (by omega) (hN x (by omega))
theorem pow_ok (hS:NoS S):∃ N,PowOK S N:=by
 obtain ⟨N,hN⟩:=unifN (P:=fun N x=>0<x->∀ m,N<=m->∀ d out ownV own id,callN Ftab S m d out ownV own id 143 [.int .i64 (x:Int)]=some (.r,.int .u64 ((2 ^ lenN x:Nat):Int),own)) (fun N M x h hp h0 m hm=>hp h0 m (by omega)) 65536 fun x hx=>by
  by_cases h0:0<x
  ·obtain ⟨N,hN⟩:=gives_pow hS x h0 hx
   exact ⟨N,fun _=>hN⟩
  ·exact ⟨0,fun h=>absurd h h0⟩
 exact ⟨N,fun x h0 hx=>hN x hx h0⟩
theorem len_ok (hS:NoS S):∃ N,LenOK S N:=by
 obtain ⟨N,hN⟩:=unifN (P:=fun N x=>∀ m,N<=m->∀ d out ownV own id,callN Ftab S m d out ownV own id 100 [.int .u64 (x:Int)]=some (.r,.int .i64 (lenN x:Int),own)) (fun N M x h hp m hm=>hp m (by omega)) 65536 fun x hx=>gives_len hS x hx
 exact ⟨N,fun x hx=>hN x hx⟩
end
end
section
section
variable {X:SF} {S:ySM} {α:Type} {g:α->List IV} {e:α->IV} {own0:yLO} {b d:Nat} {out:yLM} {n cp:Nat} {tg:Bool} {gf:FuncId} {caps:List IV} {r:α->α->Int} {Nc:Nat}
theorem x_brk (hFm:FamOK S X) (hS:NoS S) (hb:b<own0.length) (hE:Elt g e X.sz X.ag) (hc:CmpOK S Nc d out own0 b e gf caps r) (hn:n<65536) (m:Nat) (hm:Nc+n+12<=m) (ownV:yLO) (xs:List α) (J:yLO) (a c:Nat) (hl0:xs.length=n) (hac:a+12<c) (hcn:c<=n) (hP:PowOK S Nc) :
  ∃ (xs':List α) (J':yLO),(∀ id,callN Ftab S m d out ownV (Bk own0 b (xs.flatMap g)++J) id X.brk [.slM d b 0 n cp X.sz tg,.int .i64 (a:Int),.int .i64 (c:Int),.fn gf [] caps]=some (.x,.tuple [],Bk own0 b (xs'.flatMap g)++J'))/\xs'.Perm xs:=by
 obtain ⟨m,rfl⟩:∃ q,m=q+1:=⟨m - 1,by omega⟩
 have main:∃ v own',(∀ id,callN Ftab S (m+1) d out ownV (Bk own0 b (xs.flatMap g)++J) id X.brk [.slM d b 0 n cp X.sz tg,.int .i64 (a:Int),.int .i64 (c:Int),.fn gf [] caps]=some (.x,v,own'))/\(v=.tuple []/\∃ (xs':List α) (J':yLO),own'=Bk own0 b (xs'.flatMap g)++J'/\xs'.Perm xs):=by
  refine zt (i:=cBrk X) (hFm.brk.1 _) hFm.brk.2 rfl (lb rfl) fun t hfr=>?_
  simp only [V2,Nat.reduceAdd,cBrk] at hfr
  have e1:wrapI .i64 ((c:Int) - (a:Int))=((c - a:Nat):Int):=we
  have h8:(8:Int)<=((c - a:Nat):Int):=by omega
  have hu:wrapI .u64 ((c - a:Nat):Int)=((c - a:Nat):Int):=by
   rw [zC]
   exact IntWalk.u64_in _ (by omega)
  have hpw:=hP (c - a) (by omega) (by omega) m (by omega)
  have hpl:=lenN_le (x:=c - a) (by omega) (by omega)
  have hpos:0<2 ^ lenN (c - a):=Nat.pow_pos (by omega)
  generalize 2 ^ lenN (c - a)=P at hpw hpl hpos
  have e2:wrapI .i64 (Int.tdiv ((c - a:Nat):Int) 4)=(((c - a) / 4:Nat):Int):=yP _ 4 (by omega)
  have e0:((4:Int)=0)=False:=eq_false (by decide)
  have hL1:4*((c - a) / 4)<=c - a:=Nat.mul_div_le _ _
  have hL2:3<=(c - a) / 4:=by omega
  generalize (c - a) / 4=L at e2 hL1 hL2
  have m2:wrapI .i64 ((L:Int)*2)=((L*2:Nat):Int):=we
  have a2:wrapI .i64 ((a:Int)+((L*2:Nat):Int))=((a+L*2:Nat):Int):=we
  have s1:wrapI .i64 (((a+L*2:Nat):Int) - 1)=((a+L*2 - 1:Nat):Int):=we
  have p1:wrapI .i64 (((a+L*2:Nat):Int)+1)=((a+L*2+1:Nat):Int):=we
  have hp1:wrapI .u64 ((P:Int) - 1)=((P - 1:Nat):Int):=by
   rw [zC,show (P:Int) - 1=((P - 1:Nat):Int) by omega]
   exact IntWalk.u64_in _ (by omega)
  simp only [cBrk,V0,sevalprocAttr,hfr,L1,L2 hb hE,zO,zQ,zN,e0,e1,h8,hu,hpw,e2,m2,a2,s1,e_conv]
  refine zb (fun jj st=>∃ (i:Nat) (z:Int) (ys:List α) (J1:yLO),a+L*2+2 - i<=jj/\(a+L*2 - 1<=i/\i<=a+L*2+2)/\ys.Perm xs/\st.own=Bk own0 b (ys.flatMap g)++(J++.cells [.int .u64 z]::J1)/\Slots 67 st.t [(0,.slM d b 0 n cp X.sz tg),(1,iv a),(8,iv (c - a:Nat)),(9,.ptrM d (own0.length+J.length) 0),(10,.int .u64 (P:Int)),(11,iv i)]) 3 (by omega) ⟨a+L*2 - 1,_,xs,_,by omega,by omega,zc9 _,rfl,by simp only [V0,sevalprocAttr,hfr,e1,e2,hpw]⟩ ?_
  rintro jj ⟨t,own⟩ KA ⟨i,z,ys,J1,hjj,h1,hp,ho,hfr⟩ hnA heA hrA
  dsimp only at ho hfr
  subst ho
  simp only [V3] at hfr
  have hly:ys.length=n:=hp.length_eq.trans hl0
  by_cases h:i<=a+L*2+1
  ·have i1:wrapI .i64 ((i:Int)+1)=((i+1:Nat):Int):=we
   obtain ⟨w,J2,hnx⟩:=zbm (d:=d) (out:=out) hS hb m (by omega) (ys.flatMap g) J (J1++[.free]) z
   obtain ⟨v,hv1,hv⟩:=mask_le w P hpos (by omega)
   have hcv:wrapI .i64 (v:Int)=(v:Int):=yx rfl (by omega)
   simp only [V0,sevalprocAttr,hfr,L1,L2 hb hE,zO,zQ,zN,e0,e2,m2,a2,p1,h,hnx,hp1,hv,hcv,e_conv]
   by_cases h2:c - a<=v
   ·have sv:wrapI .i64 ((v:Int) - ((c - a:Nat):Int))=((v - (c - a):Nat):Int):=we
    have o1:wrapI .i64 ((a:Int)+(((v - (c - a)):Nat):Int))=((a+(v - (c - a)):Nat):Int):=we
    have hi:i<n:=by omega
    have hj:a+(v - (c - a))<n:=by omega
    obtain ⟨x,hx⟩:=gx (l:=ys) (i:=i) (by omega)
    have lx:=hE.ld hx
    obtain ⟨y,hy⟩:=gx (l:=ys) (i:=a+(v - (c - a))) (by omega)
    have ly:=hE.ld hy
    simp only [V0,sevalprocAttr,hfr,L1,L2 hb hE,zO,zQ,zN,h2,sv,o1,hi,hj,hly,lx,ly]
    refine ⟨by simp [comm],?_⟩
    simp only [V0,sevalprocAttr,hfr,i1]
    exact hnA _ (a+L*2+2 - (i+1)) (by omega) ⟨i+1,w,_,_,by omega,by omega,(zm hx hy).trans hp,rfl,by simp only [V0,sevalprocAttr,hfr]⟩
   ·have o1:wrapI .i64 ((a:Int)+((v:Nat):Int))=((a+v:Nat):Int):=we
    have hi:i<n:=by omega
    have hj:a+v<n:=by omega
    obtain ⟨x,hx⟩:=gx (l:=ys) (i:=i) (by omega)
    have lx:=hE.ld hx
    obtain ⟨y,hy⟩:=gx (l:=ys) (i:=a+v) (by omega)
    have ly:=hE.ld hy
    simp only [V0,sevalprocAttr,hfr,L1,L2 hb hE,zO,zQ,zN,h2,o1,hi,hj,hly,lx,ly]
    refine ⟨by simp [comm],?_⟩
    simp only [V0,sevalprocAttr,hfr,i1]
    exact hnA _ (a+L*2+2 - (i+1)) (by omega) ⟨i+1,w,_,_,by omega,by omega,(zm hx hy).trans hp,rfl,by simp only [V0,sevalprocAttr,hfr]⟩
  ·simp only [V0,sevalprocAttr,hfr,L1,L2 hb hE,e0,e2,m2,a2,p1,h]
   refine heA _ _ ?_
   simp only [V0,sevalprocAttr,hfr,zr,ze,yk]
   exact ⟨_,rfl,rfl,ys,_,rfl,hp⟩
 obtain ⟨v,own',h1,rfl,xs',J',rfl,hp⟩:=main
 exact ⟨xs',J',h1,hp⟩
end
end
section
section
variable {X:SF} {S:ySM} {α:Type} {g:α->List IV} {e:α->IV} {own0:yLO} {b d:Nat} {out:yLM} {n cp:Nat} {tg:Bool} {gf:FuncId} {caps:List IV} {r:α->α->Int} {Nc:Nat}
theorem x_pdq0 (hFm:FamOK S X) (hS:NoS S) (hb:b<own0.length) (hE:Elt g e X.sz X.ag) (hc:CmpOK S Nc d out own0 b e gf caps r) (hn:n<65536) (m:Nat) (hm:Nc+n+14<=m) {K:yKM} (ys:List α) (J:yLO) (t:List IV) (a c:Nat) (lim:Int) (wb wp:Bool)  (hly:ys.length=n) (hac:a<=c) (hcn:c<=n) (hfr:Slots 148 t [(0,.slM d b 0 n cp X.sz tg),(1,iv (a:Nat)),(2,iv (c:Nat)),(3,.int .i64 lim),(4,.fn gf [] caps),(10,.bool wb),(11,.bool wp)]) (hK:∀ t',Slots 148 t' [(0,.slM d b 0 n cp X.sz tg),(1,iv (a:Nat)),(2,iv (c:Nat)),(3,.int .i64 lim),(4,.fn gf [] caps),(10,.bool wb),(11,.bool wp),(12,iv (c - a:Nat))]->K .normal ⟨t',Bk own0 b (ys.flatMap g)++J⟩) :
  Ex (callN Ftab S m) d out m ((cPdq X).body.sub [1,1,0,0,0,0]) K ⟨t,Bk own0 b (ys.flatMap g)++J⟩:=by
 simp only [V3] at hfr
 have e1:wrapI .i64 ((c:Int) - (a:Int))=((c - a:Nat):Int):=we
 simp only [cPdq,IC.sub,V0,sevalprocAttr,hfr,e1]
 exact hK _ (by simp only [V0,sevalprocAttr,hfr])
theorem x_pdq1 (hFm:FamOK S X) (hS:NoS S) (hb:b<own0.length) (hE:Elt g e X.sz X.ag) (hc:CmpOK S Nc d out own0 b e gf caps r) (hn:n<65536) (m:Nat) (hm:Nc+n+14<=m) {K:yKM} (ys:List α) (J:yLO) (t:List IV) (a c:Nat) (lim:Int) (wb wp:Bool)  (hly:ys.length=n) (hac:a<=c) (hcn:c<=n) (hfr:Slots 148 t [(0,.slM d b 0 n cp X.sz tg),(1,iv (a:Nat)),(2,iv (c:Nat)),(3,.int .i64 lim),(4,.fn gf [] caps),(10,.bool wb),(11,.bool wp),(12,iv (c - a:Nat))]) (hR:∀ (ys':List α) (J':yLO) (t':List IV),ys'.Perm ys->K .ret ⟨t',Bk own0 b (ys'.flatMap g)++J'⟩) (hK:∀ t',12<c - a->Slots 148 t' [(0,.slM d b 0 n cp X.sz tg),(1,iv (a:Nat)),(2,iv (c:Nat)),(3,.int .i64 lim),(4,.fn gf [] caps),(10,.bool wb),(11,.bool wp),(12,iv (c - a:Nat))]->K .normal ⟨t',Bk own0 b (ys.flatMap g)++J⟩) :
  Ex (callN Ftab S m) d out m ((cPdq X).body.sub [1,1,0,0,0,1,0]) K ⟨t,Bk own0 b (ys.flatMap g)++J⟩:=by
 simp only [V3] at hfr
 by_cases h12:((c - a:Nat):Int)<=12
 ·obtain ⟨ys',J',hs,hp⟩:=x_ins (cp:=cp) (tg:=tg) (d:=d) (out:=out) hFm hS hb hE hc hn m (by omega) (Bk own0 b (ys.flatMap g)++(J++[.free])) ys (J++[.free]) a c hly hac hcn
  simp only [cPdq,IC.sub,V0,sevalprocAttr,hfr,L1,L2 hb hE,h12,hs]
  exact hR _ _ _ hp
 ·simp only [cPdq,IC.sub,V0,sevalprocAttr,hfr,L1,L2 hb hE,h12]
  exact hK _ (by omega) (by simp only [V0,sevalprocAttr,hfr])
theorem x_pdq2 (hFm:FamOK S X) (hS:NoS S) (hb:b<own0.length) (hE:Elt g e X.sz X.ag) (hc:CmpOK S Nc d out own0 b e gf caps r) (hn:n<65536) (m:Nat) (hm:Nc+n+14<=m) {K:yKM} (ys:List α) (J:yLO) (t:List IV) (a c:Nat) (lim:Int) (wb wp:Bool) (h12:12<c - a) (hly:ys.length=n) (hac:a<=c) (hcn:c<=n) (hfr:Slots 148 t [(0,.slM d b 0 n cp X.sz tg),(1,iv (a:Nat)),(2,iv (c:Nat)),(3,.int .i64 lim),(4,.fn gf [] caps),(10,.bool wb),(11,.bool wp),(12,iv (c - a:Nat))]) (hR:∀ (ys':List α) (J':yLO) (t':List IV),ys'.Perm ys->K .ret ⟨t',Bk own0 b (ys'.flatMap g)++J'⟩) (hK:∀ t',Slots 148 t' [(0,.slM d b 0 n cp X.sz tg),(1,iv (a:Nat)),(2,iv (c:Nat)),(3,.int .i64 lim),(4,.fn gf [] caps),(10,.bool wb),(11,.bool wp),(12,iv (c - a:Nat))]->K .normal ⟨t',Bk own0 b (ys.flatMap g)++J⟩) :
  Ex (callN Ftab S m) d out m ((cPdq X).body.sub [1,1,0,0,0,1,1,0]) K ⟨t,Bk own0 b (ys.flatMap g)++J⟩:=by
 simp only [V3] at hfr
 cases hz:lim==0
 ·simp only [cPdq,IC.sub,V0,sevalprocAttr,hfr,L1,L2 hb hE,hz]
  exact hK _ (by simp only [V0,sevalprocAttr,hfr])
 ·obtain ⟨ys',J',hs,hp⟩:=x_heap (cp:=cp) (tg:=tg) (d:=d) (out:=out) hFm hS hb hE hc hn m (by omega) (Bk own0 b (ys.flatMap g)++(J++[.free])) ys (J++[.free]) a c hly (by omega) hcn
  simp only [cPdq,IC.sub,V0,sevalprocAttr,hfr,L1,L2 hb hE,hz,hs]
  exact hR _ _ _ hp
theorem x_pdq3 (hFm:FamOK S X) (hS:NoS S) (hb:b<own0.length) (hE:Elt g e X.sz X.ag) (hc:CmpOK S Nc d out own0 b e gf caps r) (hn:n<65536) (m:Nat) (hm:Nc+n+14<=m) {K:yKM} (ys:List α) (J:yLO) (t:List IV) (a c:Nat) (lim:Int) (wb wp:Bool) (h12:12<c - a) (hP:PowOK S Nc) (hly:ys.length=n) (hac:a<=c) (hcn:c<=n) (hfr:Slots 148 t [(0,.slM d b 0 n cp X.sz tg),(1,iv (a:Nat)),(2,iv (c:Nat)),(3,.int .i64 lim),(4,.fn gf [] caps),(10,.bool wb),(11,.bool wp),(12,iv (c - a:Nat))]) (hK:∀ (lim':Int) (ys':List α) (J':yLO) t',ys'.Perm ys->Slots 148 t' [(0,.slM d b 0 n cp X.sz tg),(1,iv (a:Nat)),(2,iv (c:Nat)),(3,.int .i64 lim'),(4,.fn gf [] caps),(10,.bool wb),(11,.bool wp),(12,iv (c - a:Nat))]->K .normal ⟨t',Bk own0 b (ys'.flatMap g)++J'⟩) :
  Ex (callN Ftab S m) d out m ((cPdq X).body.sub [1,1,0,0,0,1,1,1,0]) K ⟨t,Bk own0 b (ys.flatMap g)++J⟩:=by
 simp only [V3] at hfr
 cases wb with
 | true =>
  simp only [cPdq,IC.sub,V0,sevalprocAttr,hfr,L1,L2 hb hE,hfr]
  exact hK lim _ _ _ (zc9 _) (by simp only [V0,sevalprocAttr,hfr])
 | false =>
  obtain ⟨ys',J',hs,hp⟩:=x_brk (cp:=cp) (tg:=tg) (d:=d) (out:=out) hFm hS hb hE hc hn m (by omega) (Bk own0 b (ys.flatMap g)++(J++[.free])) ys (J++[.free]) a c hly (by omega) hcn hP
  simp only [cPdq,IC.sub,V0,sevalprocAttr,hfr,L1,L2 hb hE,hs]
  exact hK (wrapI .i64 (lim - 1)) _ _ _ hp (by simp only [V0,sevalprocAttr,hfr])
theorem x_pdq4 (hFm:FamOK S X) (hS:NoS S) (hb:b<own0.length) (hE:Elt g e X.sz X.ag) (hc:CmpOK S Nc d out own0 b e gf caps r) (hn:n<65536) (m:Nat) (hm:Nc+n+14<=m) {K:yKM} (ys:List α) (J:yLO) (t:List IV) (a c:Nat) (lim:Int) (wb wp:Bool) (h12:12<c - a) (hly:ys.length=n) (hac:a<=c) (hcn:c<=n) (hfr:Slots 148 t [(0,.slM d b 0 n cp X.sz tg),(1,iv (a:Nat)),(2,iv (c:Nat)),(3,.int .i64 lim),(4,.fn gf [] caps),(10,.bool wb),(11,.bool wp),(12,iv (c - a:Nat))]) (hK:∀ (p:Nat) (w:Int) (ys':List α) (J':yLO) t',a<=p->p<c->ys'.Perm ys->Slots 148 t' [(0,.slM d b 0 n cp X.sz tg),(1,iv (a:Nat)),(2,iv (c:Nat)),(3,.int .i64 lim),(4,.fn gf [] caps),(10,.bool wb),(11,.bool wp),(12,iv (c - a:Nat)),(13,iv (p:Nat)),(14,.int .i64 w)]->K .normal ⟨t',Bk own0 b (ys'.flatMap g)++J'⟩) :
  Ex (callN Ftab S m) d out m ((cPdq X).body.sub [1,1,0,0,0,1,1,1,1,0]) K ⟨t,Bk own0 b (ys.flatMap g)++J⟩:=by
 simp only [V3] at hfr
 obtain ⟨ys',J',p,w,hs,hp,h1,h2⟩:=x_piv (cp:=cp) (tg:=tg) (d:=d) (out:=out) hFm hS hb hE hc hn m (by omega) (Bk own0 b (ys.flatMap g)++(J++[.free])) ys (J++[.free]) a c hly (by omega) hcn
 simp only [cPdq,IC.sub,V0,sevalprocAttr,hfr,L1,L2 hb hE,hs]
 exact hK p w _ _ _ h1 h2 hp (by simp only [V0,sevalprocAttr,hfr])
theorem x_pdq5 (hFm:FamOK S X) (hS:NoS S) (hb:b<own0.length) (hE:Elt g e X.sz X.ag) (hc:CmpOK S Nc d out own0 b e gf caps r) (hn:n<65536) (m:Nat) (hm:Nc+n+14<=m) {K:yKM} (ys:List α) (J:yLO) (t:List IV) (a c:Nat) (lim:Int) (wb wp:Bool) (p:Nat) (w:Int) (h12:12<c - a) (h1:a<=p) (h2:p<c) (hly:ys.length=n) (hac:a<=c) (hcn:c<=n) (hfr:Slots 148 t [(0,.slM d b 0 n cp X.sz tg),(1,iv (a:Nat)),(2,iv (c:Nat)),(3,.int .i64 lim),(4,.fn gf [] caps),(10,.bool wb),(11,.bool wp),(12,iv (c - a:Nat)),(13,iv (p:Nat)),(14,.int .i64 w)]) (hK:∀ (p:Nat) (w:Int) (ys':List α) (J':yLO) t',a<=p->p<c->ys'.Perm ys->Slots 148 t' [(0,.slM d b 0 n cp X.sz tg),(1,iv (a:Nat)),(2,iv (c:Nat)),(3,.int .i64 lim),(4,.fn gf [] caps),(10,.bool wb),(11,.bool wp),(12,iv (c - a:Nat)),(13,iv (p:Nat)),(14,.int .i64 w)]->K .normal ⟨t',Bk own0 b (ys'.flatMap g)++J'⟩) :
  Ex (callN Ftab S m) d out m ((cPdq X).body.sub [1,1,0,0,0,1,1,1,1,1,0]) K ⟨t,Bk own0 b (ys.flatMap g)++J⟩:=by
 simp only [V3] at hfr
 cases hz:w==2
 ·simp only [cPdq,IC.sub,V0,sevalprocAttr,hfr,L1,L2 hb hE,hz]
  exact hK p w _ _ _ h1 h2 (zc9 _) (by simp only [V0,sevalprocAttr,hfr])
 ·obtain ⟨ys',J',hs,hp⟩:=x_rev (cp:=cp) (tg:=tg) (d:=d) (out:=out) hFm hS hb hE hc hn m (by omega) (Bk own0 b (ys.flatMap g)++(J++[.free])) ys (J++[.free]) a c hly (by omega) hcn
  have f1:wrapI .i64 ((c:Int) - 1)=((c - 1:Nat):Int):=we
  have f2:wrapI .i64 ((p:Int) - (a:Int))=((p - a:Nat):Int):=we
  have f3:wrapI .i64 (((c - 1:Nat):Int) - ((p - a:Nat):Int))=((c - 1 - (p - a):Nat):Int):=we
  simp only [cPdq,IC.sub,V0,sevalprocAttr,hfr,L1,L2 hb hE,hz,hs,f1,f2,f3]
  exact hK (c - 1 - (p - a)) 1 _ _ _ (by omega) (by omega) hp (by simp only [V0,sevalprocAttr,hfr,f1,f2,f3])
theorem x_pdq6 (hFm:FamOK S X) (hS:NoS S) (hb:b<own0.length) (hE:Elt g e X.sz X.ag) (hc:CmpOK S Nc d out own0 b e gf caps r) (hn:n<65536) (m:Nat) (hm:Nc+n+14<=m) {K:yKM} (ys:List α) (J:yLO) (t:List IV) (a c:Nat) (lim:Int) (wb wp:Bool) (p:Nat) (w:Int) (h12:12<c - a) (hly:ys.length=n) (hac:a<=c) (hcn:c<=n) (hfr:Slots 148 t [(0,.slM d b 0 n cp X.sz tg),(1,iv (a:Nat)),(2,iv (c:Nat)),(3,.int .i64 lim),(4,.fn gf [] caps),(10,.bool wb),(11,.bool wp),(12,iv (c - a:Nat)),(13,iv (p:Nat)),(14,.int .i64 w)]) (hR:∀ (ys':List α) (J':yLO) (t':List IV),ys'.Perm ys->K .ret ⟨t',Bk own0 b (ys'.flatMap g)++J'⟩) (hK:∀ (ys':List α) (J':yLO) t',ys'.Perm ys->Slots 148 t' [(0,.slM d b 0 n cp X.sz tg),(1,iv (a:Nat)),(2,iv (c:Nat)),(3,.int .i64 lim),(4,.fn gf [] caps),(10,.bool wb),(11,.bool wp),(12,iv (c - a:Nat)),(13,iv (p:Nat)),(14,.int .i64 w)]->K .normal ⟨t',Bk own0 b (ys'.flatMap g)++J'⟩) :
  Ex (callN Ftab S m) d out m ((cPdq X).body.sub [1,1,0,0,0,1,1,1,1,1,1,0]) K ⟨t,Bk own0 b (ys.flatMap g)++J⟩:=by
 simp only [V3] at hfr
 cases wb with
 | false =>
  simp only [cPdq,IC.sub,V0,sevalprocAttr,hfr,L1,L2 hb hE,hfr]
  exact hK _ _ _ (zc9 _) (by simp only [V0,sevalprocAttr,hfr])
 | true=>cases wp with
  | false =>
   simp only [cPdq,IC.sub,V0,sevalprocAttr,hfr,L1,L2 hb hE,hfr]
   exact hK _ _ _ (zc9 _) (by simp only [V0,sevalprocAttr,hfr])
  | true =>
   cases hz:w==1
   ·simp only [cPdq,IC.sub,V0,sevalprocAttr,hfr,L1,L2 hb hE,hz]
    exact hK _ _ _ (zc9 _) (by simp only [V0,sevalprocAttr,hfr])
   ·obtain ⟨ys',J',u,hs,hp⟩:=x_part (cp:=cp) (tg:=tg) (d:=d) (out:=out) hFm hS hb hE hc hn m (by omega) (Bk own0 b (ys.flatMap g)++(J++[.free])) ys (J++[.free]) a c hly (by omega) hcn
    cases u with
    | false =>
     simp only [cPdq,IC.sub,V0,sevalprocAttr,hfr,L1,L2 hb hE,hz,hs]
     exact hK _ _ _ hp (by simp only [V0,sevalprocAttr,hfr])
    | true =>
     simp only [cPdq,IC.sub,V0,sevalprocAttr,hfr,L1,L2 hb hE,hz,hs]
     exact hR _ _ _ hp
theorem x_pdq7 (hFm:FamOK S X) (hS:NoS S) (hb:b<own0.length) (hE:Elt g e X.sz X.ag) (hc:CmpOK S Nc d out own0 b e gf caps r) (hn:n<65536) (m:Nat) (hm:Nc+n+14<=m) {K:yKM} (ys:List α) (J:yLO) (t:List IV) (a c:Nat) (lim:Int) (wb wp:Bool) (p:Nat) (w:Int) (h12:12<c - a) (h1:a<=p) (h2:p<c) (hly:ys.length=n) (hac:a<=c) (hcn:c<=n) (hfr:Slots 148 t [(0,.slM d b 0 n cp X.sz tg),(1,iv (a:Nat)),(2,iv (c:Nat)),(3,.int .i64 lim),(4,.fn gf [] caps),(10,.bool wb),(11,.bool wp),(12,iv (c - a:Nat)),(13,iv (p:Nat)),(14,.int .i64 w)]) (hX:∀ (q:Nat) (ys':List α) (J':yLO) t',a<q->q<=c->ys'.Perm ys->Slots 148 t' [(0,.slM d b 0 n cp X.sz tg),(1,iv (q:Nat)),(2,iv (c:Nat)),(3,.int .i64 lim),(4,.fn gf [] caps),(10,.bool wb),(11,.bool wp)]->K (.exit 1) ⟨t',Bk own0 b (ys'.flatMap g)++J'⟩) (hK:∀ (J':yLO) t',Slots 148 t' [(0,.slM d b 0 n cp X.sz tg),(1,iv (a:Nat)),(2,iv (c:Nat)),(3,.int .i64 lim),(4,.fn gf [] caps),(10,.bool wb),(11,.bool wp),(12,iv (c - a:Nat)),(13,iv (p:Nat)),(14,.int .i64 w)]->K .normal ⟨t',Bk own0 b (ys.flatMap g)++J'⟩) :
  Ex (callN Ftab S m) d out m ((cPdq X).body.sub [1,1,0,0,0,1,1,1,1,1,1,1,0]) K ⟨t,Bk own0 b (ys.flatMap g)++J⟩:=by
 simp only [V3] at hfr
 by_cases h0:(0:Int)<(a:Int)
 ·have f1:wrapI .i64 ((a:Int) - 1)=((a - 1:Nat):Int):=we
  have b1:a - 1<n:=by omega
  have b2:p<n:=by omega
  obtain ⟨x,hx⟩:=gx (l:=ys) (i:=a - 1) (by omega)
  have lx:=hE.ld hx
  obtain ⟨y,hy⟩:=gx (l:=ys) (i:=p) (by omega)
  have ly:=hE.ld hy
  have cc:=fun ownV own id=>hc m (by omega) ownV own id x y
  cases hlt:decide (r x y<0)
  ·obtain ⟨ys',J',q,hs,hp,g1,g2⟩:=x_parE (cp:=cp) (tg:=tg) (d:=d) (out:=out) hFm hS hb hE hc hn m (by omega) (Bk own0 b (ys.flatMap g)++(J++[.free,.free])) ys (J++[.free,.free]) a c p hly h1 h2 hcn
   simp only [cPdq,IC.sub,V0,sevalprocAttr,hfr,L1,L2 hb hE,h0,f1,b1,b2,lx,ly,cc,hlt]
   refine ⟨by simp [comm],?_⟩
   simp only [V0,sevalprocAttr,hfr,L1,L2 hb hE,hs]
   exact hX q _ _ _ g1 g2 hp (by simp only [V0,sevalprocAttr,hfr])
  ·simp only [cPdq,IC.sub,V0,sevalprocAttr,hfr,L1,L2 hb hE,h0,f1,b1,b2,lx,ly,cc,hlt]
   refine ⟨by simp [comm],?_⟩
   simp only [V0,sevalprocAttr,hfr,L1,L2 hb hE]
   exact hK _ _ (by simp only [V0,sevalprocAttr,hfr])
 ·simp only [cPdq,IC.sub,V0,sevalprocAttr,hfr,L1,L2 hb hE,h0]
  refine ⟨by simp [comm],?_⟩
  simp only [V0,sevalprocAttr,hfr,L1,L2 hb hE]
  exact hK _ _ (by simp only [V0,sevalprocAttr,hfr])
theorem x_pdq8 (hFm:FamOK S X) (hS:NoS S) (hb:b<own0.length) (hE:Elt g e X.sz X.ag) (hc:CmpOK S Nc d out own0 b e gf caps r) (hn:n<65536) (m:Nat) (hm:Nc+n+14<=m) {K:yKM} (ys:List α) (J:yLO) (t:List IV) (a c:Nat) (lim:Int) (wb wp:Bool) (p:Nat) (w:Int) (h1:a<=p) (h2:p<c) (hly:ys.length=n) (hac:a<=c) (hcn:c<=n) (hfr:Slots 148 t [(0,.slM d b 0 n cp X.sz tg),(1,iv (a:Nat)),(2,iv (c:Nat)),(3,.int .i64 lim),(4,.fn gf [] caps),(10,.bool wb),(11,.bool wp),(12,iv (c - a:Nat)),(13,iv (p:Nat)),(14,.int .i64 w)]) (hK:∀ (q:Nat) (u:Bool) (ys':List α) (J':yLO) t',a<=q->q<c->ys'.Perm ys->Slots 148 t' [(0,.slM d b 0 n cp X.sz tg),(1,iv (a:Nat)),(2,iv (c:Nat)),(3,.int .i64 lim),(4,.fn gf [] caps),(10,.bool wb),(11,.bool wp),(12,iv (c - a:Nat)),(13,iv (p:Nat)),(14,.int .i64 w),(16,iv (q:Nat)),(17,.bool u)]->K .normal ⟨t',Bk own0 b (ys'.flatMap g)++J'⟩) :
  Ex (callN Ftab S m) d out m ((cPdq X).body.sub [1,1,0,0,0,1,1,1,1,1,1,1,1,0]) K ⟨t,Bk own0 b (ys.flatMap g)++J⟩:=by
 simp only [V3] at hfr
 obtain ⟨ys',J',q,u,hs,hp,g1,g2⟩:=x_par (cp:=cp) (tg:=tg) (d:=d) (out:=out) hFm hS hb hE hc hn m (by omega) (Bk own0 b (ys.flatMap g)++(J++[.free])) ys (J++[.free]) a c p hly h1 h2 hcn
 simp only [cPdq,IC.sub,V0,sevalprocAttr,hfr,L1,L2 hb hE,hs]
 exact hK q u _ _ _ g1 g2 hp (by simp only [V0,sevalprocAttr,hfr])
theorem x_pdq9 (hFm:FamOK S X) (hS:NoS S) (hb:b<own0.length) (hE:Elt g e X.sz X.ag) (hc:CmpOK S Nc d out own0 b e gf caps r) (hn:n<65536) (m:Nat) (hm:Nc+n+14<=m) {K:yKM} (ys:List α) (J:yLO) (t:List IV) (a c:Nat) (lim:Int) (wb wp:Bool) (p:Nat) (w:Int) (q:Nat) (u:Bool) (h1:a<=q) (h2:q<c) (hly:ys.length=n) (hac:a<=c) (hcn:c<=n) (hfr:Slots 148 t [(0,.slM d b 0 n cp X.sz tg),(1,iv (a:Nat)),(2,iv (c:Nat)),(3,.int .i64 lim),(4,.fn gf [] caps),(10,.bool wb),(11,.bool wp),(12,iv (c - a:Nat)),(13,iv (p:Nat)),(14,.int .i64 w),(16,iv (q:Nat)),(17,.bool u)]) (IH:∀ (ys':List α) (J':yLO) (x y:Nat),ys'.length=n->x<=y->y<=n->y - x<c - a->∃ (zs:List α) (J2:yLO),(∀ id,callN Ftab S m d out (Bk own0 b (ys'.flatMap g)++J') (Bk own0 b (ys'.flatMap g)++J') id X.pdq [.slM d b 0 n cp X.sz tg,.int .i64 ((x:Nat):Int),.int .i64 ((y:Nat):Int),.int .i64 lim,.fn gf [] caps]=some (.x,.tuple [],Bk own0 b (zs.flatMap g)++J2))/\zs.Perm ys') (hK:∀ (x y:Nat) (wb' wp':Bool) (ys':List α) (J':yLO) t',x<=y->y<=n->y - x<c - a->ys'.Perm ys->Slots 148 t' [(0,.slM d b 0 n cp X.sz tg),(1,iv (x:Nat)),(2,iv (y:Nat)),(3,.int .i64 lim),(4,.fn gf [] caps),(10,.bool wb'),(11,.bool wp')]->K .normal ⟨t',Bk own0 b (ys'.flatMap g)++J'⟩) :
  Ex (callN Ftab S m) d out m ((cPdq X).body.sub [1,1,0,0,0,1,1,1,1,1,1,1,1,1]) K ⟨t,Bk own0 b (ys.flatMap g)++J⟩:=by
 simp only [V3] at hfr
 have e1:wrapI .i64 ((q:Int) - (a:Int))=((q - a:Nat):Int):=we
 have e2:wrapI .i64 ((c:Int) - (q:Int))=((c - q:Nat):Int):=we
 have e3:wrapI .i64 (Int.tdiv ((c - a:Nat):Int) 8)=(((c - a) / 8:Nat):Int):=yP _ 8 (by omega)
 have e0:((8:Int)=0)=False:=eq_false (by decide)
 have e4:wrapI .i64 ((q:Int)+1)=((q+1:Nat):Int):=we
 generalize (c - a) / 8=T at e3
 by_cases hlr:q - a<c - q
 ·obtain ⟨ys',J',hs,hp⟩:=IH ys (J++[.free]) a q hly h1 (by omega) (by omega)
  by_cases hT:T<=q - a
  ·simp only [cPdq,IC.sub,V0,sevalprocAttr,hfr,L1,L2 hb hE,e0,e1,e2,e3,e4,hlr,hT,hs]
   exact hK (q+1) c true u _ _ _ (by omega) (by omega) (by omega) hp (by simp only [V0,sevalprocAttr,hfr,e0,e1,e2,e3,e4,hlr,hT,hs])
  ·simp only [cPdq,IC.sub,V0,sevalprocAttr,hfr,L1,L2 hb hE,e0,e1,e2,e3,e4,hlr,hT,hs]
   exact hK (q+1) c false u _ _ _ (by omega) (by omega) (by omega) hp (by simp only [V0,sevalprocAttr,hfr,e0,e1,e2,e3,e4,hlr,hT,hs])
 ·obtain ⟨ys',J',hs,hp⟩:=IH ys (J++[.free]) (q+1) c hly (by omega) hcn (by omega)
  by_cases hT:T<=c - q
  ·simp only [cPdq,IC.sub,V0,sevalprocAttr,hfr,L1,L2 hb hE,e0,e1,e2,e3,e4,hlr,hT,hs]
   exact hK a q true u _ _ _ (by omega) (by omega) (by omega) hp (by simp only [V0,sevalprocAttr,hfr,e0,e1,e2,e3,e4,hlr,hT,hs])
  ·simp only [cPdq,IC.sub,V0,sevalprocAttr,hfr,L1,L2 hb hE,e0,e1,e2,e3,e4,hlr,hT,hs]
   exact hK a q false u _ _ _ (by omega) (by omega) (by omega) hp (by simp only [V0,sevalprocAttr,hfr,e0,e1,e2,e3,e4,hlr,hT,hs])
theorem x_pdq_step (hFm:FamOK S X) (hS:NoS S) (hb:b<own0.length) (hE:Elt g e X.sz X.ag) (hc:CmpOK S Nc d out own0 b e gf caps r) (hn:n<65536) (hP:PowOK S Nc) (k:Nat)
  (IH:∀ k',k'<k->∀ m,Nc+n+20+k'<=m->∀ (ownV:yLO) (xs:List α) (J:yLO) (a c:Nat) (lim:Int),xs.length=n->a<=c->c<=n->c - a<=k'->∃ (xs':List α) (J':yLO),(∀ id,callN Ftab S m d out ownV (Bk own0 b (xs.flatMap g)++J) id X.pdq [.slM d b 0 n cp X.sz tg,.int .i64 (a:Int),.int .i64 (c:Int),.int .i64 lim,.fn gf [] caps]=some (.x,.tuple [],Bk own0 b (xs'.flatMap g)++J'))/\xs'.Perm xs)
  (m:Nat) (hm:Nc+n+20+k<=m) (ownV:yLO) (xs:List α) (J:yLO) (a c:Nat) (lim:Int) (hl0:xs.length=n) (hac:a<=c) (hcn:c<=n) (hk:c - a<=k) :
  ∃ (xs':List α) (J':yLO),(∀ id,callN Ftab S m d out ownV (Bk own0 b (xs.flatMap g)++J) id X.pdq [.slM d b 0 n cp X.sz tg,.int .i64 (a:Int),.int .i64 (c:Int),.int .i64 lim,.fn gf [] caps]=some (.x,.tuple [],Bk own0 b (xs'.flatMap g)++J'))/\xs'.Perm xs:=by
 obtain ⟨m,rfl⟩:∃ q,m=q+1:=⟨m - 1,by omega⟩
 have main:∃ v own',(∀ id,callN Ftab S (m+1) d out ownV (Bk own0 b (xs.flatMap g)++J) id X.pdq [.slM d b 0 n cp X.sz tg,.int .i64 (a:Int),.int .i64 (c:Int),.int .i64 lim,.fn gf [] caps]=some (.x,v,own'))/\(v=.tuple []/\∃ (xs':List α) (J':yLO),own'=Bk own0 b (xs'.flatMap g)++J'/\xs'.Perm xs):=by
  refine zt (i:=cPdq X) (hFm.pdq.1 _) hFm.pdq.2 rfl (lb rfl) fun t hfr=>?_
  simp only [V2,Nat.reduceAdd,show (cPdq X).ntmps=148 from rfl] at hfr
  rw [show (cPdq X).body=.seq ((cPdq X).body.sub [0]) (.seq ((cPdq X).body.sub [1,0]) (.block 0 (.loop ((cPdq X).body.sub [1,1,0,0])))) from rfl]
  have h0:(cPdq X).body.sub [0]=.region false 0 [⟨some 10,.mov (.const (.bool true)),none,[]⟩] []:=rfl
  have h1:(cPdq X).body.sub [1,0]=.region false 0 [⟨some 11,.mov (.const (.bool true)),none,[]⟩] []:=rfl
  generalize hB:(cPdq X).body.sub [1,1,0,0]=B
  simp only [h0,h1,V0,sevalprocAttr,hfr]
  rw [← hB]
  refine zb (fun jj st=>∃ (a c:Nat) (lim:Int) (wb wp:Bool) (ys:List α) (J1:yLO),c - a<=jj/\(a<=c/\c<=n/\c - a<=k)/\ys.Perm xs/\st.own=Bk own0 b (ys.flatMap g)++J1/\Slots 148 st.t [(0,.slM d b 0 n cp X.sz tg),(1,iv (a:Nat)),(2,iv (c:Nat)),(3,.int .i64 lim),(4,.fn gf [] caps),(10,.bool wb),(11,.bool wp)]) n (by omega) ⟨a,c,lim,true,true,xs,J,by omega,by omega,zc9 _,rfl,by simp only [V0,sevalprocAttr,hfr]⟩ ?_
  clear hfr h0 h1 hk hac hcn
  rintro jj ⟨t,own⟩ KA ⟨a,c,lim,wb,wp,ys,J1,hjj,hac,hp,ho,hfr⟩ hnA heA hrA
  dsimp only at ho hfr
  subst ho
  have hly:ys.length=n:=hp.length_eq.trans hl0
  rw [show (cPdq X).body.sub [1,1,0,0]=.block 1 ((cPdq X).body.sub [1,1,0,0,0]) from rfl,Yu]
  rw [show (cPdq X).body.sub [1,1,0,0,0]=.seq ((cPdq X).body.sub [1,1,0,0,0,0]) ((cPdq X).body.sub [1,1,0,0,0,1]) from rfl,z6]
  refine x_pdq0 (cp:=cp) (tg:=tg) (d:=d) (out:=out) hFm hS hb hE hc hn m (by omega) ys J1 t a c lim wb wp hly (by omega) (by omega) hfr fun t1 f1=>?_
  rw [zo]
  rw [show (cPdq X).body.sub [1,1,0,0,0,1]=.seq ((cPdq X).body.sub [1,1,0,0,0,1,0]) ((cPdq X).body.sub [1,1,0,0,0,1,1]) from rfl,z6]
  refine x_pdq1 (cp:=cp) (tg:=tg) (d:=d) (out:=out) hFm hS hb hE hc hn m (by omega) ys J1 t1 a c lim wb wp hly (by omega) (by omega) f1 (fun zs J9 t9 h9=>by
   simp only [ya,zE]
   refine hrA _ ?_
   simp only [zE,ze,yk]
   exact ⟨_,rfl,rfl,zs,_,rfl,(h9.trans hp)⟩) fun t2 h12 f2=>?_
  rw [zo]
  rw [show (cPdq X).body.sub [1,1,0,0,0,1,1]=.seq ((cPdq X).body.sub [1,1,0,0,0,1,1,0]) ((cPdq X).body.sub [1,1,0,0,0,1,1,1]) from rfl,z6]
  refine x_pdq2 (cp:=cp) (tg:=tg) (d:=d) (out:=out) hFm hS hb hE hc hn m (by omega) ys J1 t2 a c lim wb wp h12 hly (by omega) (by omega) f2 (fun zs J9 t9 h9=>by
   simp only [ya,zE]
   refine hrA _ ?_
   simp only [zE,ze,yk]
   exact ⟨_,rfl,rfl,zs,_,rfl,(h9.trans hp)⟩) fun t3 f3=>?_
  rw [zo]
  rw [show (cPdq X).body.sub [1,1,0,0,0,1,1,1]=.seq ((cPdq X).body.sub [1,1,0,0,0,1,1,1,0]) ((cPdq X).body.sub [1,1,0,0,0,1,1,1,1]) from rfl,z6]
  refine x_pdq3 (cp:=cp) (tg:=tg) (d:=d) (out:=out) hFm hS hb hE hc hn m (by omega) ys J1 t3 a c lim wb wp h12 hP hly (by omega) (by omega) f3 fun lim4 ys4 J4 t4 p4 f4=>?_
  have hl4:ys4.length=n:=p4.length_eq.trans hly
  rw [zo]
  rw [show (cPdq X).body.sub [1,1,0,0,0,1,1,1,1]=.seq ((cPdq X).body.sub [1,1,0,0,0,1,1,1,1,0]) ((cPdq X).body.sub [1,1,0,0,0,1,1,1,1,1]) from rfl,z6]
  refine x_pdq4 (cp:=cp) (tg:=tg) (d:=d) (out:=out) hFm hS hb hE hc hn m (by omega) ys4 J4 t4 a c lim4 wb wp h12 hl4 (by omega) (by omega) f4 fun p w ys5 J5 t5 g1 g2 p5 f5=>?_
  have hl5:ys5.length=n:=p5.length_eq.trans hl4
  rw [zo]
  rw [show (cPdq X).body.sub [1,1,0,0,0,1,1,1,1,1]=.seq ((cPdq X).body.sub [1,1,0,0,0,1,1,1,1,1,0]) ((cPdq X).body.sub [1,1,0,0,0,1,1,1,1,1,1]) from rfl,z6]
  refine x_pdq5 (cp:=cp) (tg:=tg) (d:=d) (out:=out) hFm hS hb hE hc hn m (by omega) ys5 J5 t5 a c lim4 wb wp p w h12 g1 g2 hl5 (by omega) (by omega) f5 fun p w ys6 J6 t6 g1 g2 p6 f6=>?_
  have hl6:ys6.length=n:=p6.length_eq.trans hl5
  rw [zo]
  rw [show (cPdq X).body.sub [1,1,0,0,0,1,1,1,1,1,1]=.seq ((cPdq X).body.sub [1,1,0,0,0,1,1,1,1,1,1,0]) ((cPdq X).body.sub [1,1,0,0,0,1,1,1,1,1,1,1]) from rfl,z6]
  refine x_pdq6 (cp:=cp) (tg:=tg) (d:=d) (out:=out) hFm hS hb hE hc hn m (by omega) ys6 J6 t6 a c lim4 wb wp p w h12 hl6 (by omega) (by omega) f6 (fun zs J9 t9 h9=>by
   simp only [ya,zE]
   refine hrA _ ?_
   simp only [zE,ze,yk]
   exact ⟨_,rfl,rfl,zs,_,rfl,(h9.trans (p6.trans (p5.trans (p4.trans hp))))⟩) fun ys7 J7 t7 p7 f7=>?_
  have hl7:ys7.length=n:=p7.length_eq.trans hl6
  have hp7:ys7.Perm xs:=p7.trans (p6.trans (p5.trans (p4.trans hp)))
  rw [zo]
  rw [show (cPdq X).body.sub [1,1,0,0,0,1,1,1,1,1,1,1]=.seq ((cPdq X).body.sub [1,1,0,0,0,1,1,1,1,1,1,1,0]) ((cPdq X).body.sub [1,1,0,0,0,1,1,1,1,1,1,1,1]) from rfl,z6]
  refine x_pdq7 (cp:=cp) (tg:=tg) (d:=d) (out:=out) hFm hS hb hE hc hn m (by omega) ys7 J7 t7 a c lim4 wb wp p w h12 g1 g2 hl7 (by omega) (by omega) f7 (fun q zs J9 t9 x1 x2 h9 f9=>?_) fun J8 t8 f8=>?_
  ·simp only [yU,yV,if_true]
   exact hnA _ (c - q) (by omega) ⟨q,c,lim4,wb,wp,zs,_,zcf _,by omega,h9.trans hp7,rfl,f9⟩
  rw [zo]
  rw [show (cPdq X).body.sub [1,1,0,0,0,1,1,1,1,1,1,1,1]=.seq ((cPdq X).body.sub [1,1,0,0,0,1,1,1,1,1,1,1,1,0]) ((cPdq X).body.sub [1,1,0,0,0,1,1,1,1,1,1,1,1,1]) from rfl,z6]
  refine x_pdq8 (cp:=cp) (tg:=tg) (d:=d) (out:=out) hFm hS hb hE hc hn m (by omega) ys7 J8 t8 a c lim4 wb wp p w g1 g2 hl7 (by omega) (by omega) f8 fun q u ys9 J9 t9 x1 x2 p9 f9=>?_
  have hl9:ys9.length=n:=p9.length_eq.trans hl7
  rw [zo]
  refine x_pdq9 (cp:=cp) (tg:=tg) (d:=d) (out:=out) hFm hS hb hE hc hn m (by omega) ys9 J9 t9 a c lim4 wb wp p w q u x1 x2 hl9 (by omega) (by omega) f9 (fun ys' J' x y r1 r2 r3 r4=>IH (y - x) (by omega) m (by omega) _ ys' J' x y lim4 r1 r2 r3 (zcf _)) fun x y wb' wp' zs J10 t10 r2 r3 r4 r5 f10=>?_
  simp only [yw]
  exact hnA _ (y - x) (by omega) ⟨x,y,lim4,wb',wp',zs,_,zcf _,by omega,r5.trans (p9.trans hp7),rfl,f10⟩
 obtain ⟨v,own',h1,rfl,xs',J',rfl,hp⟩:=main
 exact ⟨xs',J',h1,hp⟩
theorem x_pdq (hFm:FamOK S X) (hS:NoS S) (hb:b<own0.length) (hE:Elt g e X.sz X.ag) (hc:CmpOK S Nc d out own0 b e gf caps r) (hn:n<65536) (hP:PowOK S Nc) (k:Nat):∀ (m:Nat),Nc+n+20+k<=m->∀ (ownV:yLO) (xs:List α) (J:yLO) (a c:Nat) (lim:Int),xs.length=n->a<=c->c<=n->c - a<=k->∃ (xs':List α) (J':yLO),(∀ id,callN Ftab S m d out ownV (Bk own0 b (xs.flatMap g)++J) id X.pdq [.slM d b 0 n cp X.sz tg,.int .i64 (a:Int),.int .i64 (c:Int),.int .i64 lim,.fn gf [] caps]=some (.x,.tuple [],Bk own0 b (xs'.flatMap g)++J'))/\xs'.Perm xs:=by
 induction k using Nat.strongRecOn with
 | ind k ih=>exact fun m hm ownV xs J a c lim h1 h2 h3 h4=>x_pdq_step hFm hS hb hE hc hn hP k ih m hm ownV xs J a c lim h1 h2 h3 h4
end
end
section
section
variable {X:SF} {S:ySM} {α:Type} {g:α->List IV} {e:α->IV} {own0:yLO} {b d:Nat} {out:yLM} {n cp:Nat} {tg:Bool} {gf:FuncId} {caps:List IV} {r:α->α->Int} {Nc:Nat}
theorem x_sort (hFm:FamOK S X) (hS:NoS S) (hb:b<own0.length) (hE:Elt g e X.sz X.ag) (hc:CmpOK S Nc d out own0 b e gf caps r) (hn:n<65536) (m:Nat) (hm:Nc+2*n+24<=m) (ownV:yLO) (xs:List α) (J:yLO)  (hl0:xs.length=n) (hP:PowOK S Nc) (hL:LenOK S Nc) :
  ∃ (xs':List α) (J':yLO),(∀ id,callN Ftab S m d out ownV (Bk own0 b (xs.flatMap g)++J) id X.sort [.slM d b 0 n cp X.sz tg,.fn gf [] caps]=some (.x,.tuple [],Bk own0 b (xs'.flatMap g)++J'))/\xs'.Perm xs:=by
 obtain ⟨m,rfl⟩:∃ q,m=q+1:=⟨m - 1,by omega⟩
 have main:∃ v own',(∀ id,callN Ftab S (m+1) d out ownV (Bk own0 b (xs.flatMap g)++J) id X.sort [.slM d b 0 n cp X.sz tg,.fn gf [] caps]=some (.x,v,own'))/\(v=.tuple []/\∃ (xs':List α) (J':yLO),own'=Bk own0 b (xs'.flatMap g)++J'/\xs'.Perm xs):=by
  refine zt (i:=cSort X) (hFm.sort.1 _) hFm.sort.2 rfl (lb rfl) fun t hfr=>?_
  simp only [V2,Nat.reduceAdd,cSort] at hfr
  have hu:wrapI .u64 (n:Int)=(n:Int):=by
   rw [zC]
   exact IntWalk.u64_in _ (by omega)
  have hlen:=hL n (by omega) m (by omega)
  obtain ⟨ys',J',hs,hp⟩:=x_pdq (cp:=cp) (tg:=tg) (d:=d) (out:=out) hFm hS hb hE hc hn hP n m (by omega) (Bk own0 b (xs.flatMap g)++(J++[.free,.free])) xs (J++[.free,.free]) 0 n (lenN n:Int) hl0 (Nat.zero_le _) (zcf _) (by omega)
  simp only [zcp] at hs
  simp only [cSort,V0,sevalprocAttr,hfr,L1,L2 hb hE,hu,hlen,hs,e_conv,zr,yk]
  exact ⟨_,rfl,rfl,ys',_,rfl,hp⟩
 obtain ⟨v,own',h1,rfl,xs',J',rfl,hp⟩:=main
 exact ⟨xs',J',h1,hp⟩
end
end
section
section
variable {X:SF} {S:ySM}
theorem ins_nil (hFm:FamOK S X) (hS:NoS S) {m d:Nat} {out:yLM} {ownV own:yLO} {fv:IV} (hm:4<=m):∃ J',∀ id,callN Ftab S m d out ownV own id X.ins [.nilsl,.int .i64 0,.int .i64 0,fv]=some (.x,.tuple [],own++J'):=by
 obtain ⟨m,rfl⟩:∃ q,m=q+1:=⟨m - 1,by omega⟩
 have main:∃ v own',(∀ id,callN Ftab S (m+1) d out ownV own id X.ins [.nilsl,.int .i64 0,.int .i64 0,fv]=some (.x,v,own'))/\(v=.tuple []/\∃ J',own'=own++J'):=by
  refine zt (i:=cIns X) (hFm.ins.1 _) hFm.ins.2 rfl (lb rfl) fun t hfr=>?_
  simp only [V2,Nat.reduceAdd,cIns] at hfr
  have hw:wrapI .i64 ((0:Int)+1)=1:=rfl
  have h10:((1:Int)<0)=False:=eq_false (by decide)
  simp only [cIns,V0,Nat.reduceLT,Nat.reduceAdd,Nat.reduceMul,Nat.reduceLeDiff,Nat.reduceEqDiff,reduceCtorEq,hfr,hw]
  refine zb (fun jj st=>st.own=own/\Slots 53 st.t [(2,.int .i64 0),(8,.int .i64 1)]) 0 (by omega) ⟨rfl,by simp only [V0,Nat.reduceLT,Nat.reduceAdd,Nat.reduceMul,Nat.reduceLeDiff,Nat.reduceEqDiff,reduceCtorEq,hfr,hw]⟩ ?_
  clear hfr
  rintro jj ⟨t,own1⟩ KB ⟨ho,hfr⟩ hnB heB hrB
  dsimp only at ho hfr
  subst ho
  simp only [V3] at hfr
  simp only [V0,Nat.reduceLT,Nat.reduceAdd,Nat.reduceMul,Nat.reduceLeDiff,Nat.reduceEqDiff,reduceCtorEq,hfr,h10]
  refine heB _ _ ?_
  simp only [V0,Nat.reduceLT,Nat.reduceAdd,Nat.reduceMul,Nat.reduceLeDiff,Nat.reduceEqDiff,reduceCtorEq,hfr,zr,yk]
  exact ⟨_,rfl,rfl,[],by simp⟩
 obtain ⟨v,own',h1,rfl,J',rfl⟩:=main
 exact ⟨J',h1⟩
theorem pdq_nil (hFm:FamOK S X) (hS:NoS S) {m d:Nat} {out:yLM} {ownV own:yLO} {fv:IV} {lim:Int} (hm:6<=m):∃ J',∀ id,callN Ftab S m d out ownV own id X.pdq [.nilsl,.int .i64 0,.int .i64 0,.int .i64 lim,fv]=some (.x,.tuple [],own++J'):=by
 obtain ⟨m,rfl⟩:∃ q,m=q+1:=⟨m - 1,by omega⟩
 have main:∃ v own',(∀ id,callN Ftab S (m+1) d out ownV own id X.pdq [.nilsl,.int .i64 0,.int .i64 0,.int .i64 lim,fv]=some (.x,v,own'))/\(v=.tuple []/\∃ J',own'=own++J'):=by
  refine zt (i:=cPdq X) (hFm.pdq.1 _) hFm.pdq.2 rfl (lb rfl) fun t hfr=>?_
  simp only [V2,Nat.reduceAdd,cPdq] at hfr
  have hw:wrapI .i64 ((0:Int) - 0)=0:=rfl
  have h12:((0:Int)<=12)=True:=eq_true (by decide)
  simp only [cPdq,V0,Nat.reduceLT,Nat.reduceAdd,Nat.reduceMul,Nat.reduceLeDiff,Nat.reduceEqDiff,reduceCtorEq,hfr]
  refine zb (fun jj st=>st.own=own/\Slots 148 st.t [(0,.nilsl),(1,.int .i64 0),(2,.int .i64 0),(4,fv)]) 0 (by omega) ⟨rfl,by simp only [V0,Nat.reduceLT,Nat.reduceAdd,Nat.reduceMul,Nat.reduceLeDiff,Nat.reduceEqDiff,reduceCtorEq,hfr]⟩ ?_
  clear hfr
  rintro jj ⟨t,own1⟩ KB ⟨ho,hfr⟩ hnB heB hrB
  dsimp only at ho hfr
  subst ho
  simp only [V3] at hfr
  obtain ⟨J',hs⟩:=ins_nil (d:=d) (out:=out) (ownV:=own1++[.free]) (own:=own1++[.free]) (fv:=fv) hFm hS (m:=m) (by omega)
  simp only [zcy] at hs
  simp only [V0,Nat.reduceLT,Nat.reduceAdd,Nat.reduceMul,Nat.reduceLeDiff,Nat.reduceEqDiff,reduceCtorEq,hfr,hw,h12,hs]
  refine hrB _ ?_
  simp only [V0,Nat.reduceLT,Nat.reduceAdd,Nat.reduceMul,Nat.reduceLeDiff,Nat.reduceEqDiff,reduceCtorEq,hfr,ze,yk]
  exact ⟨_,rfl,rfl,_,rfl⟩
 obtain ⟨v,own',h1,rfl,J',rfl⟩:=main
 exact ⟨J',h1⟩
theorem sort_nil (hFm:FamOK S X) (hS:NoS S) {Nl m d:Nat} {out:yLM} {ownV own:yLO} {fv:IV} (hL:LenOK S Nl) (hm:Nl+8<=m):∃ J',∀ id,callN Ftab S m d out ownV own id X.sort [.nilsl,fv]=some (.x,.tuple [],own++J'):=by
 obtain ⟨m,rfl⟩:∃ q,m=q+1:=⟨m - 1,by omega⟩
 have main:∃ v own',(∀ id,callN Ftab S (m+1) d out ownV own id X.sort [.nilsl,fv]=some (.x,v,own'))/\(v=.tuple []/\∃ J',own'=own++J'):=by
  refine zt (i:=cSort X) (hFm.sort.1 _) hFm.sort.2 rfl (lb rfl) fun t hfr=>?_
  simp only [V2,Nat.reduceAdd,cSort] at hfr
  have hu:wrapI .u64 (0:Int)=0:=rfl
  have hlen:=hL 0 (by omega) m (by omega)
  simp only [zcp] at hlen
  obtain ⟨J',hs⟩:=pdq_nil (d:=d) (out:=out) (ownV:=own++[.free,.free]) (own:=own++[.free,.free]) (fv:=fv) (lim:=(lenN 0:Int)) hFm hS (m:=m) (by omega)
  simp only [zcy] at hs
  simp only [cSort,V0,Nat.reduceLT,Nat.reduceAdd,Nat.reduceMul,Nat.reduceLeDiff,Nat.reduceEqDiff,reduceCtorEq,hfr,hu,hlen,hs,e_conv,zr,yk]
  exact ⟨_,rfl,rfl,_,rfl⟩
 obtain ⟨v,own',h1,rfl,J',rfl⟩:=main
 exact ⟨J',h1⟩
end
theorem qF_ok {S:ySM} (hS:NoS S):FamOK S qF:=by
 constructor <;> exact ⟨fun _=>ns hS (by rfl),rfl⟩
theorem uF_ok {S:ySM} (hS:NoS S):FamOK S uF:=by
 constructor <;> exact ⟨fun _=>ns hS (by rfl),rfl⟩
theorem q_sort {S:ySM} {α:Type} {g:α->List IV} {e:α->IV} {own0:yLO} {b d:Nat} {out:yLM} {n cp:Nat} {tg:Bool} {gf:FuncId} {caps:List IV} {r:α->α->Int} {Nc:Nat} (hS:NoS S) (hb:b<own0.length) (hE:Elt g e 1 false) (hc:CmpOK S Nc d out own0 b e gf caps r) (hn:n<65536) (m:Nat) (hm:Nc+2*n+24<=m) (ownV:yLO) (xs:List α) (J:yLO) (hl0:xs.length=n) (hP:PowOK S Nc) (hL:LenOK S Nc) :
  ∃ (xs':List α) (J':yLO),(∀ id,callN Ftab S m d out ownV (Bk own0 b (xs.flatMap g)++J) id 106 [.slM d b 0 n cp 1 tg,.fn gf [] caps]=some (.x,.tuple [],Bk own0 b (xs'.flatMap g)++J'))/\xs'.Perm xs:=x_sort (X:=qF) (qF_ok hS) hS hb hE hc hn m hm ownV xs J hl0 hP hL
theorem qsort_nil {S:ySM} (hS:NoS S) {Nl m d:Nat} {out:yLM} {ownV own:yLO} {fv:IV} (hL:LenOK S Nl) (hm:Nl+8<=m):∃ J',∀ id,callN Ftab S m d out ownV own id 106 [.nilsl,fv]=some (.x,.tuple [],own++J'):=sort_nil (X:=qF) (qF_ok hS) hS hL hm
theorem u_sort {S:ySM} {α:Type} {g:α->List IV} {e:α->IV} {own0:yLO} {b d:Nat} {out:yLM} {n cp:Nat} {tg:Bool} {gf:FuncId} {caps:List IV} {r:α->α->Int} {Nc:Nat} (hS:NoS S) (hb:b<own0.length) (hE:Elt g e 2 true) (hc:CmpOK S Nc d out own0 b e gf caps r) (hn:n<65536) (m:Nat) (hm:Nc+2*n+24<=m) (ownV:yLO) (xs:List α) (J:yLO) (hl0:xs.length=n) (hP:PowOK S Nc) (hL:LenOK S Nc) :
  ∃ (xs':List α) (J':yLO),(∀ id,callN Ftab S m d out ownV (Bk own0 b (xs.flatMap g)++J) id 78 [.slM d b 0 n cp 2 tg,.fn gf [] caps]=some (.x,.tuple [],Bk own0 b (xs'.flatMap g)++J'))/\xs'.Perm xs:=x_sort (X:=uF) (uF_ok hS) hS hb hE hc hn m hm ownV xs J hl0 hP hL
theorem usort_nil {S:ySM} (hS:NoS S) {Nl m d:Nat} {out:yLM} {ownV own:yLO} {fv:IV} (hL:LenOK S Nl) (hm:Nl+8<=m):∃ J',∀ id,callN Ftab S m d out ownV own id 78 [.nilsl,fv]=some (.x,.tuple [],own++J'):=sort_nil (X:=uF) (uF_ok hS) hS hL hm
end
end Go.Proofs.YtiiofgieclfikaaGreatDoor
end
