/-
  A part of the proof: the small machine, its simulation and its walks.
-/
import Derived.Test.YtgmifgfbnnbgjaaGreatDoorZd
set_option linter.unusedVariables false
set_option linter.unusedSimpArgs false
set_option maxRecDepth 1000000
set_option maxHeartbeats 3200000
section
namespace Go.Proofs.YtgmifgfbnnbgjaaGreatDoor
open Go Go.RowKit
section
def Bk (own0:yLO) (b:Nat) (c:List IV):yLO:=own0.set b (.cells c)
def RestOf (own0:yLO) (b:Nat) (ownV:yLO):Prop:=∀ j,j<own0.length->j≠b->ownV[j]?=own0[j]?
section
variable {own0 R J:yLO} {b:Nat} {c c':List IV}
theorem yr:(Bk own0 b c).length=own0.length:=by simp [Bk]
theorem bk_get (h:b<own0.length):(Bk own0 b c++R)[b]?=some (.cells c):=by
 rw [zar (by rw [yr]; exact h)]
 simp [Bk,h]
theorem bk_set (h:b<own0.length):(Bk own0 b c++R).set b (.cells c')=Bk own0 b c'++R:=by
 rw [List.set_append_left _ _ (by rw [yr]; exact h)]
 simp [Bk]
theorem bk_hide {vis:List Nat} {k:Nat} (h:b<own0.length):(hide vis (own0.length+k) (Bk own0 b c++R))[b]?=some (.cells c):=by
 rw [zI,bk_get h]
 simp
 omega
theorem rest_bk:RestOf own0 b (Bk own0 b c++R):=by
 intro j h1 h2
 rw [zar (by rw [yr]; exact h1)]
 simp only [Bk]
 rw [zbq (Ne.symm h2)]
theorem rest_hide {vis:List Nat} {k:Nat}:RestOf own0 b (hide vis (own0.length+k) (Bk own0 b c++R)):=by
 intro j h1 h2
 rw [zI,rest_bk j h1 h2]
 rw [zak h1]
 simp
 omega
end
structure Elt {α:Type} (g:α->List IV) (e:α->IV) (sz:Nat) (agg:Bool):Prop where
 len:∀ x,(g x).length=sz
 cells:∀ x,(e x).cells=g x
 scal:∀ x,(g x).all IV.scalar=true
 val:∀ x,mkv agg (g x)=some (e x)
section
variable {α:Type} {g:α->List IV} {e:α->IV} {sz:Nat} {agg:Bool} {xs:List α} {i j:Nat} {x y:α}
theorem rdN_from:∀ (p l:List IV),rdN (p++l) p.length l.length=some l
 | p,[]=>rfl
 | p,x::l=>by
  have h:=rdN_from (p++[x]) l
  simp only [za9,zbd,zbk,zaw,zau,zbc,zap] at h
  unfold rdN
  simp only [zau,zas (zaq _),Nat.sub_self,za8,h,za5]
theorem yK {l:List IV}:rdN l 0 l.length=some l:=rdN_from [] l
theorem Elt.ld (h:Elt g e sz agg) (hx:xs[i]?=some x):(rdN (xs.flatMap g) (i*sz) sz).bind (mkv agg)=some (e x):=by
 have h1:=ze h.len 0 sz hx (by omega)
 rw [Nat.add_zero] at h1
 rw [h1,← h.len x,yK,za7,h.val]
theorem third {l1 a l2:List IV} {k:Nat} (h:l1.length+a.length<=k):(l1++(a++l2))[k]?=l2[k - l1.length - a.length]?:=by
 rw [zas (by omega),zas (by omega)]
theorem wrN_flat (hg:∀ x,(g x).length=sz):∀ {xs:List α} {i:Nat},i<xs.length->wrN (xs.flatMap g) (i*sz) (g x)=(xs.set i x).flatMap g:=by
 intro xs i hi
 refine List.ext_getElem? fun k=>?_
 have hl:i*sz+(g x).length<=(xs.flatMap g).length:=by
  rw [hg,zn hg]
  have:=Nat.mul_le_mul_right sz (Nat.succ_le_of_lt hi)
  rw [Nat.succ_mul] at this
  exact this
 rw [Zd _ _ _ _ hl,hg]
 have key:∀ (l1 l2:List α) (z:α),(l1++z::l2).flatMap g=l1.flatMap g++(g z++l2.flatMap g):=fun l1 l2 z=>by simp
 have hsplit:xs=xs.take i++xs[i]::xs.drop (i+1):=by simp
 have hset:xs.set i x=xs.take i++x::xs.drop (i+1):=by rw [List.set_eq_take_append_cons_drop,if_pos hi]
 rw [hset,key]
 conv=>lhs; rw [hsplit,key]
 have ht:((xs.take i).flatMap g).length=i*sz:=by rw [zn hg,zbl,Nat.min_eq_left (Nat.le_of_lt hi)]
 split
 ·rename_i h1
  rw [zas (by omega),ht,zar (by rw [hg]; omega)]
 ·rename_i h1
  by_cases h2:k<i*sz
  ·rw [zar (by omega),zar (by omega)]
  ·rw [third (by rw [ht,hg]; omega),third (by rw [ht,hg]; omega),hg,hg]
theorem Elt.st (h:Elt g e sz agg) (hi:i<xs.length):wrN (xs.flatMap g) (i*sz) (g x)=(xs.set i x).flatMap g:=wrN_flat h.len hi
theorem Elt.fits (h:Elt g e sz agg) (hi:i<xs.length):i*sz+sz<=(xs.flatMap g).length:=by
 rw [zn h.len]
 have:=Nat.mul_le_mul_right sz (Nat.succ_le_of_lt hi)
 rw [Nat.succ_mul] at this
 exact this
theorem zt (hi:xs[i]?=some x) (hj:xs[j]?=some y):((xs.set i y).set j x).Perm xs:=by
 obtain ⟨h1,rfl⟩:=zal.1 hi
 obtain ⟨h2,rfl⟩:=zal.1 hj
 exact List.set_set_perm h1 h2
end
theorem Wlk:(type_of% @Wc):=@Wc
section
variable {t:List IV} {i j n:Nat} {v z:IV} {l:List (Nat × IV)}
theorem putS_len:(put t (some i) v).length=t.length:=by rw [zK,List.length_set]
theorem gp_eq (h:i<t.length):getK z (put t (some i) v) i=v:=by
 rw [zK,zR,zbf,zbw h]
 rfl
theorem gp_ne (h:i≠j):getK z (put t (some i) v) j=getK z t j:=by
 rw [zK,zR,zR,zbf,zbf,zbq h]
theorem gq_eq (h:i<t.length):(put t (some i) v)[i]?=some v:=by rw [zK,zbw h]
theorem gq_ne (h:i≠j):(put t (some i) v)[j]?=t[j]?:=by rw [zK,zbq h]
def IC.sub:IC->List Nat->IC
 | c,[]=>c
 | .seq a _,0::p=>a.sub p
 | .seq _ b,_::p=>b.sub p
 | .cond _ a _,0::p=>a.sub p
 | .cond _ _ b,_::p=>b.sub p
 | .block _ a,_::p=>a.sub p
 | .loop a,_::p=>a.sub p
 | c,_=>c
def Slots (n:Nat) (t:List IV) (l:List (Nat × IV)):Prop:=t.length=n/\∀ p∈l,getK (.tuple []) t p.1=p.2
theorem zb:Slots n t []=(t.length=n):=propext ⟨fun h=>h.1,fun h=>⟨h,by simp⟩⟩
theorem za:Slots n t ((i,v)::l)=(getK (.tuple []) t i=v/\Slots n t l):=by
 unfold Slots
 refine propext ⟨fun ⟨h1,h2⟩=>⟨h2 (i,v) (by simp),h1,fun p hp=>h2 p (by simp [hp])⟩,fun ⟨h1,h2,h3⟩=>⟨h2,fun p hp=>?_⟩⟩
 rcases za4.1 hp with rfl | hp
 ·exact h1
 ·exact h3 p hp
end
theorem scal_pc {cs:List IV} {o:Nat}:(IV.ptrC cs o).scalar=true:=zax rfl rfl
theorem cells_pc {cs:List IV} {o:Nat}:(IV.ptrC cs o).cells=[.ptrC cs o]:=zax rfl rfl
theorem V0:(type_of% @Wlk)/\(type_of% @putS_len)/\(type_of% @gp_eq)/\(type_of% @gp_ne)/\(type_of% @gq_eq)/\(type_of% @gq_ne)/\(type_of% @zb)/\(type_of% @za)/\(type_of% @ne_eq.{1})/\(type_of% @not_false_eq_true)/\(type_of% @not_true_eq_false)/\(type_of% @zbd.{0})/\(type_of% @zbk.{0})/\(type_of% @zbv.{0})/\(type_of% @List.all_cons.{0})/\(type_of% @List.all_nil.{0})/\(type_of% @Bool.and_self)/\(type_of% @Bool.and_true)/\(type_of% @Bool.true_and)/\(type_of% @if_true.{1})/\(type_of% @zbc.{0})/\(type_of% @zau.{0})/\(type_of% @zap)/\(type_of% @Nat.add_zero)/\(type_of% @zaq)/\(type_of% @and_self)/\(type_of% @and_true)/\(type_of% @true_and)/\(type_of% @za8.{0})/\(type_of% @za1.{0})/\(type_of% @za5.{0,0})/\(type_of% @Option.map_none.{0,0})/\(type_of% @za7.{0,0})/\(type_of% @zaz)/\(type_of% @if_false.{1})/\(type_of% @List.map_cons.{0,0})/\(type_of% @List.map_nil.{0,0})/\(type_of% @Int.ofNat_lt)/\(type_of% @decide_true)/\(type_of% @decide_false)/\(type_of% @beq_iff_eq.{0})/\(type_of% @za9.{0})/\(type_of% @zaw.{0})/\(type_of% @zbm)/\(type_of% @zbj)/\(type_of% @mkAt.eq_1)/\(type_of% @Go.Proofs.YtgmifgfbnnbgjaaGreatDoor.look.eq_1)/\(type_of% @mkv_ff)/\(type_of% @mkv_tt)/\(type_of% @binI.eq_1)/\(type_of% @binI.eq_2)/\(type_of% @intBin.eq_1)/\(type_of% @intBin.eq_2)/\(type_of% @intBin.eq_3)/\(type_of% @intBin.eq_4)/\(type_of% @intBin.eq_5)/\(type_of% @intBin.eq_6)/\(type_of% @intBin.eq_7)/\(type_of% @intBin.eq_8)/\(type_of% @intBin.eq_9)/\(type_of% @intBin.eq_10)/\(type_of% @intBin.eq_11)/\(type_of% @intBin.eq_12)/\(type_of% @intBin.eq_13)/\(type_of% @intBin.eq_14)/\(type_of% @sh_shl)/\(type_of% @sh_shr)/\(type_of% @sh_add)/\(type_of% @sh_sub)/\(type_of% @sh_mul)/\(type_of% @sh_quo)/\(type_of% @sh_rem)/\(type_of% @sh_and)/\(type_of% @sh_or)/\(type_of% @sh_xor)/\(type_of% @sh_eql)/\(type_of% @sh_neq)/\(type_of% @sh_lss)/\(type_of% @sh_leq)/\(type_of% @sh_gtr)/\(type_of% @sh_geq)/\(type_of% @unI.eq_1)/\(type_of% @unI.eq_2)/\(type_of% @fillI.eq_1)/\(type_of% @fillI.eq_2)/\(type_of% @cellV.eq_1)/\(type_of% @e_nilchk.eq_1)/\(type_of% @e_pick.eq_1)/\(type_of% @e_box.eq_1)/\(type_of% @e_bslice.eq_1)/\(type_of% @e_load.eq_1)/\(type_of% @e_store.eq_1)/\(type_of% @e_eqb.eq_1)/\(type_of% @e_eqp.eq_1)/\(type_of% @e_eqs.eq_1)/\(type_of% @e_eqagg.eq_1)/\(type_of% @e_conv.eq_1)/\(type_of% @e_faddr.eq_1)/\(type_of% @e_field.eq_1)/\(type_of% @e_extract.eq_1)/\(type_of% @e_call.eq_1)/\(type_of% @e_mx.eq_1)/\(type_of% @repl_0)/\(type_of% @repl_1)/\(type_of% @repl_2)/\(type_of% @repl_3)/\(type_of% @repl_4)/\(type_of% @repl_5)/\(type_of% @repl_6)/\(type_of% @scal_pc)/\(type_of% @eq_self.{1})/\(type_of% @cells_pc) :=
 ⟨@Wlk,@putS_len,@gp_eq,@gp_ne,@gq_eq,@gq_ne,@zb,@za,@ne_eq.{1},@not_false_eq_true,@not_true_eq_false,@zbd.{0},@zbk.{0},@zbv.{0},@List.all_cons.{0},@List.all_nil.{0},@Bool.and_self,@Bool.and_true,@Bool.true_and,@if_true.{1},@zbc.{0},@zau.{0},@zap,@Nat.add_zero,@zaq,@and_self,@and_true,@true_and,@za8.{0},@za1.{0},@za5.{0,0},@Option.map_none.{0,0},@za7.{0,0},@zaz,@if_false.{1},@List.map_cons.{0,0},@List.map_nil.{0,0},@Int.ofNat_lt,@decide_true,@decide_false,@beq_iff_eq.{0},@za9.{0},@zaw.{0},@zbm,@zbj,@mkAt.eq_1,@Go.Proofs.YtgmifgfbnnbgjaaGreatDoor.look.eq_1,@mkv_ff,@mkv_tt,@binI.eq_1,@binI.eq_2,@intBin.eq_1,@intBin.eq_2,@intBin.eq_3,@intBin.eq_4,@intBin.eq_5,@intBin.eq_6,@intBin.eq_7,@intBin.eq_8,@intBin.eq_9,@intBin.eq_10,@intBin.eq_11,@intBin.eq_12,@intBin.eq_13,@intBin.eq_14,@sh_shl,@sh_shr,@sh_add,@sh_sub,@sh_mul,@sh_quo,@sh_rem,@sh_and,@sh_or,@sh_xor,@sh_eql,@sh_neq,@sh_lss,@sh_leq,@sh_gtr,@sh_geq,@unI.eq_1,@unI.eq_2,@fillI.eq_1,@fillI.eq_2,@cellV.eq_1,@e_nilchk.eq_1,@e_pick.eq_1,@e_box.eq_1,@e_bslice.eq_1,@e_load.eq_1,@e_store.eq_1,@e_eqb.eq_1,@e_eqp.eq_1,@e_eqs.eq_1,@e_eqagg.eq_1,@e_conv.eq_1,@e_faddr.eq_1,@e_field.eq_1,@e_extract.eq_1,@e_call.eq_1,@e_mx.eq_1,@repl_0,@repl_1,@repl_2,@repl_3,@repl_4,@repl_5,@repl_6,@scal_pc,@eq_self.{1},@cells_pc⟩
theorem L1:(type_of% @yr)/\(type_of% @rest_bk)/\(type_of% @rest_hide)/\(type_of% @Zi)/\(type_of% @List.length_set.{0})/\(type_of% @gt_iff_lt.{0})/\(type_of% @ge_iff_le.{0})/\(type_of% @Int.ofNat_le) :=
 ⟨@yr,@rest_bk,@rest_hide,@Zi,@List.length_set.{0},@gt_iff_lt.{0},@ge_iff_le.{0},@Int.ofNat_le⟩
theorem L2 {own0:yLO} {b:Nat} {α:Type} {g:α->List IV} {e:α->IV} {sz:Nat} {agg:Bool} (hb:b<own0.length) (hE:Elt g e sz agg):(∀ {c:List IV} {R:yLO},(Bk own0 b c++R)[b]?=some (.cells c))/\(∀ {c c':List IV} {R:yLO},(Bk own0 b c++R).set b (.cells c')=Bk own0 b c'++R)/\(∀ {c:List IV} {R:yLO} {vis:List Nat} {k:Nat},(hide vis (own0.length+k) (Bk own0 b c++R))[b]?=some (.cells c))/\(∀ x,(e x).cells=g x)/\(∀ x,(g x).length=sz)/\(∀ x,(g x).all IV.scalar=true)/\(∀ {xs:List α} {i:Nat} {x:α},i<xs.length->wrN (xs.flatMap g) (i*sz) (g x)=(xs.set i x).flatMap g)/\(∀ {xs:List α} {i:Nat},i<xs.length->i*sz+sz<=(xs.flatMap g).length) :=
 ⟨bk_get hb,bk_set hb,bk_hide hb,hE.cells,hE.len,hE.scal,hE.st,hE.fits⟩
def slotsOf:Nat->List IV->List (Nat × IV)
 | _,[]=>[]
 | k,x::xs=>(k,x)::slotsOf (k+1) xs
theorem V2:(type_of% @slotsOf.eq_1)/\(type_of% @slotsOf.eq_2)/\(type_of% @za)/\(type_of% @zb)/\(type_of% @zap):=⟨@slotsOf.eq_1,@slotsOf.eq_2,@za,@zb,@zap⟩
theorem V3:(type_of% @za)/\(type_of% @zb)/\(type_of% @zg):=⟨@za,@zb,@zg⟩
theorem gx {α:Type} {l:List α} {i:Nat} (h:i<l.length):∃ x,l[i]?=some x:=⟨_,zak h⟩
theorem yB:∀ {xs:List IV} {k:Nat} {p:Nat × IV},p∈slotsOf k xs->∃ j,p.1=k+j/\xs[j]?=some p.2
 | [],_,_,h=>by simp [slotsOf] at h
 | x::xs,k,p,h=>by
  simp only [slotsOf,za4] at h
  rcases h with rfl | h
  ·exact ⟨0,rfl,rfl⟩
  ·obtain ⟨j,h1,h2⟩:=yB h
   exact ⟨j+1,by omega,h2⟩
def FinY (d:Nat) (out:yLM) (rs:List IRes) (Q:IV->List IObj->Prop) (o:Out) (st:St):Prop:=(o=.normal∨o=.ret)/\∃ v,resultI d out st rs=some v/\Q v st.own
section
variable {F:FuncId->Option IFn} {S:ySM} {d:Nat} {out:yLM} {rs:List IRes} {Q:IV->List IObj->Prop} {st:St}
theorem zj:FinY d out rs Q .ret st=∃ v,resultI d out st rs=some v/\Q v st.own:=propext ⟨fun h=>h.2,fun h=>⟨.inr rfl,h⟩⟩
theorem zx:FinY d out rs Q .normal st=∃ v,resultI d out st rs=some v/\Q v st.own:=propext ⟨fun h=>h.2,fun h=>⟨.inl rfl,h⟩⟩
theorem gives_y {f:FuncId} {i:IFn} {args:List IV} {m:Nat} {ownV own:yLO} (hS:S f args=none) (hi:F f=some i) (hm:i.mode=2)
  (h:Ex (callN F S m) d out m i.body (FinY d out i.res Q) ⟨args++List.replicate (i.ntmps - args.length) (.tuple []),own⟩):∃ v own',(∀ id,callN F S (m+1) d out ownV own id f args=some (.x,v,own'))/\Q v own':=by
 obtain ⟨o,st,h1,h2,v,h3,h4⟩:=h
 refine ⟨v,st.own,fun id=>?_,h4⟩
 simp only [callN,hS,hi,hm,if_true,zf,h1]
 rcases h2 with rfl | rfl <;> simp only [ended,h3,za5]
end
theorem zD {F:FuncId->Option IFn} {S:ySM} {d:Nat} {out:yLM} {Q:IV->List IObj->Prop} {f:FuncId} {i:IFn} {args:List IV} {m:Nat} {ownV own:yLO} (hS:S f args=none) (hi:F f=some i) (hm:i.mode=2) (hl:args.length<=i.ntmps)
  (h:∀ t,Slots i.ntmps t (slotsOf 0 args)->Ex (callN F S m) d out m i.body (FinY d out i.res Q) ⟨t,own⟩):∃ v own',(∀ id,callN F S (m+1) d out ownV own id f args=some (.x,v,own'))/\Q v own':=by
 refine gives_y hS hi hm (h _ ⟨by simp; omega,fun p hp=>?_⟩)
 obtain ⟨j,h1,h2⟩:=yB hp
 rw [zR,zbf,h1,zap,zar (zal.1 h2).1,h2]
 rfl
theorem zk {k:Int} {n:Nat} (h:k=n) (hn:n<9223372036854775808):wrapI .i64 k=(n:Int):=by
 subst h
 exact (zE _ _).trans (IntWalk.i64_in _ (by constructor <;> omega))
theorem we {k:Int} {n:Nat} (h:k=n:=by omega) (hn:n<9223372036854775808:=by omega):wrapI .i64 k=(n:Int):=zk h hn
theorem Z5 {k n:Int} (h:k=n) (h1:-9223372036854775808<=n) (h2:n<9223372036854775808):wrapI .i64 k=n:=by
 subst h
 exact (zE _ _).trans (IntWalk.i64_in _ (by constructor <;> omega))
theorem Z6 (x k:Nat) (hx:x<9223372036854775808):wrapI .i64 (Int.tdiv (x:Int) (k:Int))=((x / k:Nat):Int):=by
 rw [← Int.ofNat_tdiv]
 have:=Nat.div_le_self x k
 exact zk rfl (by omega)
section
variable {own0 J0 J1:yLO} {b:Nat} {c:List IV} {x y:IObj}
theorem ye:(Bk own0 b c++(J0++x::J1))[own0.length+J0.length]?=some x:=by
 rw [zas (by rw [yr]; omega),yr,zbr,zas (zaq _),Nat.sub_self]
 rfl
theorem yk:(Bk own0 b c++(J0++x::J1)).set (own0.length+J0.length) y=Bk own0 b c++(J0++y::J1):=by
 rw [List.set_append_right _ _ (by rw [yr]; omega),yr,zbr,List.set_append_right _ _ (zaq _),Nat.sub_self]
 rfl
theorem ya {vis:List Nat} {k:Nat}:(hide vis (own0.length+(J0.length+(k+1))) (Bk own0 b c++(J0++x::J1)))[own0.length+J0.length]?=some x:=by
 rw [zI,ye]
 simp
end
end
section
def LessOK {α:Type} (S:ySM) (N:Nat) (e:α->IV) (r:α->α->Bool):Prop:=∀ m,N<=m->∀ d out ownV own id x y,callN Ftab S m d out ownV own id 153 [e x,e y]=some (.r,.bool (r x y),own)
theorem zh {S:ySM} {f:FuncId} {i:IFn} {args:List IV} {v:IV} (hS:S f args=none) (hi:Ftab f=some i) (hm:i.mode=0) (hl:args.length<=i.ntmps) (N:Nat) (hN:1<=N) (hv:Fz 1 v)
  (h:∀ m,N<=m->∀ d out t,Slots i.ntmps t (slotsOf 0 args)->Ex (callN Ftab S m) d out m i.body (Fin d out i.res v) ⟨t,[]⟩):∀ m,N+1<=m->∀ d out ownV own id,callN Ftab S m d out ownV own id f args=some (.r,v,own):=by
 intro m hm1 d out ownV own id
 obtain ⟨m,rfl⟩:∃ q,m=q+1:=⟨m - 1,by omega⟩
 obtain ⟨o,st,h1,h2,h3⟩:=h m (by omega) (d+1) (fun l=>if l=d then ownV else out l) (args++List.replicate (i.ntmps - args.length) (.tuple [])) ⟨by simp; omega,fun p hp=>by
  obtain ⟨j,h1,h2⟩:=yB hp
  rw [zR,zbf,h1,zap,zar (zal.1 h2).1,h2]
  rfl⟩
 have hm0:¬ (0=2):=by decide
 have hm00:¬ (0=3):=by decide
 have hf:freeze m (d+1) st.own v=some v:=hv m (by omega) _ _
 simp only [callN,hS,hi,hm,hm0,hm00,if_false,zf,h1]
 rcases h2 with rfl | rfl <;> simp [ended,h3,leave,hf]
theorem gives_nan {S:ySM} (hS:NoS S) (x:Int):∀ m,2<=m->∀ d out ownV own id,callN Ftab S m d out ownV own id 185 [.int .i64 x]=some (.r,.bool false,own):=by
 refine zh (i:=i185) (ns hS (by rfl)) rfl rfl (lb rfl) 1 (by omega) zm fun m hm d out t hfr=>?_
 simp only [V2,Nat.reduceAdd,i185] at hfr
 have hx:(x != x)=false:=by simp
 simp only [i185,V0,sevalprocAttr,hfr,hx]
theorem less_ok {S:ySM} (hS:NoS S):LessOK S 4 (fun x:Int=>.int .i64 x) (fun x y=>decide (x<y)):=by
 intro m hm d out ownV own id x y
 refine zh (i:=i153) (ns hS (by rfl)) rfl rfl (lb rfl) 3 (by omega) zm (fun m hm d out t hfr=>?_) m hm d out ownV own id
 simp only [V2,Nat.reduceAdd,i153] at hfr
 have h1:=fun x=>gives_nan hS x m (by omega)
 simp only [i153,V0,sevalprocAttr,hfr,h1]
end
section
def tabL:List Nat:=[0,1,2,2,3,3,3,3,4,4,4,4,4,4,4,4,5,5,5,5,5,5,5,5,5,5,5,5,5,5,5,5,6,6,6,6,6,6,6,6,6,6,6,6,6,6,6,6,6,6,6,6,6,6,6,6,6,6,6,6,6,6,6,6,7,7,7,7,7,7,7,7,7,7,7,7,7,7,7,7,7,7,7,7,7,7,7,7,7,7,7,7,7,7,7,7,7,7,7,7,7,7,7,7,7,7,7,7,7,7,7,7,7,7,7,7,7,7,7,7,7,7,7,7,7,7,7,7,8,8,8,8,8,8,8,8,8,8,8,8,8,8,8,8,8,8,8,8,8,8,8,8,8,8,8,8,8,8,8,8,8,8,8,8,8,8,8,8,8,8,8,8,8,8,8,8,8,8,8,8,8,8,8,8,8,8,8,8,8,8,8,8,8,8,8,8,8,8,8,8,8,8,8,8,8,8,8,8,8,8,8,8,8,8,8,8,8,8,8,8,8,8,8,8,8,8,8,8,8,8,8,8,8,8,8,8,8,8,8,8,8,8,8,8,8,8,8,8,8,8,8,8,8,8,8,8]
theorem tab_lit:bs [0,1,2,2,3,3,3,3,4,4,4,4,4,4,4,4,5,5,5,5,5,5,5,5,5,5,5,5,5,5,5,5,6,6,6,6,6,6,6,6,6,6,6,6,6,6,6,6,6,6,6,6,6,6,6,6,6,6,6,6,6,6,6,6,7,7,7,7,7,7,7,7,7,7,7,7,7,7,7,7,7,7,7,7,7,7,7,7,7,7,7,7,7,7,7,7,7,7,7,7,7,7,7,7,7,7,7,7,7,7,7,7,7,7,7,7,7,7,7,7,7,7,7,7,7,7,7,7,8,8,8,8,8,8,8,8,8,8,8,8,8,8,8,8,8,8,8,8,8,8,8,8,8,8,8,8,8,8,8,8,8,8,8,8,8,8,8,8,8,8,8,8,8,8,8,8,8,8,8,8,8,8,8,8,8,8,8,8,8,8,8,8,8,8,8,8,8,8,8,8,8,8,8,8,8,8,8,8,8,8,8,8,8,8,8,8,8,8,8,8,8,8,8,8,8,8,8,8,8,8,8,8,8,8,8,8,8,8,8,8,8,8,8,8,8,8,8,8,8,8,8,8,8,8,8,8]=bs tabL:=rfl
def tabB:Bool:=(List.range 256).all fun y=>match (bs tabL)[y]? with
 | some b=>Nat.beq b.toNat (tabL.getD y 0)&&(Nat.beq y 0||Nat.ble (2 ^ b.toNat) (2*y))&&Nat.ble b.toNat 8
 | none=>false
theorem tabB_ok:tabB=true:=by kernel_rfl
theorem tab_at {y:Nat} (h:y<256):∃ b:UInt8,(bs tabL)[y]?=some b/\b.toNat=tabL.getD y 0/\(y=0∨2 ^ tabL.getD y 0<=2*y)/\tabL.getD y 0<=8:=by
 have h1:=zbu.1 tabB_ok y (List.mem_range.2 h)
 cases hb:(bs tabL)[y]? with
 | none=>rw [hb] at h1; simp at h1
 | some b =>
  rw [hb] at h1
  simp only [za3,Bool.or_eq_true,Nat.beq_eq,Nat.ble_eq] at h1
  obtain ⟨⟨h2,h3⟩,h4⟩:=h1
  refine ⟨b,rfl,h2,?_,by omega⟩
  rw [← h2]
  exact h3
def lenN (x:Nat):Nat:=if x<256 then tabL.getD x 0 else 8+tabL.getD (x / 256) 0
theorem lenN_le {x:Nat} (h0:0<x) (h:x<65536):2 ^ lenN x<=2*x/\lenN x<=16:=by
 unfold lenN
 split
 ·rename_i h1
  obtain ⟨b,_,_,h2,h3⟩:=tab_at h1
  exact ⟨by omega,by omega⟩
 ·obtain ⟨b,_,_,h2,h3⟩:=tab_at (y:=x / 256) (by omega)
  refine ⟨?_,by omega⟩
  rw [Nat.pow_add]
  have:x / 256*256<=x:=Nat.div_mul_le_self _ _
  rcases h2 with h2 | h2
  ·omega
  ·have e:2 ^ 8=256:=rfl
   rw [e]
   omega
theorem wrap_u {k:IntKind} {x:Nat} (h:x<256) (hk:k=.u8∨k=.u64∨k=.i64):wrapI k (x:Int)=(x:Int):=by
 rw [zE]
 rcases hk with rfl | rfl | rfl
 ·exact IntWalk.u8_in _ (by omega)
 ·exact IntWalk.u64_in _ (by omega)
 ·exact IntWalk.i64_in _ (by omega)
section
variable {S:ySM}
theorem gives_len64 (hS:NoS S) (x:Nat) (hx:x<65536):Gives Ftab S 216 [.int .u64 (x:Int)] (.int .i64 (lenN x:Int)):=by
 refine yQ (i:=i216) (k:=1) (ns hS (by rfl)) rfl rfl yE 2 (by omega) fun m hm d out=>?_
 have h1:¬ ((4294967296:Int)<=(x:Int)):=by omega
 have h2:¬ ((65536:Int)<=(x:Int)):=by omega
 have ei:∀ (C:Call) (d:Nat) (out:yLM) (n0:Nat) (ownV own:yLO) (t:List IV) (a b:Opd),evOp C d out n0 ownV own t (.indexS a b)=e_indexS own t a b:=fun _ _ _ _ _ _ _ _ _=>rfl
 by_cases h3:(256:Int)<=(x:Int)
 ·have hsh:shiftI .shr .u64 (x:Int) 8=some (.int .u64 ((x / 256:Nat):Int)):=by
   have e:(2:Int) ^ (min (8:Int).toNat IntKind.u64.bits)=256:=by decide
   simp only [shiftI,e]
   rw [Int.fdiv_eq_ediv_of_nonneg _ (by omega)]
   rfl
  obtain ⟨b,hb,hb2,_,h8⟩:=tab_at (y:=x / 256) (by omega)
  have hw:wrapI .u8 ((x / 256:Nat):Int)=((x / 256:Nat):Int):=wrap_u (by omega) (.inl rfl)
  have hw8:wrapI .i64 ((0:Int)+8)=8:=rfl
  have hc:natI (.int .u8 ((x / 256:Nat):Int))=some (x / 256):=zM
  have hwb:wrapI .i64 ((b.toNat:Nat):Int)=((b.toNat:Nat):Int):=wrap_u (by omega) (.inr (.inr rfl))
  have hwc:wrapI .i64 ((8:Int)+((b.toNat:Nat):Int))=((lenN x:Nat):Int):=by
   refine zk ?_ ?_ <;> unfold lenN <;> rw [if_neg (by omega)] <;> omega
  simp only [i216,tab_lit,W0,e_nilchk,e_pick,e_box,e_bslice,e_load,e_store,e_eqb,e_eqp,e_eqs,e_eqagg,e_conv,e_faddr,e_field,e_extract,e_call,e_mx,mkAt,List.replicate,look,mkv,binI,intBin,isShift,unI,fillI,cellV,Nat.reduceAdd,Nat.reduceMul,Nat.reduceLeDiff,reduceCtorEq,Nat.reduceEqDiff,ge_iff_le,h1,h2,h3,hsh,hw8,hw,ei,e_indexS,hc,hb,hwb,hwc,e_conv]
 ·obtain ⟨b,hb,hb2,_,h8⟩:=tab_at (y:=x) (by omega)
  have hw:wrapI .u8 (x:Int)=(x:Int):=wrap_u (by omega) (.inl rfl)
  have hc:natI (.int .u8 (x:Int))=some x:=zM
  have hwb:wrapI .i64 ((b.toNat:Nat):Int)=((b.toNat:Nat):Int):=wrap_u (by omega) (.inr (.inr rfl))
  have hwc:wrapI .i64 ((0:Int)+((b.toNat:Nat):Int))=((lenN x:Nat):Int):=by
   refine zk ?_ ?_ <;> unfold lenN <;> rw [if_pos (by omega)] <;> omega
  simp only [i216,tab_lit,W0,e_nilchk,e_pick,e_box,e_bslice,e_load,e_store,e_eqb,e_eqp,e_eqs,e_eqagg,e_conv,e_faddr,e_field,e_extract,e_call,e_mx,mkAt,List.replicate,look,mkv,binI,intBin,isShift,unI,fillI,cellV,Nat.reduceAdd,Nat.reduceMul,Nat.reduceLeDiff,reduceCtorEq,Nat.reduceEqDiff,ge_iff_le,h1,h2,h3,hw,ei,e_indexS,hc,hb,hwb,hwc,e_conv]
theorem gives_len (hS:NoS S) (x:Nat) (hx:x<65536):Gives Ftab S 184 [.int .u64 (x:Int)] (.int .i64 (lenN x:Int)):=by
 obtain ⟨N,hN⟩:=gives_len64 hS x hx
 refine yQ (i:=i184) (k:=1) (ns hS (by rfl)) rfl rfl yE (N+2) (by omega) fun m hm d out=>?_
 have c1:=hN m (by omega)
 simp only [i184,W0,e_nilchk,e_pick,e_box,e_bslice,e_load,e_store,e_eqb,e_eqp,e_eqs,e_eqagg,e_conv,e_faddr,e_field,e_extract,e_call,e_mx,mkAt,List.replicate,look,mkv,binI,intBin,isShift,unI,fillI,cellV,Nat.reduceAdd,Nat.reduceMul,Nat.reduceLeDiff,reduceCtorEq,Nat.reduceEqDiff,c1]
theorem gives_pow (hS:NoS S) (x:Nat) (h0:0<x) (hx:x<65536):Gives Ftab S 235 [.int .i64 (x:Int)] (.int .u64 ((2 ^ lenN x:Nat):Int)):=by
 obtain ⟨N,hN⟩:=gives_len hS x hx
 refine yQ (i:=i235) (k:=1) (ns hS (by rfl)) rfl rfl yE (N+2) (by omega) fun m hm d out=>?_
 have c1:=hN m (by omega)
 have hl:=lenN_le h0 hx
 have hw:wrapI .u64 (x:Int)=(x:Int):=by
  rw [zE]
  exact IntWalk.u64_in _ (by omega)
 have hsh:shiftI .shl .u64 1 (lenN x:Int)=some (.int .u64 ((2 ^ lenN x:Nat):Int)):=by
  have hle:lenN x<=64:=by omega
  have e:min ((lenN x:Int)).toNat IntKind.u64.bits=lenN x:=by
   rw [Int.toNat_natCast]
   exact Nat.min_eq_left hle
  simp only [shiftI,e]
  rw [if_neg (by omega),zE]
  have h2:(1:Int)*2 ^ lenN x=((2 ^ lenN x:Nat):Int):=by simp
  rw [h2]
  have hP:=hl.1
  generalize 2 ^ lenN x=P at hP ⊢
  rw [IntWalk.u64_in _ (by omega)]
 simp only [i235,W0,e_nilchk,e_pick,e_box,e_bslice,e_load,e_store,e_eqb,e_eqp,e_eqs,e_eqagg,e_conv,e_faddr,e_field,e_extract,e_call,e_mx,mkAt,List.replicate,look,mkv,binI,intBin,isShift,unI,fillI,cellV,Nat.reduceAdd,Nat.reduceMul,Nat.reduceLeDiff,reduceCtorEq,Nat.reduceEqDiff,e_conv,hw,c1,hsh]
theorem gives_next (hS:NoS S) {own0:yLO} {b d:Nat} {out:yLM} (hb:b<own0.length) (m:Nat) (hm:2<=m) (c:List IV) (J0 J:yLO) (z:Int) :
  ∃ (w:Int) (J':yLO),(∀ id,callN Ftab S m d out (Bk own0 b c++(J0++.cells [.int .u64 z]::J)) (Bk own0 b c++(J0++.cells [.int .u64 z]::J)) id 236 [.ptrM d (own0.length+J0.length) 0]=some (.x,.int .u64 w,Bk own0 b c++(J0++.cells [.int .u64 w]::J'))):=by
 obtain ⟨m,rfl⟩:∃ q,m=q+1:=⟨m - 1,by omega⟩
 have main:∃ v own',(∀ id,callN Ftab S (m+1) d out (Bk own0 b c++(J0++.cells [.int .u64 z]::J)) (Bk own0 b c++(J0++.cells [.int .u64 z]::J)) id 236 [.ptrM d (own0.length+J0.length) 0]=some (.x,v,own'))/\(∃ (w:Int) (J':yLO),v=.int .u64 w/\own'=Bk own0 b c++(J0++.cells [.int .u64 w]::J')):=by
  refine zD (i:=i236) (ns hS (by rfl)) rfl rfl (lb rfl) fun t hfr=>?_
  simp only [V2,i236] at hfr
  obtain ⟨w1,h1⟩:∃ w,shiftI .shl .u64 z 13=some (.int .u64 w):=⟨_,rfl⟩
  simp only [i236,V0,sevalprocAttr,hfr,ye,yk,ya,yr,h1]
  refine ⟨by simp [comm],?_⟩
  generalize IntKind.wrap .u64 _=z1
  obtain ⟨w2,h2⟩:∃ w,shiftI .shr .u64 z1 7=some (.int .u64 w):=⟨_,rfl⟩
  simp only [V0,sevalprocAttr,hfr,ye,yk,ya,yr,h2]
  refine ⟨by simp [comm],?_⟩
  generalize IntKind.wrap .u64 _=z2
  obtain ⟨w3,h3⟩:∃ w,shiftI .shl .u64 z2 17=some (.int .u64 w):=⟨_,rfl⟩
  simp only [V0,sevalprocAttr,hfr,ye,yk,ya,yr,h3]
  refine ⟨by simp [comm],?_⟩
  simp only [V0,sevalprocAttr,hfr,ye,yk,ya,yr,zj]
  exact ⟨_,rfl,_,_,rfl,rfl⟩
 obtain ⟨v,own',h1,w,J',rfl,rfl⟩:=main
 exact ⟨w,J',h1⟩
theorem mask_le (x:Int) (P:Nat) (h0:0<P) (h:P<=131072):∃ v:Nat,v<P/\IntKind.wrap .u64 (((BitVec.ofInt IntKind.u64.bits x &&& BitVec.ofInt IntKind.u64.bits ((P - 1:Nat):Int)).toNat:Nat):Int)=(v:Int):=by
 refine ⟨(BitVec.ofInt IntKind.u64.bits x &&& BitVec.ofInt IntKind.u64.bits ((P - 1:Nat):Int)).toNat,?_,?_⟩
 ·rw [BitVec.toNat_and]
  refine Nat.lt_of_le_of_lt Nat.and_le_right ?_
  rw [BitVec.ofInt_natCast,BitVec.toNat_ofNat]
  exact Nat.lt_of_le_of_lt (Nat.mod_le _ _) (by omega)
 ·refine IntWalk.u64_in _ ⟨by omega,?_⟩
  have h1:(BitVec.ofInt IntKind.u64.bits x &&& BitVec.ofInt IntKind.u64.bits ((P - 1:Nat):Int)).toNat<=P - 1:=by
   rw [BitVec.toNat_and]
   refine zbo Nat.and_le_right ?_
   rw [BitVec.ofInt_natCast,BitVec.toNat_ofNat]
   exact Nat.mod_le _ _
  omega
def PowOK (S:ySM) (N:Nat):Prop:=∀ x:Nat,0<x->x<65536->∀ m,N<=m->∀ d out ownV own id,callN Ftab S m d out ownV own id 235 [.int .i64 (x:Int)]=some (.r,.int .u64 ((2 ^ lenN x:Nat):Int),own)
def LenOK (S:ySM) (N:Nat):Prop:=∀ x:Nat,x<65536->∀ m,N<=m->∀ d out ownV own id,callN Ftab S m d out ownV own id 184 [.int .u64 (x:Int)]=some (.r,.int .i64 (lenN x:Int),own)
theorem unifN {P:Nat->Nat->Prop} (hmono:∀ N M x,N<=M->P N x->P M x):∀ B,(∀ x,x<B->∃ N,P N x)->∃ N,∀ x,x<B->P N x
 | 0,_=>⟨0,fun x h=>absurd h (Nat.not_lt_zero _)⟩
 | B+1,h=>by
  obtain ⟨N,hN⟩:=unifN hmono B fun x hx=>h x (by omega)
  obtain ⟨M,hM⟩:=h B (by omega)
  refine ⟨N+M,fun x hx=>?_⟩
  by_cases hb:x=B
  ·exact hmono M _ _ (by omega) (hb ▸ hM)
  ·exact hmono N _ _ (by omega) (hN x (by omega))
theorem pow_ok (hS:NoS S):∃ N,PowOK S N:=by
 obtain ⟨N,hN⟩:=unifN (P:=fun N x=>0<x->∀ m,N<=m->∀ d out ownV own id,callN Ftab S m d out ownV own id 235 [.int .i64 (x:Int)]=some (.r,.int .u64 ((2 ^ lenN x:Nat):Int),own)) (fun N M x h hp h0 m hm=>hp h0 m (by omega)) 65536 fun x hx=>by
  by_cases h0:0<x
  ·obtain ⟨N,hN⟩:=gives_pow hS x h0 hx
   exact ⟨N,fun _=>hN⟩
  ·exact ⟨0,fun h=>absurd h h0⟩
 exact ⟨N,fun x h0 hx=>hN x hx h0⟩
theorem len_ok (hS:NoS S):∃ N,LenOK S N:=by
 obtain ⟨N,hN⟩:=unifN (P:=fun N x=>∀ m,N<=m->∀ d out ownV own id,callN Ftab S m d out ownV own id 184 [.int .u64 (x:Int)]=some (.r,.int .i64 (lenN x:Int),own)) (fun N M x h hp m hm=>hp m (by omega)) 65536 fun x hx=>gives_len hS x hx
 exact ⟨N,fun x hx=>hN x hx⟩
end
end
end Go.Proofs.YtgmifgfbnnbgjaaGreatDoor
end
