/-
  A part of the proof: the small machine, its simulation and its walks.
-/
import Derived.Test.YtdacpmgnhkmnkaaGreatDoorProg
import Derived.WalkKit
import Derived.WalkSpells
import Derived.WalkLawsBesides
import Derived.Handy
import Derived.Lib.Hide
import Derived.Deep.QuietTactic
import Derived.BigQuiet
import Derived.RunT
import Derived.Lone
import Derived.Lib.QuietBelow
import Derived.Test.YtdacpmgnhkmnkaaGreatDoorCards
import Derived.Test.YtdacpmgnhkmnkaaGreatDoorTie
import Derived.ProofKit
import Derived.OpenShut
import Derived.Deep.DeepHandedRow
import Derived.Lib.LaidTab
import Derived.Lib.LaidU8
import Derived.ChangeOld
import Derived.Tactics
import Derived.RowKit3
import Derived.Orders
import Derived.Below
import Derived.IntWalk
import Derived.Sort.Defs
import Derived.Lib.BitFns
import Derived.CheckFast
import Derived.Laws.CopyRow
import Derived.Laws.Cells
import Derived.Laws.Append
import Derived.Laws.StructEq
import Derived.Laws.Slices
import Derived.Laws.Tables
import Derived.Laws.Small
import Derived.ChangeKeysEq
import Derived.MapKept
set_option linter.unusedVariables false
set_option linter.unusedSimpArgs false
set_option linter.unusedSectionVars false
set_option linter.defProp false
set_option maxRecDepth 1000000
set_option maxHeartbeats 3200000
open Nat renaming reduceLT → Xa, reduceAdd → Xb, reduceMul → Xc, reduceLeDiff → Xd, reduceEqDiff → Xe
namespace Go.Proofs.YtdacpmgnhkmnkaaGreatDoor
theorem Ω{p:Prop}(h:p:=by omega):p:=h
theorem Δ{p:Prop}(h:p:=by decide):p:=h
theorem Ψ{p:Prop}(h:p:=by simp):p:=h
theorem Φ{p:Prop}(h:p:=by rfl):p:=h
end Go.Proofs.YtdacpmgnhkmnkaaGreatDoor
namespace Go.Proofs.YtdacpmgnhkmnkaaGreatDoor
section
open Go
abbrev cU:=@List.getElem?_eq_some_iff
abbrev cK:=@List.getElem?_eq_getElem
abbrev cu:=@List.length_cons
abbrev dw:=@List.length_nil
abbrev bL:=@cond_false
abbrev gT:=@List.getElem?_append_left
abbrev gj:=@List.take_of_length_le
abbrev eR:=@List.length_append
abbrev jd:=@List.getElem?_append_right
abbrev bT:=@cond_true
abbrev eU:=@Int.natCast_zero
abbrev ew:=@Bool.false_and
abbrev fJ:=@List.flatMap_cons
abbrev fZ:=@Option.some.injEq
abbrev dz:=@Nat.le_refl
abbrev bt:=@if_pos
abbrev jP:=@List.getElem?_cons_succ
abbrev bC:=@if_neg
abbrev gJ:=@Bool.and_eq_true
abbrev iC:=@Result.andThen_ok
abbrev gQ:=@List.cons_append
abbrev gU:=@List.getElem_mem
abbrev gH:=@Option.map_some
abbrev gM:=@List.nil_append
abbrev fF:=@List.mem_cons
abbrev mN:=@List.getD_eq_getElem?_getD
abbrev ig:=@List.length_map
abbrev j5:=@List.mem_of_getElem?
abbrev jk:=@decide_eq_true_eq
abbrev iL:=@List.append_nil
abbrev fO:=@Nat.zero_add
abbrev kB:=@List.mem_cons_self
abbrev jG:=@Option.bind_some
abbrev kR:=@List.append_assoc
abbrev j4:=@List.not_mem_nil
abbrev k9:=@List.getElem?_map
abbrev dO:=@Eq.trans
abbrev jv:=@Option.map_map
abbrev iB:=@Sem.run_bind
abbrev nM:=@List.contains_iff_mem
abbrev oa:=@List.getElem?_set_self
abbrev iS:=@Bool.false_or
abbrev lH:=@List.take_add_one
abbrev l7:=@Bool.false_eq_true
abbrev nr:=@List.getElem?_set_ne
abbrev nk:=@List.mem_cons_of_mem
abbrev k8:=@List.length_take
abbrev kT:=@Option.some.inj
abbrev lz:=@List.flatMap_nil
abbrev eZ:=@gt_iff_lt
abbrev ep:=@congrArg
abbrev j3:=@Bool.false_bne
abbrev pP:=@Array.getElem?_toList
abbrev iY:=@Bool.true_or
abbrev jt:=@Sem.run_pure
abbrev qU:=@List.getElem?_cons_zero
abbrev jA:=@List.mem_map
abbrev pY:=@List.getElem?_of_mem
abbrev sr:=@List.length_eq_zero_iff
abbrev l8:=@Bool.and_false
abbrev nu:=@Bool.or_eq_true
abbrev qx:=@List.mem_singleton
abbrev ot:=@List.all_eq_true
abbrev nU:=@Bool.eq_iff_iff
abbrev og:=@List.mem_append
abbrev lW:=@Nat.le_trans
abbrev qO:=@List.pairwise_map
abbrev rP:=@Option.toList_some
abbrev qT:=@List.any_eq_false
abbrev vB:=@decide_eq_false_iff_not
abbrev nK:=@List.map_cons
abbrev qS:=@List.mem_flatMap
abbrev Fv:=@List.eq_nil_of_length_eq_zero
abbrev qu:=@Nat.min_eq_left
abbrev Kt:=@List.findIdx?_eq_some_iff_getElem
abbrev Fb:=@Array.getElem?_eq_some_iff
abbrev B4:=@Nat.add_sub_cancel_left
abbrev rR:=@List.any_eq_true
abbrev uQ:=@Bool.or_eq_false_iff
abbrev uG:=@Option.bind_eq_bind
abbrev uF:=@List.length_reverse
abbrev pX:=@Bool.true_and
abbrev NG:=@Int.mul_nonpos_of_nonneg_of_nonpos
abbrev tB:=@Bool.not_eq_true'
abbrev BZ:=@List.getElem?_eq_none
abbrev qt:=@List.all_cons
abbrev rO:=@List.mapM_cons
abbrev rN:=@List.mem_range
abbrev sZ:=@Bool.not_eq_true
abbrev qN:=@Prod.mk.injEq
abbrev tE:=@Option.getD_some
abbrev tD:=@List.length_drop
abbrev HM:=@List.drop_eq_getElem_cons
abbrev s6:=@List.length_set
abbrev qw:=@Nat.zero_mul
abbrev qv:=@Nat.add_comm
abbrev B6:=@List.flatMap_append
abbrev Fc:=@List.set_append_right
abbrev k7:=@or_false
abbrev tC:=@Option.pure_def
abbrev tu:=@List.mem_filter
abbrev Ks:=@List.findIdx?_eq_none_iff
abbrev mM:=@ge_iff_le
abbrev n9:=@beq_iff_eq
abbrev Fu:=@List.take_append_drop
abbrev rM:=@Nat.sub_self
abbrev Cb:=@List.pairwise_cons
abbrev E9:=@List.filter_append
abbrev VQ:=@Int.mul_nonpos_of_nonpos_of_nonneg
abbrev HL:=@Nat.mul_le_mul_right
abbrev BX:=@List.filter_cons
abbrev Kr:=@Nat.eq_of_beq_eq_true
abbrev Fq:=@List.getElem?_take
abbrev sY:=@Nat.add_zero
abbrev E8:=@List.ext_getElem?
abbrev HJ:=@List.mem_map_of_mem
abbrev uO:=@Nat.add_assoc
abbrev M6:=@Nat.le_of_ble_eq_true
abbrev xI:=@List.take_zero
abbrev HI:=@List.set_cons_succ
abbrev E7:=@List.take_length
abbrev Ca:=@List.find?_cons
abbrev vA:=@Bool.not_true
abbrev BW:=@Bool.not_false
abbrev BV:=@List.drop_zero
abbrev E6:=@List.map_append
abbrev SU:=@Array.getElem?_eq_getElem
abbrev SS:=@Int.mul_pos_of_neg_of_neg
abbrev tA:=@Int.neg_neg
abbrev VT:=@List.perm_ext_iff_of_nodup
abbrev Fa:=@Int.mul_nonneg
abbrev uP:=@Nat.one_mul
abbrev Cc:=@List.mapM_nil
abbrev VS:=@List.mem_of_find?_eq_some
abbrev SB:=@List.mem_iff_getElem
abbrev BY:=@List.map_nil
abbrev SA:=@List.mem_append_left
abbrev M3:=@List.nodup_append
abbrev NF:=@List.findIdx?_cons
abbrev M1:=@List.getElem_inj
abbrev BU:=@Nat.add_mul
abbrev Sz:=@List.getElem?_drop
abbrev VP:=@List.drop_eq_nil_of_le
abbrev VO:=@List.append_eq_nil_iff
abbrev XJ:=@Bool.eq_false_or_eq_true
abbrev ND:=@Nat.mod_eq_of_lt
abbrev HH:=@Bool.and_self
abbrev VN:=@Bool.and_eq_false_iff
abbrev Sy:=@Bool.eq_false_iff
abbrev SQ:=@Option.isSome_none
abbrev VM:=@List.pairwise_append
abbrev SP:=@List.set_cons_zero
abbrev NC:=@Option.map_none
abbrev Kn:=@Bool.and_true
abbrev HG:=@Int.le_of_lt
abbrev Sw:=@List.mem_reverse
abbrev zku:=@List.getLast?_eq_getElem?
abbrev VL:=@List.getElem?_range
abbrev SO:=@List.getElem?_set
abbrev Fp:=@Int.le_refl
abbrev XI:=@List.mem_append_right
abbrev XH:=@List.length_filter_le
abbrev XN:=@List.getElem?_reverse
abbrev M5:=@Bool.or_false
abbrev Kq:=@Bool.or_true
abbrev XM:=@List.getElem?_mapIdx
abbrev M4:=@Int.zero_mul
abbrev XL:=@List.getD_cons_zero
abbrev XK:=@List.length_pos_iff
abbrev SR:=@List.any_append
abbrev Ko:=@Int.mul_pos
abbrev zk9:=@List.getElem?_toArray
abbrev zla:=@List.pairwise_flatMap
abbrev XE:=@Nat.lt_of_lt_of_le
abbrev XD:=@List.find?_eq_none
abbrev NB:=@Nat.succ_mul
abbrev uE:=@Ne.symm
abbrev zlf:=@List.getElem?_take_of_lt
abbrev XC:=@DataW.trod_struct
abbrev XB:=@List.length_range
abbrev zli:=@List.mem_zipIdx_iff_getElem?
abbrev zlj:=@Option.map_eq_some_iff
abbrev Ss:=@Sem.runT_fst
abbrev Sr:=@Bool.or_self
abbrev NA:=@Nat.zero_le
abbrev XA:=@List.map_toArray
abbrev zlo:=@Nat.lt_or_eq_of_le
abbrev zlp:=@Array.getElem?_modify
abbrev zlq:=@Int.mul_neg_of_neg_of_pos
abbrev zlr:=@Int.mul_neg_of_pos_of_neg
abbrev Xz:=@List.foldl_cons
abbrev Xy:=@List.all_append
abbrev Xx:=@Int.natCast_one
abbrev Xw:=@List.range_succ
abbrev zlw:=@Nat.le_of_lt_succ
abbrev zlx:=@Array.all_eq_true_iff_forall_mem
abbrev zly:=@List.mem_of_mem_take
abbrev zlz:=@List.all_eq_false
abbrev SN:=@List.map_map
abbrev Su:=@Int.sub_mul
abbrev zl2:=@Nat.lt_trichotomy
abbrev zl3:=@List.Perm.eq_of_pairwise
abbrev zl4:=@List.getD_cons_succ
abbrev zl5:=@Nat.add_le_add_left
abbrev zl6:=@List.take_succ_cons
abbrev zl7:=@Nat.le_of_not_lt
abbrev XG:=@List.drop_drop
abbrev XF:=@Nat.mul_le_mul
abbrev zma:=@Option.bind_eq_some_iff
abbrev zmb:=@List.length_eq_one_iff
abbrev zmc:=@List.append_of_mem
abbrev zmd:=@Nat.pos_of_ne_zero
abbrev VK:=@List.all_nil
abbrev VJ:=@Int.mul_zero
abbrev zmg:=@Int.mul_eq_zero
abbrev zmh:=@List.filter_nil
abbrev zmi:=@UInt8.toNat.inj
abbrev Xv:=@List.any_cons
abbrev zmk:=@List.pairwise_reverse
abbrev zml:=@List.eq_nil_or_concat
abbrev zmm:=@List.mem_iff_getElem?
abbrev zmn:=@List.find?_append
abbrev zmo:=@List.foldl_append
abbrev SM:=@Nat.mod_lt
abbrev zmq:=@List.findIdx?_append
abbrev zmr:=@Bool.xor_false
abbrev zms:=@Array.toList_map
abbrev zmt:=@Nat.lt_succ_self
abbrev zmu:=@Decidable.byContradiction
abbrev zmv:=@List.getElem?_zip_eq_some
abbrev zmw:=@List.filter_eq_self
abbrev zmx:=@List.mergeSort_perm
abbrev zmy:=@Option.isSome_iff_exists
abbrev zmz:=@Addr.mk.injEq
abbrev Nz:=@and_true
abbrev Ny:=@true_and
abbrev Nx:=@and_self
abbrev zm3:=@Nat.mul_eq_zero
abbrev zm4:=@Nat.not_lt_zero
abbrev zm5:=@Nat.add_sub_cancel
abbrev zm6:=@Int.mul_nonneg_of_nonpos_of_nonpos
abbrev zm7:=@Bool.not_eq_false'
abbrev zm8:=@UInt8.toNat_ofNat'
abbrev zm9:=@Array.getElem?_extract
abbrev zna:=@not_false_eq_true
abbrev znb:=@List.filter_eq_nil_iff
abbrev znc:=@List.getElem_cons_zero
abbrev znd:=@Int.sub_self
abbrev zne:=@Array.getElem?_setIfInBounds_ne
abbrev znf:=@List.concat_eq_append
abbrev zng:=@List.range'_succ
abbrev znh:=@List.getElem!_eq_getElem?_getD
abbrev zni:=@List.find?_eq_some_iff_getElem
abbrev znj:=@Nat.lt_irrefl
abbrev znk:=@List.cons.inj
abbrev znl:=@Array.toArray_toList
abbrev znm:=@List.range_eq_range'
abbrev znn:=@List.getElem?_zipIdx
abbrev zno:=@List.reverse_reverse
abbrev znp:=@List.mem_of_getLast?
abbrev znq:=@List.cons.injEq
abbrev znr:=@List.nodup_cons
abbrev zns:=@ByteArray.toList_eq
abbrev znt:=@List.map_congr_left
abbrev znu:=@Nat.sub_zero
abbrev znv:=@Int.mul_lt_mul_of_pos_right
abbrev znw:=@List.attach_map_subtype_val
abbrev znx:=@DataW.trod_int
abbrev zny:=@Array.toList_setIfInBounds
abbrev znz:=@Array.ext'
abbrev zn0:=@Array.getElem?_append_left
abbrev zn1:=@Nat.lt_of_le_of_lt
abbrev zn2:=@List.length_zipIdx
abbrev zn3:=@Nat.sub_add_cancel
abbrev zn4:=@List.extract_eq_take_drop
abbrev zn5:=@List.append_eq_append_iff
abbrev zn6:=@not_true_eq_false
abbrev zn7:=@Nat.add_mod_right
abbrev zn8:=@Nat.mul_one
abbrev zn9:=@List.getElem?_replicate
abbrev zoa:=@Array.toList_inj
abbrev zob:=@List.pairwise_mergeSort
abbrev zoc:=@List.mapM_append
abbrev zod:=@List.getLast?_cons_cons
abbrev zoe:=@List.pairwise_singleton
abbrev zof:=@Classical.axiomOfChoice
abbrev zog:=@Int.ofNat_lt
abbrev zoh:=@List.map_set
abbrev zoi:=@Int.sub_zero
abbrev zoj:=@Int.mul_comm
abbrev zok:=@Int.le_total
abbrev zol:=@Int.mul_le_mul
abbrev zom:=@Bool.true_bne
abbrev zon:=@List.mapM_map
abbrev zoo:=@Bool.and_comm
end
def gi(xs:List Int)(k:Nat):Int:=xs.getD k 0
theorem XQ{xs:List Int}{k:Nat}(h:k<xs.length):gi xs k=xs[k]:=by simp[gi,h]
namespace Gl
def script(r:Int):Int :=
 if r=32∨(39<=r/\r<=41)∨(45<=r/\r<=46)∨(48<=r/\r<=57)then 0
 else if (65<=r/\r<=90)∨(97<=r/\r<=122)∨(192<=r/\r<=591/\r≠215/\r≠247)then 1
 else if 880<=r/\r<=1023 then 2
 else if 1024<=r/\r<=1279 then 3
 else if 1488<=r/\r<=1514 then 4
 else if 19968<=r/\r<=40959 then 5
 else -1
theorem gm{r:Int}(h:0<=script r):32<=r/\r<=40959:=by unfold script at h;omega
theorem s1{r:Int}(h:(65<=r/\r<=90)∨(97<=r/\r<=122)∨(192<=r/\r<=591/\r≠215/\r≠247)):script r=1:=by unfold script;omega
theorem s2{r:Int}(h:880<=r/\r<=1023):script r=2:=by unfold script;omega
theorem s3{r:Int}(h:1024<=r/\r<=1279):script r=3:=by unfold script;omega
def los:List Int:=[32,39,45,48,65,97,192,216,248,880,1024,1488,19968]
def his:List Int:=[32,41,46,57,90,122,214,246,591,1023,1279,1514,40959]
def scs:List Int:=[0,0,0,0,1,1,1,1,1,2,3,4,5]
def lo(k:Nat):Int:=los.getD k 0
def hi(k:Nat):Int:=his.getD k 0
def sc(k:Nat):Int:=scs.getD k 0
theorem Oj(r:Int)(k:Nat)(hk:k<13)(h1:lo k<=r)(h2:r<=hi k):sc k=script r:=by obtain rfl|rfl|rfl|rfl|rfl|rfl|rfl|rfl|rfl|rfl|rfl|rfl|rfl:k=0∨k=1∨k=2∨k=3∨k=4∨k=5∨k=6∨k=7∨k=8∨k=9∨k=10∨k=11∨k=12:=Ω;all_goals (simp[lo,hi,sc,los,his,scs]at h1 h2 ⊢;unfold script;omega)
theorem KZ(r:Int)(h:∀ j,j<13->¬ (lo j<=r/\r<=hi j)):-1=script r:=by have a0:=h 0 Ω;have a1:=h 1 Ω;have a2:=h 2 Ω;have a3:=h 3 Ω;have a4:=h 4 Ω;have a5:=h 5 Ω;have a6:=h 6 Ω;have a7:=h 7 Ω;have a8:=h 8 Ω;have a9:=h 9 Ω;have vv:=h 10 Ω;have vu:=h 11 Ω;have a12:=h 12 Ω;clear h;simp only[lo,hi,los,his,XL,zl4]at *;unfold script;omega
end Gl
theorem I1{P:Nat->Prop}{k:Nat}(h:∀ j,j<k->¬ P j)(hk:¬ P k):∀ j,j<k+1->¬ P j:=fun j hj=>by
 rcases zlo (zlw hj)with h'|rfl
 ·exact h j h'
 ·exact hk
section
open Go.RowKit
theorem yD{k:IntKind}{a b:Int}(h:a=b):Ending.returned (.int k a)=.returned (.int k b):=by rw[h]
theorem Z4{a b:Bool}(h:a=b):Ending.returned (.bool a)=.returned (.bool b):=by rw[h]
def RI(w:World)(A:Option Addr)(xs:List Int):Prop :=
 ∀ k,k<xs.length->∃ b off,A=some ⟨b,off,none⟩/\b<w.heap.size/\∀ j,j<xs.length->w.cell? ⟨b,off+j,none⟩=some (.int .i64 (gi xs j))
def OI(w:World)(B:Nat)(v:Value)(xs:List Int):Prop:=w.ownsRow B 3 1 v xs.length (xs.map (Value.int .i64))
theorem OI.nil(w:World)(B:Nat):OI w B (.slice none 0 0) []:=⟨Ψ,Or.inl ⟨rfl,rfl⟩⟩
theorem OI.form{w:World}{B:Nat}{v:Value}{xs:List Int}(h:OI w B v xs):∃ A c,v=.slice A xs.length c/\xs.length<=c/\c<=maxLen/\RI w A xs:=by
 obtain⟨h1,h2⟩:=h;rcases h2 with⟨rfl,hn⟩|⟨g,cap,cur,rfl,hg,hh,hn,hm,hsz,ahh⟩
 ·exact⟨none,0,by rw[hn],Ω,by unfold maxLen;omega,fun k hk=>absurd hk Ω⟩
 ·refine⟨_,cap,rfl,hn,hm,fun k hk=>⟨g,0,rfl,(Fb.1 hh).1,fun j hj=>?_⟩⟩;have e:cur.toList[j]?=some (.int .i64 (gi xs j)):=by
   have:(cur.toList.take (xs.length*1))[j]?=some (.int .i64 (gi xs j)):=by rw[ahh,k9,cK hj,XQ hj];rfl
   rwa [Fq,bt Ω]at this
  simp[World.cell?,hh];simpa using e
theorem OI.below{w w':World}{B D:Nat}{v:Value}{xs:List Int}(h:OI w B v xs)(hb:Below D w w')(hD:w.heap.size<=D):OI w' B v xs:=by
 obtain⟨h1,h2⟩:=h;refine⟨h1,?_⟩;rcases h2 with h2|⟨g,cap,cur,hv,hg,hh,r⟩
 ·exact Or.inl h2
 ·exact Or.inr ⟨g,cap,cur,hv,hg,(hb.block g (XE (Fb.1 hh).1 hD)).trans hh,r⟩
def Gl.tab:Array Value:=#[.int .i32 32,.int .i32 32,.int .i64 0,.int .i32 39,.int .i32 41,.int .i64 0,.int .i32 45,.int .i32 46,.int .i64 0,.int .i32 48,.int .i32 57,.int .i64 0,
 .int .i32 65,.int .i32 90,.int .i64 1,.int .i32 97,.int .i32 122,.int .i64 1,.int .i32 192,.int .i32 214,.int .i64 1,.int .i32 216,.int .i32 246,.int .i64 1,.int .i32 248,.int .i32 591,.int .i64 1,
 .int .i32 880,.int .i32 1023,.int .i64 2,.int .i32 1024,.int .i32 1279,.int .i64 3,.int .i32 1488,.int .i32 1514,.int .i64 4,.int .i32 19968,.int .i32 40959,.int .i64 5]
def Gl.Tab(w:World):Prop:=∃ t fr,w.heap[0]?=some (.cells Gl.tab t fr)
theorem Gl.Tab.lt{w:World}(h:Gl.Tab w):0<w.heap.size:=by obtain⟨t,fr,h⟩:=h;exact(Fb.1 h).1
theorem Gl.Tab.below{w w':World}{B:Nat}(h:Gl.Tab w)(hb:Below B w w')(hB:w.heap.size<=B):Gl.Tab w':=by have hl:=h.lt;obtain⟨t,fr,h⟩:=h;exact⟨t,fr,(hb.block _ Ω).trans h⟩
end
section
open Go Go.RowKit
theorem zcf{α:Type}:∀(a:Ask α)(w:World),w.drawn<=(w.ask a).2.drawn
  |.done a,w=>dz _
  |.ask what range k,w=>by
    unfold World.ask;simp only[];split
    · exact zcf _ _
    · exact lW (Nat.le_succ _) (zcf (k _) { w with drawn:=w.drawn+1 })
theorem vE(w:World)(c:Sys):w.drawn<=(w.sys c).2.drawn:=by
  have h:=zcf (Kernel.perform c w.os) w;unfold World.sys;split
  · exact dz _
  · rename_i heq;rw[heq]at h;exact h
theorem zdn{p:Program}{w w':World}{at_:Addr}{u:TypeId}{k:Addr}{v:Value}{b:Bool}{l:List Addr}(h:w.viewStore p at_ u k v b=.ok (w',l)):w'.drawn=w.drawn:=by
  unfold World.viewStore at h;simp only[bind,Except.bind,pure,Except.pure]at h;repeat' first
    |(cases h;done)
    |(injection h with h;injection h with h1 h2;rw[←h1];done)
    |split at h
theorem zev{p:Program}{w w':World}{a:Addr}{v:Value}{b:Bool}{l:List Addr}(h:w.farStore p a v b=.ok (w',l)):w'.drawn=w.drawn:=by
  unfold World.farStore at h;repeat' first
    |(cases h;done)
    |(rename_i heq;injection h with h;subst h;exact zdn heq)
    |split at h
def Result.world{α:Type}:Result α->World
  |.ok _ w=>w
  |.halt _ w=>w
theorem Z9{α:Type}(p:Program):∀(s:Sem α)(w:World),w.drawn<=(Result.world (s.run p w)).drawn:=by
  intro s;induction s with
  |pure a=>intro w;exact dz _
  |load m a k ih =>
    intro w;unfold Sem.run
    split
    · exact ih _ _
    · split
      · exact ih _ _
      · exact dz _
  |store m a v k ih =>
    intro w
    cases v<;>simp only[Sem.run]
    all_goals first
      |exact dz _
      | (split
         · split
           · exact dz _
           · exact ih (w.setCell a _)
         · split
           · rename_i heq;exact lW (Nat.le_of_eq (zev heq).symm) (ih _)
           · exact dz _)
  |new o k ih=>intro w;unfold Sem.run;exact ih _ { w with heap:=w.heap.push o }
  |shape r k ih=>intro w;unfold Sem.run;exact ih _ _
  |freeze a n k ih =>
    intro w;unfold Sem.run
    have e:(w.freeze a n).drawn=w.drawn:=by unfold World.freeze;split<;>rfl
    have:=ih (w.freeze a n);omega
  |frozen a k ih=>intro w;unfold Sem.run;exact ih _ _
  |getObj r k ih =>
    intro w;unfold Sem.run
    split
    · exact dz _
    · exact ih _ _
    · exact dz _
  |setObj r o k ih =>
    intro w;unfold Sem.run
    split
    · exact dz _
    · exact ih { w with heap:=w.heap.setIfInBounds r o }
    · exact dz _
  |choose q k ih =>
    intro w;unfold Sem.run
    split
    · exact ih _ _
    · exact lW (Nat.le_succ _) (ih _ { w with drawn:=w.drawn+1 })
  |sys c k ih=>intro w;unfold Sem.run;exact lW (vE w c) (ih _ _)
  |program k ih=>intro w;unfold Sem.run;exact ih _ _
  |mark m k ih=>intro w;unfold Sem.run;exact ih _
  |halt h=>intro w;exact dz _
theorem zW{α:Type}{p:Program}{s:Sem α}{w w':World}{a:α}(h:s.run p w=.ok a w'):w.drawn<=w'.drawn:=by have:=Z9 p s w;rw[h]at this;exact this
theorem Za{α:Type}{p:Program}{s:Sem α}{w w':World}{a:Halt}(h:s.run p w=.halt a w'):w.drawn<=w'.drawn:=by have:=Z9 p s w;rw[h]at this;exact this
def Up(d:Nat):GStep->Prop
  |.go _ w _=>d<=w.drawn
  |.comm _ _ _ _ w _=>d<=w.drawn
  |.spawn _ _ w _=>d<=w.drawn
  |.count _ w _=>d<=w.drawn
  |.timer _ _ w _=>d<=w.drawn
  |.alone _ _ w _=>d<=w.drawn
  |.newcoro _ _ _ w _=>d<=w.drawn
  |.coroswitch _ _ _ w _=>d<=w.drawn
  |.collect _ w _=>d<=w.drawn
  |.watch _ w _=>d<=w.drawn
  |.ended _ _ _=>True
theorem Up.after{d:Nat}{s:GStep}(es:Array Event)(h:Up d s):Up d (GStep.after es s):=by cases s<;>exact h
theorem Up.le{d d':Nat}{s:GStep}(h:Up d s)(hd:d'<=d):Up d' s:=by cases s<;>first|exact lW hd h|trivial
theorem zcg{d:Nat}{c:Prop}[Decidable c]{a b:GStep}(h1:Up d a)(h2:Up d b):Up d (if c then a else b):=by split<;>assumption
theorem JJ{α:Type}{d:Nat}{o:Option α}{a:GStep}{f:α->GStep}(h1:Up d a)(h2:∀ k,Up d (f k)):Up d (o.elim a f):=by cases o<;>first|exact h1|exact h2 _
theorem YG(p:Program)(main:Bool)(fr:Frame)(callers:List Frame)(dying:Option Dying)(v:Value)(w:World):Up w.drawn (doReturn p main fr callers dying v w):=by
  unfold doReturn;repeat' first
    |exact dz _
    |trivial
    |split
theorem zc6(fr:Frame)(m:String)(w:World):Up w.drawn (endThrow fr m w):=dz _
theorem YH(p:Program)(fr:Frame)(v:Value)(w:World):Up w.drawn (endPrinting p fr v w):=by
  unfold endPrinting;simp only[];repeat' first
    |exact dz _
    |trivial
    |split
theorem zc7(p:Program)(fr:Frame)(callers:List Frame)(dying:Option Dying)(m:String)(w:World):Up w.drawn (endFatal p fr callers dying m w):=by
  unfold endFatal;simp only[];split
  · rename_i heq;exact zW heq
  · trivial
  · trivial
theorem QS(p:Program)(fr:Frame)(callers:List Frame)(dying:Option Dying)(g:Nat)(w:World):Up w.drawn (early p fr callers dying g w):=by
  unfold early;simp only[];repeat' first
    |exact dz _
    |trivial
    |(simp only[Up];exact zW (by assumption))
    |(simp only[Up];exact Za (by assumption))
    |split
theorem GI(d:Nat)(w:World)(fd:Nat)(text:ByteArray)(o:Outcome)(h:d<=w.drawn):Up d (endWith w fd text o):=by
  have h1:=vE w (.write fd text);unfold endWith;simp only[];split
  · rename_i heq;rw[heq]at h1;split<;>first|trivial|exact lW h h1
  · first|trivial|(rename_i heq;rw[heq]at h1;exact lW h h1)
  · first|trivial|(rename_i heq;rw[heq]at h1;exact lW h h1)
theorem Fx(p:Program)(fr:Frame)(d:Dying)(f:Fatal)(w:World):Up w.drawn (writeOn p fr d f w):=by
  unfold writeOn;simp only[];split
  · first|trivial|exact dz _
  · split;all_goals
      first
        |trivial
        | (rename_i heq
           have h:=ep Prod.fst heq
           rw[Ss]at h
           first
             |exact zW h
             | exact Za h)
theorem abm(p:Program)(fr:Frame)(d:Dying)(w:World):Up w.drawn (die p fr d w):=by
  unfold die;split
  · exact Fx _ _ _ _ _
  · split
    · split
      · first|trivial|exact dz _
      · exact GI _ _ _ _ _ (dz _)
    · simp only[];split
      · first|trivial|exact dz _
      · split
        · rename_i heq;exact zW heq
        · first|trivial|(rename_i heq;exact Za heq)
      · refine Up.after _ ?_;split;all_goals
          first
            |trivial
            |exact dz _
            |(rename_i heq;rw[Ss]at heq;exact zW heq)
            |(rename_i heq;rw[Ss]at heq;exact Za heq)
            |(rename_i heq;rw[Ss]at heq;exact Up.le (YH _ _ _ _) (Za heq))
      · first|trivial|exact dz _
theorem zdo(p:Program)(fr:Frame)(callers:List Frame)(dying:Option Dying)(d:Deferred)(w:World):Up w.drawn (callDeferred p fr callers dying d w):=by
  unfold callDeferred;have h0:=Z9 p (invoke d.target d.args) w;rw[←Ss p _ w #[]]at h0;refine zcg ?_ ?_
  · trivial
  · revert h0;generalize(invoke d.target d.args).runT p w #[]=q;obtain⟨r,es⟩:=q;intro h0;simp only[]at h0 ⊢;refine Up.after _ ?_;split;all_goals first
      |trivial
      |exact h0
      |exact Up.le (zc7 _ _ _ _ _ _) h0
      |(split<;>first|trivial|exact h0)
theorem Kz(p:Program)(main:Bool)(fr:Frame)(callers:List Frame)(dying:Option Dying)(w:World):Up w.drawn (unwind p main fr callers dying w):=by
  unfold unwind;split
  · refine Up.after _ ?_;split
    · rename_i heq;rw[Ss]at heq;exact zW heq
    · trivial
  · exact zdo _ _ _ _ _ _
  · split
    · trivial
    · repeat' first
        |trivial
        |exact dz _
        |(simp only[Up];exact zW (by assumption))
        |(simp only[Up];exact Za (by assumption))
        |exact YH _ _ _ _
        |split
    · split
      · exact YG _ _ _ _ _ _ _
      · refine Up.after _ ?_;split
        · rename_i heq;rw[Ss]at heq;exact Up.le (YG _ _ _ _ _ _ _) (zW heq)
        · trivial
        · trivial
theorem zba(p:Program)(listen:Bool)(fr:Frame)(callers:List Frame)(dying:Option Dying)(s:Sem Next)(w:World):Up w.drawn (stepG.apply p listen fr callers dying s w):=by
  unfold stepG.apply;have h0:w.drawn<=(Result.world (if listen=true then s.runT p w #[]else(s.run p w,#[])).1).drawn:=by
    split
    · rw[Ss];exact Z9 p s w
    · exact Z9 p s w
  revert h0;generalize(if listen=true then s.runT p w #[]else(s.run p w,#[]))=q
  obtain⟨r,es⟩:=q;intro h0;simp only[]at h0 ⊢;refine Up.after _ ?_;split;all_goals first
    |trivial
    |exact h0
    |exact Up.le (zc7 _ _ _ _ _ _) h0
    |exact Up.le (QS _ _ _ _ _ _) h0
    |exact zcg h0 h0
    |(refine zcg ?_ ?_<;>exact h0)
    |(split<;>first|trivial|exact h0)
theorem TO(p:Program)(listen:Bool)(fr:Frame)(callers:List Frame)(dying:Option Dying)(w:World):Up w.drawn (stepG.oper p listen fr callers dying w):=by
  unfold stepG.oper;repeat' first
    |trivial
    |exact zba _ _ _ _ _ _ _
    |split
theorem UH(p:Program)(main listen:Bool)(fr:Frame)(callers:List Frame)(dying:Option Dying)(w:World):Up w.drawn (stepG.exec p main listen fr callers dying w):=by
  unfold stepG.exec;have hleave:∀ (jump:Option Code) (c:Prop) [Decidable c],Up w.drawn (match fr.roundOf with
      | none => if c then GStep.go { frame := { fr with mode := .returning }, callers, status := .running, dying } w else .ended (.stuck "exit, goto: no such block or label" (fr.pos p)) w
      |some l =>
        GStep.after (seen p fr.fn ((Instr.endRound l jump).runT p w #[]).2) <|match ((Instr.endRound l jump).runT p w #[]).1 with
        |.ok v w=>doReturn p main fr callers dying v w
        | .halt _ w => .ended (.stuck "range over a function: no such loop" (fr.pos p)) w) := by
    intro jump c _
    split
    · refine zcg ?_ ?_
      · exact dz _
      · trivial
    · refine Up.after _ ?_
      split
      · rename_i heq;rw[Ss]at heq;exact Up.le (YG _ _ _ _ _ _ _) (zW heq)
      · trivial
  simp only[];split;all_goals first
    |trivial
    |exact dz _
    |exact hleave _ _
    |exact zba _ _ _ _ _ _ _
    |(split<;>first|trivial|exact dz _;done)
    | (refine JJ ?_ ?_
       · exact hleave _ _
       · intro k; exact dz _)
    | (refine JJ ?_ ?_
       · trivial
       · intro k; exact zba _ _ _ _ _ _ _)
    | (refine Up.after _ ?_
       split
       all_goals
         rename_i heq
         rw[Ss]at heq
         first
           |trivial
           |exact zW heq
           |exact Za heq
           |exact Up.le (zba _ _ _ _ _ _ _) (zW heq)
       done)
    | (refine zcg ?_ ?_
       · exact dz _
       · split
         · rename_i heq;exact zW heq
         · trivial)
    | (refine zcg ?_ ?_
       · exact TO _ _ _ _ _ _
       · exact dz _)
theorem NT(p:Program)(main:Bool)(g:Goroutine)(w:World)(listen:Bool):Up w.drawn (stepG p main g w listen):=by
  unfold stepG;simp only[];split
  · exact abm _ _ _ _
  · exact UH _ _ _ _ _ _ _
  · exact Kz _ _ _ _ _ _
def MUp(d:Nat):Stepped->Prop
  |.next m=>d<=m.world.drawn
  |_=>True
theorem I8(p:Program)(gs:Array Goroutine)(rest:Rest)(w:World):MUp w.drawn (look p gs rest w):=by
  unfold look;simp only[];split
  · split
    · trivial
    · split
      · trivial
      · split
        · rename_i heq;have h:=zW heq;exact h
        · trivial
        · trivial
  · trivial
theorem zew(p:Program)(rest:Rest)(gs:Array Goroutine)(i:Nat)(g:Goroutine)(cases:Array CommCase)(blocking:Bool)(shape:CommShape)(w:World):MUp w.drawn (communicate p rest gs i g cases blocking shape w).1:=by
  unfold communicate;simp only[];split
  · trivial
  · split
    · split
      · split
        · rename_i heq;unfold waitingAt at heq;split at heq
          · split at heq
            · injection heq with heq;subst heq;exact dz _
            · cases heq
          · injection heq with heq;subst heq;exact dz _
        · trivial
      · exact dz _
    · split
      · trivial
      · rename_i heq;have h:=zW heq;clear heq;split
        · split
          · rename_i heq;exact lW h (Za heq)
          · trivial
        · exact h
        · exact h
        · split
          · exact h
          · split
            · rename_i heq;have h2:=zW heq;exact lW h h2
            · trivial
        all_goals first
          |trivial
          |exact h
theorem FE{m m':Machine}{op:TimerOp}{v:Value}(h:timerOp m op=.ok (v,m')):m'.world.drawn=m.world.drawn:=by
  have Ng:∀(m:Machine) k t a b,(retime m k t a b).2.world.drawn=m.world.drawn:=by
    intro m k t a b;unfold retime drain;simp only[];repeat' first
      |rfl
      |split
  have hn:∀(m0:Machine) var (f:Nat->Timer->Value×Machine) (v:Value) (m':Machine),(∀ k t,(f k t).2.world.drawn=m0.world.drawn)->timerOp.named m var f=.ok (v,m')->m'.world.drawn=m0.world.drawn:=by
    intro m0 var f v m' hf he;unfold timerOp.named at he;split at he
    · injection he with he;have h2:_=m'.world.drawn:=ep (fun x:Value×Machine=>x.2.world.drawn) he;rw[←h2];exact hf _ _
    · cases he
  cases op with
  |new t =>
    simp only[timerOp]at h
    repeat' first
      |(cases h;done)
      |(injection h with h;injection h with h1 h2;subst h2;rfl)
      |split at h
  |stop var=>simp only[timerOp]at h;exact hn m _ _ _ _ (fun k t=>Ng m k t _ _) h
  |reset var when period =>
    simp only[timerOp]at h
    split at h
    · rename_i m1 heq
      have e:m1.world.drawn=m.world.drawn:=by
        unfold timerOp.opened at heq;repeat' first
          |(cases heq;done)
          |(injection heq with heq;subst heq;rfl)
          |split at heq
      rw[←e]
      exact hn m1 _ _ _ _ (fun k t=>Ng m1 k t _ _) h
    · cases h
  |deadline ctx read write when =>
    simp only[timerOp]at h
    injection h with h;injection h with h1 h2;subst h2;rfl
theorem zdp(p:Program)(m:Machine)(i:Nat)(listen:Bool):MUp m.world.drawn (runT p m i listen).1:=by
  unfold runT;simp only[];have h:=NT p (i==0) (m.gs.swapAt! i { (default:Goroutine)with status:=.finished }).1 m.world listen;revert h;generalize stepG p (i==0) (m.gs.swapAt! i { (default:Goroutine)with status:=.finished }).1 m.world listen=s;intro h;cases s with
  |ended o w es=>trivial
  |comm g cases blocking shape w es =>
    have h1:=zew p m.rest (m.gs.swapAt! i { (default:Goroutine)with status:=.finished }).2 i g cases blocking shape w
    simp only[]
    revert h1
    generalize(communicate p m.rest (m.gs.swapAt! i { (default:Goroutine)with status:=.finished }).2 i g cases blocking shape w).1=q
    intro h1
    cases q with
    |next m1=>exact lW h h1
    |_=>trivial
  |collect g w es =>
    have h1:=I8 p ((m.gs.swapAt! i { (default:Goroutine)with status:=.finished }).2.setIfInBounds i g) m.rest w
    simp only[]
    revert h1
    generalize look p ((m.gs.swapAt! i { (default:Goroutine)with status:=.finished }).2.setIfInBounds i g) m.rest w=q
    intro h1
    cases q with
    |next m1=>exact lW h h1
    |_=>trivial
  |count g w es =>
    simp only[]
    split
    · trivial
    · exact h
  |coroswitch g c exit w es =>
    simp only[]
    split
    · exact h
    · split
      · rename_i heq
        have h2 := zc6 g.frame "coroswitch on exited coro" w
        rw[heq]at h2
        exact lW h h2
      · trivial
    · trivial
  |timer g op w es =>
    simp only[]
    split
    · rename_i heq
      have h2:=FE heq
      exact lW h (Nat.le_of_eq h2.symm)
    · split
      · rename_i heq
        have h2:Up w.drawn (GStep.go _ _ _):=heq▸zc6 g.frame _ w
        exact lW h h2
      · trivial
    · trivial
    · trivial
  |_=>exact h
def ET(d:Nat):Move->Prop
  |.goroutine m _=>d<=m.world.drawn
  |.machine s _=>MUp d s
theorem ET.le{d d':Nat}{s:Move}(h:ET d s)(hd:d'<=d):ET d' s:=by
  cases s with
  |goroutine m i=>exact lW hd h
  |machine s ops=>cases s with
    |next m=>exact lW hd h
    |_=>trivial
theorem Oh(p:Program)(m:Machine)(k:Nat):MUp m.world.drawn (serve p m k):=by
  unfold serve;simp only[];repeat' first
    |trivial
    |exact dz _
    |split
theorem zbb{d:Nat}{c:Prop}[Decidable c]{a b:Move}(h1:ET d a)(h2:ET d b):ET d (if c then a else b):=by split<;>assumption
theorem zex(p:Program)(m:Machine):ET m.world.drawn (askOn p m):=by
  unfold askOn;simp only[];have DG:∀ m1:Machine,ET m1.world.drawn (match (choose (.sched (runnable m.gs m.world.os.mono).length)).run p m1.world with
      | .halt _ w => Move.machine (.ended (.stuck "sched" "") w)
      |.ok k world =>
        if (runnable m.gs m.world.os.mono).length<=1 then .goroutine { m1 with world } ((runnable m.gs m.world.os.mono).getD k 0)else
        match (choose (.extern "sched.slice" 65536)).run p world with
        | .halt _ w => .machine (.ended (.stuck "sched.slice" "") w)
        | .ok n world=>.goroutine { m1 with world,rest:={ m1.rest with slice:=if n=0 then none else some ((runnable m.gs m.world.os.mono).getD k 0,n) } } ((runnable m.gs m.world.os.mono).getD k 0)):=by
    intro m1
    split
    · trivial
    · rename_i heq
      have h1:=zW heq
      refine zbb h1 ?_
      split
      · trivial
      · rename_i heq2
        have h2:=zW heq2
        exact lW h1 h2
  split
  · trivial
  · rename_i heq;have h1:=zW heq;clear heq;refine zbb ?_ ?_
    · exact ET.le (s:=.machine _ _) (Oh p _ _) h1
    · refine ET.le ?_ h1;split
      · split
        · exact dz _
        · refine zbb ?_ ?_
          · exact dz _
          · split<;>trivial
      · split
        · exact DG { m with world:=_ }
        · split
          · trivial
          · rename_i heq;exact ET.le (DG { m with world:=_ }) (zW heq)
          · rename_i heq;have h2:=zW heq;exact h2
          · rename_i heq;have h2:=zW heq;exact ET.le (DG (Machine.advanceTo { m with world:=_ } _)) h2
theorem Ry(p:Program)(m:Machine):ET m.world.drawn (ask p m):=by
  unfold ask;split
  · split
    · trivial
    · rename_i world heq;have h1:=zW heq;have h2:=I8 p m.gs m.rest world;split
      · rename_i heq2;rw[heq2]at h2;exact ET.le (zex p _) (lW h1 h2)
      · rename_i heq2;exact ET.le (s:=.machine _ _) h2 h1
    · rename_i heq;exact ET.le (zex p { m with world:=_ }) (zW heq)
  · exact zex p m
theorem TT(p:Program)(m:Machine):ET m.world.drawn (move p m):=by
  unfold move;split
  · refine zbb ?_ ?_
    · exact dz _
    · trivial
  · split
    · refine zbb ?_ ?_
      · exact dz _
      · exact Ry p { m with rest:=_ }
    · exact Ry p m
theorem Tc(p:Program)(m:Machine):MUp m.world.drawn (step p m):=by
  have h:=TT p m;unfold step stepT;split
  · rename_i m1 i heq;rw[heq]at h;have h2:=zdp p m1 i true;revert h2;generalize(runT p m1 i true).1=q;intro h2;cases q with
    |next m2=>exact lW h h2
    |_=>trivial
  · rename_i heq;rw[heq]at h;exact h
theorem Ip(p:Program):∀(n:Nat)(m m':Machine),runN p n m=.next m'->m.world.drawn<=m'.world.drawn
  |0,m,m',h=>by simp[runN]at h;rw[h];exact dz _
  |n+1,m,m',h=>by
    have h1:=Tc p m;simp only[runN]at h;split at h
    · rename_i heq;rw[heq]at h1;exact lW h1 (Ip p n _ _ h)
    · rename_i hne;exact absurd h (hne _)
theorem Cn{p:Program}{m m':Machine}(h:Steps p m m'):m.world.drawn<=m'.world.drawn:=by obtain⟨n,hn⟩:=h;exact Ip p n m m' hn
theorem Rh{P:Program}{f:FuncId}{args:Array Value}{w:World}{R:Ending->World->Prop}(h:Calls P f args w R)(hR:∀ w',¬ R .outgrown w'):Calls P f args w fun e w'=>R e w'/\w.drawn<=w'.drawn:=by
  intro cs;obtain⟨e,w',fr,hr,hc,hf,hl⟩:=h cs;refine⟨e,w',fr,⟨hr,?_⟩,hc,hf,hl⟩;cases e with
  |outgrown=>exact absurd hr (hR w')
  |returned v=>exact Cn (m:=lone _ _ _) (m':=lone _ _ _) hc
  |panicked c=>exact Cn (m:=lone _ _ _) (m':=lone _ _ _) hc
theorem vg{w w':World}(h:Below w.heap.size w w')(hd:w.drawn<=w'.drawn):∃ q os,w'=Sort.grow (w.drewN q) os:=by
  obtain⟨p,hp⟩:=regrown_of_below h;refine⟨p.d-w.drawn,p.os,?_⟩;have e:w'.drawn=p.d:=by rw[hp];rfl
  have e2:redrawn w p.d=w.drewN (p.d-w.drawn):=by have:w.drawn+(p.d-w.drawn)=p.d:=Ω;unfold redrawn World.drewN;rw[this]
  rw[←e2];exact hp
theorem G0{P:Program}{f:FuncId}{args:Array Value}{w:World}{v:Value}(h:Calls P f args w fun e w'=>e=.returned v/\Below w.heap.size w w') :
    Calls P f args w fun e w'=>e=.returned v/\∃ q os,w'=Sort.grow (w.drewN q) os :=
  (Rh h (fun _ h=>by cases h.1)).mono fun _ _ ⟨⟨he,hb⟩,hd⟩=>⟨he,vg hb hd⟩
end
section
open Go.ChangeShapes Go.WideShapes Go.ChangeAt Go.RowKit
theorem row_own:ownKnob Tryz.prog.godebug=none:=by kernel_rfl
theorem CG : Tryz.prog.globalNamed "mapsheets/glyph.scripts" = some 0 := by kernel_rfl
theorem Aq:(Tryz.prog.globals[0]?).map (·.type)=some 160:=by kernel_rfl
theorem uV:Tryz.prog.cellsOf 160=39:=by kernel_rfl
theorem zah:Tryz.prog.cellsOf 159=3:=by kernel_rfl
theorem uW:Tryz.prog.cellsOf 3=1:=by kernel_rfl
theorem zea:Tryz.prog.cellsOf 21=1:=by kernel_rfl
section
variable {H:Type} {enc:TypeId×Value->H} {w:World} {base:Nat} {sp:Nat->Bool} {held:Bool}
theorem uU{fuel:Nat}{cs:List Value}{a b c:Int}{p:List MemPlace}
  (h:DataW.trod enc Tryz.prog w base sp held fuel 159 cs=some (.agg [.lit (.int .i32 a),.lit (.int .i32 b),.lit (.int .i64 c)],p)):cs=[.int .i32 a,.int .i32 b,.int .i64 c]:=by
 obtain⟨xs,n,rfl,hx,hl,hxl,hall⟩:=XC Tryz.underlying159 h
 rw[zah]at hl
 match xs,hxl with
 |[x0,x1,x2],_ =>
  have e:=ep Prod.fst hx
  simp at e
  obtain⟨e0,e1,e2⟩:=e
  have h0:=hall 0 _ rfl
  have h1:=hall 1 _ rfl
  have h2:=hall 2 _ rfl
  match cs,hl with
  |[v0,v1,v2],_ =>
   simp only[qU,jP]at h0 h1 h2
   obtain⟨z0,hc0,hd0,_⟩:=znx Tryz.underlying21 h0
   obtain⟨z1,hc1,hd1,_⟩:=znx Tryz.underlying21 h1
   obtain⟨z2,mF,hd2,_⟩:=znx Tryz.underlying3 h2
   rw[hd0]at e0
   rw[hd1]at e1
   rw[hd2]at e2
   simp[uW,zea]at e0 e1 e2 hc0 hc1 mF
   simp[hc0,hc1,mF,e0,e1,e2]
end
theorem NQ:∀ k,k<39->([Value.int .i32 (Gl.lo (k/3)),.int .i32 (Gl.hi (k/3)),.int .i64 (Gl.sc (k/3))]:List Value)[k%3]?=Gl.tab[k]?:=by
 have e:(List.range 39).map (fun k=>([Value.int .i32 (Gl.lo (k/3)),.int .i32 (Gl.hi (k/3)),.int .i64 (Gl.sc (k/3))]:List Value)[k%3]?)=(List.range 39).map (fun k=>Gl.tab[k]?):=by kernel_rfl
 intro k hk;have:=ep (·[k]?) e;simpa[hk]using this
theorem Pk:∀ i,i<13->∀ d:DataW Unit,(match (Rows.laid_mapsheets_glyph_scripts:DataW Unit)with|.agg ds=>ds[i]?|_=>none)=some d->d=.agg [.lit (.int .i32 (Gl.lo i)),.lit (.int .i32 (Gl.hi i)),.lit (.int .i64 (Gl.sc i))]:=by intro i hi d hd;have:i=0∨i=1∨i=2∨i=3∨i=4∨i=5∨i=6∨i=7∨i=8∨i=9∨i=10∨i=11∨i=12:=Ω;rcases this with rfl|rfl|rfl|rfl|rfl|rfl|rfl|rfl|rfl|rfl|rfl|rfl|rfl<;>(injection hd with hd;exact hd.symm)
theorem NP {W : World} {laid : List (String × DataW Unit)} (h : laidMet Tryz.prog laid W) (hm : ("mapsheets/glyph.scripts", Rows.laid_mapsheets_glyph_scripts) ∈ laid) : Gl.Tab W := by
 obtain⟨g,t,cs,fuel,p,hg,hty,LM,hd⟩:=Lib.laidMet.reads h hm;obtain rfl:=kT (CG.symm.trans hg);obtain rfl:=kT (Aq.symm.trans hty);have hrows:∀ i,i<13->(cs.toList.drop (i*3)).take 3=[.int .i32 (Gl.lo i),.int .i32 (Gl.hi i),.int .i64 (Gl.sc i)]:=by intro i hi;obtain⟨fuel',d,q,hdi,he⟩:=Lib.array_elem Tryz.underlying160 hd i hi;rw[zah]at he;have:=Pk i hi d hdi;subst this;exact uU he
 have hlen:cs.size=39:=by
  obtain⟨n,hn⟩:∃ n,fuel=n+1:=by
   cases fuel with
   |zero=>simp[DataW.trod]at hd
   |succ n=>exact⟨n,rfl⟩
  subst hn;simp only[DataW.trod,Tryz.underlying160]at hd;split at hd
  ·rename_i hl;rw[uV]at hl;simpa using hl
  ·cases hd
 have hcs:cs=Gl.tab:=by
  apply Array.ext_getElem?;intro k;by_cases hk:k<39
  ·rw[←NQ k hk,←hrows (k/3) Ω,Fq,bt Ω,Sz,←pP];congr 1;omega
  ·rw[Array.getElem?_eq_none Ω,Array.getElem?_eq_none (by show 39<=k;omega)]
 subst hcs;simp only[World.var?,CG,jG]at LM;split at LM
 ·rename_i c t f hc;injection LM with LM;subst LM;exact⟨_,_,hc⟩
 ·cases LM
theorem table {W : World} (h : laidMetH Tryz.prog [("mapsheets/glyph.scripts", Rows.laid_mapsheets_glyph_scripts)] W) : Gl.Tab W := NP h (qx.2 rfl)
section
variable {H:Type} {enc:TypeId×Value->H} {P:Program}
theorem post_of_below{f:Func}{s:ChangeSpec}{apart fresh handsOn again:Bool}{W W':World}{args:Array Value}{v:Value}{ds gs:List (DataW H)}{before pa pv:List MemPlace}
  (hW:DataW.Whole enc P f.params.toList s.vars apart W args.toList ds gs before) (hb:Below W.heap.size W W')
  (hres:∀(b:Nat)(sp:Nat->Bool)(hd:Bool),DataW.TrodAll enc P W' b sp hd f.resultTypes.toList (v.resultList f.resultTypes.size) (s.fn H (ds++gs)).results [])
  (hargs:∀ sp:Nat->Bool,(∀ p∈before,sp p.block=true)->DataW.TrodAll enc P W' 0 sp true f.params.toList args.toList (s.fn H (ds++gs)).args pa)
  (hvars:∀ sp:Nat->Bool,(∀ p∈before,sp p.block=true)->DataW.TrodVars enc P W' sp s.vars (s.fn H (ds++gs)).vars pv)
  (hps:before=pa++pv)
  (hok:∀(j:Nat)(t:TypeId)(r:Value),f.resultTypes[j]?=some t->(v.resultList f.resultTypes.size)[j]?=some r->Value.okWide P W' .any 0 t r) :
  s.post enc P f apart fresh handsOn again W args v W':=by
 have au:=hW.lt
 have hold:∀ p∈before,(fun b=>decide (b<W.heap.size)) p.block=true:=fun p hp=>by simpa using hW.lt p hp
 refine⟨ds,gs,before,[],pa,pv,hW,hres _ _ _,hargs _ hold,hvars _ hold,World.keptBut_mono (fun p hp=>⟨hp,?_⟩) (hb.frame (·∈before)),fun _=>?_⟩
 ·rw[hps,og]at hp
  exact Or.inr hp
 ·obtain⟨_,_,_,_,_,hz,hn⟩:=hW
  refine⟨hok,_,_,([]++pa)++pv,⟨[]++pa,pv,trodAll_append (hargs _ (fun _ _=>rfl)) (hres _ _ _),hvars _ (fun _ _=>rfl),rfl,?_,?_⟩,?_⟩
  ·intro b off hp
   have hp':MemPlace.cell b off∈before:=by rw[hps];simpa using hp
   rw[hb.frozen (p:=⟨b,off,none⟩) (au _ hp')]
   exact hz b off hp'
  ·intro ha
   have:=hn ha
   rw[hps]at this
   simpa using this
  ·intro p hp _
   rw[hps]
   simpa using hp
end
noncomputable def laidWorld(os:Os):World :=
 {World.holding Tryz.prog os ⟨#[],#[],[]⟩ with heap:=(World.holding Tryz.prog os ⟨#[],#[],[]⟩).heap.modify 0 fun
   |.cells _ t frozen=>.cells Gl.tab t frozen
   | o=>o }
end
section
open Go Go.RowKit
inductive IV where
 |bool (b:Bool)
 |int (k:IntKind) (n:Int)
 |str (s:ByteArray)
 |eo
 |ptrM (l i off:Nat)
 |ptrC (cs:List IV) (off:Nat)
 |nilsl
 |slM (l i off len cap sz:Nat) (tight:Bool)
 |slC (cs:List IV) (len sz:Nat) (tight:Bool)
 |eT
 |mapM (l i:Nat)
 |eF (ks vs:List IV)
 |l9
 |fn (f:FuncId) (first cap:List IV)
 |agg (cs:List IV)
 |tuple (cs:List IV)
inductive aO where
 |free
 |gone
 |cells (c:List IV)
 |map (ks vs:List IV) (bs:List Nat) (clock:Nat)
def Pl:Type:=Nat->Nat->Option (Nat×Nat)
def jO(β:Pl)(W:World)(k:Nat):Prop:=k<W.heap.size/\∀ l i s,β l i≠some (k,s)
def Room(W:World)(k n:Nat):Prop:=∃ c t f,W.heap[k]?=some (.cells c t f)/\n<=c.size
inductive VR(β:Pl)(W:World):IV->Value->Prop where
 |bool (b:Bool):VR β W (.bool b) (.bool b)
 |int (k:IntKind) (n:Int):VR β W (.int k n) (.int k n)
 |str (s:ByteArray):VR β W (.str s) (.string s)
 |eo:VR β W .eo (.pointer none)
 |ptrM {l i off k s:Nat} (h:β l i=some (k,s)):VR β W (.ptrM l i off) (.pointer (some ⟨k,off+s,none⟩))
 |ptrC {cs:List IV} {off k s:Nat} (f:Nat->Value) (hk:jO β W k) (hc:∀(j:Nat)(x:IV),cs[j]?=some x->W.cell? ⟨k,j+s,none⟩=some (f j)) (hv:∀(j:Nat)(x:IV),cs[j]?=some x->VR β W x (f j)) :
   VR β W (.ptrC cs off) (.pointer (some ⟨k,off+s,none⟩))
 |nilsl:VR β W .nilsl (.slice none 0 0)
 |slM {l i off len cap sz:Nat} {tight:Bool} {k s o' cap':Nat} (h:β l i=some (k,s)) (ho:cap=0∨o'=off+s) (hl:len<=cap) (hc:cap<=cap') (ht:tight=true->cap'=cap)
   (hr:Room W k (o'+cap'*sz)):VR β W (.slM l i off len cap sz tight) (.slice (some ⟨k,o',none⟩) len cap')
 |slC {cs:List IV} {len sz:Nat} {tight:Bool} {k s cap':Nat} {ad:Addr} (f:Nat->Value) (hk:len≠0->jO β W k) (hc:∀(j:Nat)(x:IV),cs[j]?=some x->W.cell? ⟨k,j+s,none⟩=some (f j)) (hv:∀(j:Nat)(x:IV),cs[j]?=some x->VR β W x (f j))
   (hn:cs.length=len*sz) (hl:len<=cap') (ht:tight=true->cap'=len) (ha:len≠0->ad=⟨k,s,none⟩):VR β W (.slC cs len sz tight) (.slice (some ad) len cap')
 |eT:VR β W .eT (.map none)
 |mapM {l i k s:Nat} (h:β l i=some (k,s)):VR β W (.mapM l i) (.map (some k))
 |eF {ks vs:List IV} {k:Nat} {es:Array MapEntry} {clock:Nat} (e:Nat->MapEntry) (hk:jO β W k) (hm:W.heap[k]?=some (.map es clock)) (hn:es.size=ks.length) (hn':vs.length=ks.length)
   (he:∀(j:Nat),j<ks.length->es[j]?=some (e j)) (hkv:∀(j:Nat)(x:IV),ks[j]?=some x->VR β W x (e j).key) (PG:∀(j:Nat)(x:IV),vs[j]?=some x->VR β W x (e j).val):VR β W (.eF ks vs) (.map (some k))
 |l9:VR β W .l9 .nilFunc
 |fn {f:FuncId} {first cap:List IV} {first' cap':Array Value} (n1:first.length=first'.size) (n2:cap.length=cap'.size) (h1:∀(j:Nat)(x:IV)(y:Value),first[j]?=some x->first'[j]?=some y->VR β W x y)
   (h2:∀(j:Nat)(x:IV)(y:Value),cap[j]?=some x->cap'[j]?=some y->VR β W x y):VR β W (.fn f first cap) (.func (.func f) first' cap')
 |agg {cs:List IV} {ws:Array Value} (n:cs.length=ws.size) (h:∀(j:Nat)(x:IV)(y:Value),cs[j]?=some x->ws[j]?=some y->VR β W x y):VR β W (.agg cs) (.agg ws)
 |tuple {cs:List IV} {ws:Array Value} (n:cs.length=ws.size) (h:∀(j:Nat)(x:IV)(y:Value),cs[j]?=some x->ws[j]?=some y->VR β W x y):VR β W (.tuple cs) (.tuple ws)
structure Ext(β:Pl)(W:World)(β':Pl)(W':World):Prop where
 keep:∀ l i p,β l i=some p->β' l i=some p
 fresh:∀ l i k s,β' l i=some (k,s)->(∃ l' i' s',β l' i'=some (k,s'))∨W.heap.size<=k
 block:∀ k,k<W.heap.size->(∀ l i s,β l i≠some (k,s))->W'.heap[k]?=W.heap[k]?
 size:W.heap.size<=W'.heap.size
 rows:∀(k:Nat)(c:Array Value)(t:TypeId)(f:Nat×Nat),W.heap[k]?=some (.cells c t f)->∃ c2,W'.heap[k]?=some (.cells c2 t f)/\c2.size=c.size
theorem Room.ext{β β':Pl}{W W':World}{k n:Nat}(h:Room W k n)(e:Ext β W β' W'):Room W' k n :=
 let⟨c,t,f,h1,h2⟩:=h;let⟨c2,h3,h4⟩:=e.rows k c t f h1;⟨c2,t,f,h3,h4▸h2⟩
theorem jO.ext{β β':Pl}{W W':World}{k:Nat}(h:jO β W k)(e:Ext β W β' W'):jO β' W' k :=
 ⟨XE h.1 e.size,fun l i s hb=>(e.fresh l i k s hb).elim (fun⟨l',i',s',hb'⟩=>h.2 l' i' s' hb') (fun hs=>absurd h.1 (Nat.not_lt.2 hs))⟩
theorem vm{W W':World}{k:Nat}(h:W'.heap[k]?=W.heap[k]?)(j:Nat)(o:Option Nat):W'.cell? ⟨k,j,o⟩=W.cell? ⟨k,j,o⟩:=by unfold World.cell?;simp only[h]
theorem jO.cell{β β':Pl}{W W':World}{k:Nat}(h:jO β W k)(e:Ext β W β' W')(j:Nat):W'.cell? ⟨k,j,none⟩=W.cell? ⟨k,j,none⟩ :=
 vm (e.block k h.1 h.2) j none
theorem VR.ext{β β':Pl}{W W':World}(e:Ext β W β' W'){v:IV}{x:Value}(h:VR β W v x):VR β' W' v x:=by
 induction h with
 |bool b=>exact .bool b
 |int k n=>exact .int k n
 |str s=>exact .str s
 |eo=>exact .eo
 |ptrM h=>exact .ptrM (e.keep _ _ _ h)
 |ptrC f hk hc _ ih=>exact .ptrC f (hk.ext e) (fun j x hx=>(hk.cell e _).trans (hc j x hx)) ih
 |nilsl=>exact .nilsl
 |slM h ho hl hc ht hr=>exact .slM (e.keep _ _ _ h) ho hl hc ht (hr.ext e)
 |slC f hk hc _ hn hl ht ha ih =>
  refine .slC f (fun hne=>(hk hne).ext e) (fun j x hx=>((hk (fun h=>?_)).cell e _).trans (hc j x hx)) ih hn hl ht ha
  have:=(cU.1 hx).1
  rw[hn,h,qw]at this
  omega
 |eT=>exact .eT
 |mapM h=>exact .mapM (e.keep _ _ _ h)
 |eF en hk hm hn hn' he _ _ ih1 ih2=>exact .eF en (hk.ext e) ((e.block _ hk.1 hk.2).trans hm) hn hn' he ih1 ih2
 |l9=>exact .l9
 |fn n1 n2 _ _ ih1 ih2=>exact .fn n1 n2 ih1 ih2
 |agg n _ ih=>exact .agg n ih
 |tuple n _ ih=>exact .tuple n ih
structure Fr(d:Nat)(β:Pl)(W:World)(β':Pl)(W':World):Prop where
 keep:∀ l i p,β l i=some p->β' l i=some p
 fresh:∀ l i k s,β' l i=some (k,s)->β l i=some (k,s)∨(l=d/\((∃ i' s',β d i'=some (k,s'))∨W.heap.size<=k))
 block:∀ k,k<W.heap.size->(∀ i s,β d i≠some (k,s))->W'.heap[k]?=W.heap[k]?
 size:W.heap.size<=W'.heap.size
 rows:∀(k:Nat)(c:Array Value)(t:TypeId)(f:Nat×Nat),W.heap[k]?=some (.cells c t f)->∃ c2,W'.heap[k]?=some (.cells c2 t f)/\c2.size=c.size
 os:W'.os=W.os
 tape:W'.tape=W.tape
 output:W'.output=W.output
theorem Fr.ext{d:Nat}{β β':Pl}{W W':World}(h:Fr d β W β' W'):Ext β W β' W' :=
 ⟨h.keep,fun l i k s hb=>(h.fresh l i k s hb).elim (fun h=>.inl ⟨l,i,s,h⟩) (fun⟨_,h⟩=>h.imp (fun⟨i',s',h⟩=>⟨d,i',s',h⟩) id),fun k hk hn=>h.block k hk (hn d),h.size,h.rows⟩
theorem Fr.refl(d:Nat)(β:Pl)(W:World):Fr d β W β W:=⟨fun _ _ _ h=>h,fun _ _ _ _ h=>.inl h,fun _ _ _=>rfl,dz _,fun _ c _ _ h=>⟨c,h,rfl⟩,rfl,rfl,rfl⟩
theorem Fr.trans{d:Nat}{β β1 β2:Pl}{W W1 W2:World}(h:Fr d β W β1 W1)(h':Fr d β1 W1 β2 W2):Fr d β W β2 W2 where
 keep l i p hb:=h'.keep l i p (h.keep l i p hb)
 fresh l i k s hb:=by
  rcases h'.fresh l i k s hb with hb|⟨rfl,⟨i',s',hb⟩|hk⟩
  ·exact h.fresh l i k s hb
  ·refine .inr ⟨rfl,?_⟩;rcases h.fresh _ _ _ _ hb with hb|⟨_,hb⟩
   ·exact .inl ⟨i',s',hb⟩
   ·exact hb
  ·exact .inr ⟨rfl,.inr (lW h.size hk)⟩
 block k hk hn:=by
  refine(h'.block k (XE hk h.size) fun i s hb=>?_).trans (h.block k hk hn);rcases h.fresh _ _ _ _ hb with hb|⟨_,⟨i',s',hb⟩|hs⟩
  ·exact hn _ _ hb
  ·exact hn _ _ hb
  ·omega
 size:=lW h.size h'.size
 rows k c t f hc:=by obtain⟨c1,h1,e1⟩:=h.rows k c t f hc;obtain⟨c2,h2,e2⟩:=h'.rows k c1 t f h1;exact⟨c2,h2,e2.trans e1⟩
 os:=h'.os.trans h.os
 tape:=h'.tape.trans h.tape
 output:=h'.output.trans h.output
theorem Fr.below{d:Nat}{β β':Pl}{W W':World}(h:Fr d β W β' W')(hn:∀ i p,β d i≠some p):Below W.heap.size W W' :=
 ⟨h.os,h.tape,h.output,h.size,fun k hk=>h.block k hk (fun i s=>hn i (k,s))⟩
def OR(β:Pl)(W:World)(k s:Nat):aO->Prop
 |.free=>False
 |.gone=>True
 |.cells c=>∃ c' t,W.heap[k]?=some (.cells c' t (0,0))/\∀(j:Nat)(x:IV),c[j]?=some x->∃ y,c'[j+s]?=some y/\VR β W x y
 |.map ks vs bs clock=>∃ es,W.heap[k]?=some (.map es clock)/\ks.length=es.size/\vs.length=es.size/\bs.length=es.size /\
   ∀(j:Nat)(e:MapEntry),es[j]?=some e->(∀ x,ks[j]?=some x->VR β W x e.key)/\(∀ x,vs[j]?=some x->VR β W x e.val)/\(∀ x,bs[j]?=some x->e.born=x)
def aO.live:aO->Bool
 |.cells _=>true
 |.map ..=>true
 |_=>false
structure RS(β:Pl)(get:Nat->Nat->Option aO)(W:World):Prop where
 obj:∀ l i k s o,β l i=some (k,s)->get l i=some o->OR β W k s o
 one:∀ l i l' i' k s s' o o',β l i=some (k,s)->β l' i'=some (k,s')->get l i=some o->get l' i'=some o'->o.live=true->o'.live=true->l=l'/\i=i'
 here:∀ l i k s,β l i=some (k,s)->k<W.heap.size
 has:∀ l i o,get l i=some o->o.live=true->∃ p,β l i=some p
 dom:∀ l i p,β l i=some p->∃ o,get l i=some o
inductive bG where
 |tmp (t:Nat)
 |const (v:IV)
inductive kA where
 |mov (x:bG)
 |nilchk (x:bG)
 |pick (c a b:bG)
 |newv (cs:List IV) (slot:Nat)
 |box (x:bG) (slot:Nat)
 |build (zero:List IV) (parts:List (Nat×Nat×bG))
 |bslice (zero:List IV) (sz len:Nat) (parts:List (Nat×Nat×bG))
 |mslice (zero:List IV) (sz len:Nat) (parts:List (Nat×Nat×bG)) (slot:Nat)
 |load (agg:Bool) (n:Nat) (x:bG)
 |store (n:Nat) (x v:bG)
 |bin (op:BinOp) (x y:bG)
 |eqagg (neg:Bool) (ks:List Nat) (x y:bG)
 |eqb (neg:Bool) (x y:bG)
 |eqp (neg:Bool) (x y:bG)
 |eqs (neg:Bool) (x y:bG)
 |un (op:UnOp) (x:bG)
 |conv (k:IntKind) (x:bG)
 |cstr (x:bG)
 |mkfn (f:FuncId) (first cap:List bG)
 |mkmap (slot:Nat)
 |slice (sz:Nat) (x:bG) (lo hi mx:Option bG)
 |sliceS (x:bG) (lo hi:Option bG)
 |faddr (off:Nat) (x:bG)
 |field (agg:Bool) (off n:Nat) (x:bG)
 |iaddr (sz:Nat) (x ix:bG)
 |iaddrA (sz len:Nat) (x ix:bG)
 |index (agg:Bool) (sz len:Nat) (x ix:bG)
 |indexS (x ix:bG)
 |lookup (zero:IV) (kt:Bool×List Nat) (ok:Bool) (x ix:bG)
 |mapupd (kt:Bool×List Nat) (m k v:bG)
 |extract (x:bG) (i:Nat)
 |call (f:bG) (args:List bG) (slot:Nat)
 |append (zero:List IV) (sz:Nat) (fq:Bool) (s x:bG) (slot:Nat)
 |len (k:Nat) (x:bG)
 |mx (isMax:Bool) (x y:bG)
 |cap (x:bG)
 |clr (zero:List IV) (sz:Nat) (x:bG)
 |cpy (sz:Nat) (x y:bG)
 |mks (zero:List IV) (sz:Nat) (n m:bG) (slot:Nat)
 |fail
inductive eV where
 |p
 |r
 |rl (l i o n:Nat)
 |a
 |w (l i o n:Nat)
 |k (i s:Nat)
 |x
structure dc where
 dst:Option Nat
 op:kA
 guard:Option (Nat×Bool)
 vis:List Nat
inductive IC where
 |skip
 |ret
 |exit (id:Nat)
 |seq (a b:IC)
 |cond (c:bG) (a b:IC)
 |block (id:Nat) (a:IC)
 |loop (a:IC)
 |region (drawn:Bool) (slots:Nat) (ops:List dc) (free:List (Nat×Nat))
inductive nZ where
 |tmp (t:Nat)
 |cell (agg:Bool) (n t:Nat)
structure jy where
 ntmps:Nat
 res:List nZ
 body:IC
 mode:Nat
structure St where
 t:List IV
 aa:List aO
inductive Out where
 |normal
 |exit (id:Nat)
 |ret
abbrev ko:Type:=Option (eV×IV×List aO)
abbrev Call:Type:=Nat->(Nat->List aO)->List aO->List aO->Nat->FuncId->List IV->ko
def IV.cells:IV->List IV
 |.agg cs=>cs
 |v=>[v]
def IV.scalar:IV->Bool
 |.agg _=>false
 |.tuple _=>false
 |_=>true
noncomputable def afe{α β:Type}(l:List α):(List α->β)->β:=List.rec (motive:=fun _=>(List α->β)->β) (fun k=>k []) (fun x _ ih k=>ih fun ys=>k (x::ys)) l
noncomputable def lit{α:Type}(l:List α):List α:=afe l fun ys=>ys
theorem Jb{α β:Type}:∀(l:List α)(k:List α->β),afe l k=k l
 |[],_=>rfl
 |x::xs,k=>Jb xs fun ys=>k (x::ys)
theorem zi{α:Type}(l:List α):lit l=l:=Jb l _
noncomputable def ae7{α β:Type}(l:List α):Nat->α->(List α->β)->β :=
 List.rec (motive:=fun _=>Nat->α->(List α->β)->β) (fun _ _ k=>k []) (fun x xs ih i v k=>Nat.rec (motive:=fun _=>β) (k (v::xs)) (fun i _=>ih i v fun ys=>k (x::ys)) i) l
theorem IJ{α β:Type}:∀(l:List α)(i:Nat)(v:α)(k:List α->β),ae7 l i v k=k (l.set i v)
 |[],_,_,_=>rfl
 |_::_,0,_,_=>rfl
 |x::xs,i+1,v,k=>IJ xs i v fun ys=>k (x::ys)
noncomputable def bH{α:Type}(z:α)(l:List α):Nat->α :=
 List.rec (motive:=fun _=>Nat->α) (fun _=>z) (fun x _ ih i=>Nat.rec (motive:=fun _=>α) x (fun i _=>ih i) i) l
theorem z6{α:Type}(z:α):∀(l:List α)(i:Nat),bH z l i=l.getD i z
 |[],_=>rfl
 |_::_,0=>rfl
 |_::xs,i+1=>(z6 z xs i).trans Ψ
noncomputable def look(d:Nat)(ah:Nat->List aO)(aa:List aO)(l i:Nat):Option aO:=if l=d then aa[i]? else if l<d then(ah l)[i]? else none
noncomputable def bM(c:List IV)(off:Nat):Nat->Option (List IV)
 |0=>some []
 |n+1=>match c[off]? with
  |some x=>(bM c (off+1) n).map (x::·)
  |none=>none
noncomputable def mg(agg:Bool)(xs:List IV):Option IV:=if agg then some (.agg xs)else match xs with|[x]=>some x|_=>none
noncomputable def gV(c:List IV)(off:Nat):List IV->List IV
 |[]=>c
 |v::vs=>gV (c.set off v) (off+1) vs
noncomputable def seg(c:List IV)(off n:Nat):Option (List IV):=if off+n<=c.length then some (lit ((c.drop off).take n))else none
def bs(l:List Nat):ByteArray:=⟨(l.map UInt8.ofNat).toArray⟩
noncomputable def rep(zero:List IV):Nat->List IV
 |0=>[]
 |n+1=>zero++rep zero n
noncomputable def ρ(t:List IV):bG->IV
 |.tmp i=>bH (.tuple []) t i
 |.const v=>v
noncomputable def put(t:List IV)(dst:Option Nat)(v:IV):List IV:=match dst with|some i=>ae7 t i v fun ys=>ys|none=>t
theorem yd(t:List IV)(i:Nat)(v:IV):put t (some i) v=t.set i v:=IJ t i v _
theorem C2(t:List IV)(v:IV):put t none v=t:=rfl
theorem ρahs(t:List IV)(i:Nat):ρ t (.tmp i)=t.getD i (.tuple []):=z6 _ t i
theorem ρR3(t:List IV)(v:IV):ρ t (.const v)=v:=rfl
noncomputable def dh(t:List IV)(c:List IV):List (Nat×Nat×bG)->Option (List IV)
 |[]=>some c
 |(off,n,x)::rest=>if (ρ t x).cells.length=n/\off+n<=c.length then dh t (lit (gV c off (ρ t x).cells)) rest else none
noncomputable def aT(k:IntKind)(n:Int):Int:=match k,n with
 |.i64,.ofNat m=>bif Nat.blt m 9223372036854775808 then .ofNat m else IntKind.wrap .i64 (.ofNat m)
 |.i64,.negSucc m=>bif Nat.blt m 9223372036854775808 then .negSucc m else IntKind.wrap .i64 (.negSucc m)
 |k,n=>k.wrap n
theorem T9(m:Nat)(h:Nat.blt m 9223372036854775808=true):IntKind.i64.wrap (Int.ofNat m)=Int.ofNat m :=
 IntWalk.i64_in _ (by have:=Nat.blt_eq▸h;constructor<;>simp only[Int.ofNat_eq_natCast]<;>omega)
theorem T8(m:Nat)(h:Nat.blt m 9223372036854775808=true):IntKind.i64.wrap (Int.negSucc m)=Int.negSucc m :=
 IntWalk.i64_in _ (by have:=Nat.blt_eq▸h;constructor<;>rw[Int.negSucc_eq]<;>omega)
theorem zT(k:IntKind)(n:Int):aT k n=k.wrap n:=by
 cases k;case i64 =>
  cases n with
  |ofNat m =>
   show(bif Nat.blt m 9223372036854775808 then Int.ofNat m else _)=_
   rcases XJ (Nat.blt m 9223372036854775808)with h|h
   ·rw[h,bT,T9 m h]
   ·rw[h,bL]
  |negSucc m =>
   show(bif Nat.blt m 9223372036854775808 then Int.negSucc m else _)=_
   rcases XJ (Nat.blt m 9223372036854775808)with h|h
   ·rw[h,bT,T8 m h]
   ·rw[h,bL]
 all_goals rfl
noncomputable def bq(op:BinOp)(k:IntKind)(a b:Int):Option IV :=
 match op with
 |.add=>some (.int k (aT k (a+b)))
 |.sub=>some (.int k (aT k (a-b)))
 |.mul=>some (.int k (aT k (a*b)))
 |.quo=>if b=0 then none else some (.int k (aT k (a.tdiv b)))
 |.rem=>if b=0 then none else some (.int k (a.tmod b))
 |.and=>some (.int k (k.wrap (BitVec.ofInt k.bits a &&& BitVec.ofInt k.bits b).toNat))
 | .or=>some (.int k (k.wrap (BitVec.ofInt k.bits a ||| BitVec.ofInt k.bits b).toNat))
 |.xor=>some (.int k (k.wrap (BitVec.ofInt k.bits a ^^^ BitVec.ofInt k.bits b).toNat))
 |.eql=>some (.bool (a==b))
 |.neq=>some (.bool (a != b))
 |.lss=>some (.bool (decide (a<b)))
 |.leq=>some (.bool (decide (a<=b)))
 |.gtr=>some (.bool (decide (a>b)))
 |.geq=>some (.bool (decide (a≥b)))
 |_=>none
noncomputable def oy(op:BinOp)(x y:ByteArray):Option IV :=
 match op with
 |.eql=>some (.bool (x.toList==y.toList))
 |.neq=>some (.bool (!(x.toList==y.toList)))
 |.lss=>some (.bool (Op.bytesLess x.toList y.toList))
 | .leq=>some (.bool (Op.bytesLess x.toList y.toList||x.toList==y.toList))
 | .gtr=>some (.bool (!(Op.bytesLess x.toList y.toList||x.toList==y.toList)))
 |.geq=>some (.bool (!(Op.bytesLess x.toList y.toList)))
 |_=>none
noncomputable def Oc(op:BinOp)(k:IntKind)(a b:Int):Option IV :=
 if b<0 then none else
 match op with
 |.shl=>some (.int k (aT k (a*2 ^ (min b.toNat k.bits))))
 |.shr=>some (.int k (a.fdiv (2 ^ (min b.toNat k.bits))))
 |_=>none
noncomputable def bX:BinOp->Bool
 |.shl=>true
 |.shr=>true
 |_=>false
noncomputable def iq(op:BinOp)(x y:IV):Option IV :=
 match x,y with
 |.int k a,.int k' b=>if bX op then Oc op k a b else if k=k' then bq op k a b else none
 |.str a,.str b=>oy op a b
 |_,_=>none
noncomputable def GH(x y:IV):Option Bool :=
 match x,y with
 |.bool a,.bool b=>some (a==b)
 |_,_=>none
noncomputable def aed(x y:IV):Option Bool :=
 match x,y with
 |.eo,.eo=>some true
 |.eo,.ptrM ..=>some false
 |.eo,.ptrC ..=>some false
 |.ptrM ..,.eo=>some false
 |.ptrC ..,.eo=>some false
 |_,_=>none
noncomputable def Bj(x y:IV):Option Bool :=
 match x,y with
 |.nilsl,.nilsl=>some true
 |.nilsl,.slM ..=>some false
 |.nilsl,.slC ..=>some false
 |.slM ..,.nilsl=>some false
 |.slC ..,.nilsl=>some false
 |_,_=>none
noncomputable def eqv(k:Nat)(x y:IV):Option Bool :=
 match x,y with
 |.int a m,.int b n=>if k=1/\a=b then some (m==n)else none
 |.str m,.str n=>if k=2 then some (m.toList==n.toList)else none
 |.bool m,.bool n=>if k=0 then some (m==n)else none
 |_,_=>none
noncomputable def fM:List Nat->List IV->List IV->Option Bool
 |[],[],[]=>some true
 |k::ks,x::xs,y::ys=>match eqv k x y with
  |some true=>fM ks xs ys
  |some false=>match fM ks xs ys with|some _=>some false|none=>none
  |none=>none
 |_,_,_=>none
noncomputable def kL(ag:Bool)(v:IV):Bool:=if ag then(match v with|.agg _=>true|_=>false)else v.scalar
noncomputable def Nl(kt:Bool×List Nat)(x y:IV):Option Bool:=if kL kt.1 x&&kL kt.1 y then fM kt.2 x.cells y.cells else none
noncomputable def pZ(op:UnOp)(x:IV):Option IV :=
 match op,x with
 |.neg,.int k n=>some (.int k (aT k (0-n)))
 |.not,.bool b=>some (.bool (!b))
 |_,_=>none
noncomputable def mC:IV->Option Nat
 |.int _ n=>if 0<=n then some n.toNat else none
 |_=>none
noncomputable def lC(t:List IV)(dflt:Nat):Option bG->Option Nat
 |none=>some dflt
 |some x=>mC (ρ t x)
noncomputable def eS(sz:Nat)(t:List IV)(v:IV)(lo hi mx:Option bG):Option IV :=
 match v with
 |.nilsl=>match lC t 0 lo,lC t 0 hi,lC t 0 mx with
  |some l,some h,some m=>if m<=0/\h<=m/\l<=h then some .nilsl else none
  |_,_,_=>none
 |.slM lv i off len cap sz0 tight=>match lC t 0 lo,lC t len hi,lC t cap mx with
  | some l,some h,some m=>if (m<=cap/\h<=m/\l<=h)/\sz0=sz then some (.slM lv i (off+l*sz) (h-l) (m-l) sz (mx.isSome||tight))else none
  |_,_,_=>none
 |.slC cs len sz0 tight=>match lC t 0 lo,lC t len hi,lC t len mx with
  |some l,some h,some m=>if (m<=len/\h<=m/\l<=h)/\sz0=sz then some (.slC (lit ((cs.drop (l*sz)).take ((h-l)*sz))) (h-l) sz (if mx.isSome then m==h else tight&&h==len))else none
  |_,_,_=>none
 |_=>none
noncomputable def lK(t:List IV)(v:IV)(lo hi:Option bG):Option IV :=
 match v with
 |.str s=>match lC t 0 lo,lC t s.size hi with
  |some l,some h=>if h<=s.size/\l<=h then some (.str (s.extract l h))else none
  |_,_=>none
 |_=>none
noncomputable def fL(kt:Bool×List Nat)(key:IV):List IV->Nat->Option (Option Nat)
 |[],_=>some none
 |k::ks,i=>match Nl kt key k with
  |some true=>some (some i)
  |some false=>fL kt key ks (i+1)
  |none=>none
noncomputable def mh(kt:Bool×List Nat)(key:IV)(ks vs:List IV):Option (Option IV) :=
 if kL kt.1 key&&key.cells.length==kt.2.length then
  match fL kt key ks 0 with
  |some (some j)=>(vs[j]?).map some
  |some none=>some none
  |none=>none
 else none
noncomputable def cB(lk:Nat->Nat->Option aO)(sz:Nat):IV->Option (List IV×Nat)
 |.nilsl=>some ([],0)
 |.slC cs len _ _=>(seg cs 0 (len*sz)).map (·,len)
 |.slM l i off len _ _ _=>match lk l i with
  |some (.cells c)=>(seg c off (len*sz)).map (·,len)
  |_=>none
 |_=>none
noncomputable def bound:Nat:=2 ^ 30
noncomputable def dU(aa:List aO)(id:Nat)(o:aO)(v:IV):ko :=
 match aa[id]? with
 |some .free=>some (.a,v,lit (aa.set id o))
 |_=>none
noncomputable def kW(aa:List aO)(i id:Nat)(o:aO)(v:IV):ko :=
 match aa[id]? with
 |some .free=>some (.k i id,v,lit ((aa.set i .gone).set id o))
 |_=>none
noncomputable def bh(d n0:Nat)(lk:Nat->Nat->Option aO)(aa:List aO)(sz:Nat)(s:IV)(new:List IV)(n slot:Nat):ko :=
 if n=0 then (match s with
  |.nilsl=>some (.r,.nilsl,aa)
  |.slC cs len sz0 tight=>some (.r,.slC cs len sz0 tight,aa)
  |.slM l i off len cap sz0 tight=>some (.r,.slM l i off len cap sz0 tight,aa)
  | _=>none) else
 match s with
 |.nilsl=>if n<=bound then dU aa (n0+slot) (.cells new) (.slM d (n0+slot) 0 n n sz false)else none
 |.slC cs len _ tight=>if len+n<=bound/\tight=true then
   match seg cs 0 (len*sz)with
   |some old=>dU aa (n0+slot) (.cells (lit (old++new))) (.slM d (n0+slot) 0 (len+n) (len+n) sz false)
   |none=>none
  else none
 |.slM l i off len cap sz0 tight=>if len+n<=bound/\sz0=sz then
   match lk l i with
   |some (.cells c) =>
    if len+n<=cap then
     if l=d/\off+(len+n)*sz<=c.length/\new.all IV.scalar=true then some (.x,.slM l i off (len+n) cap sz tight,lit (aa.set i (.cells (lit (gV c (off+len*sz) new)))))else none
    else match seg c off (len*sz)with
     |some old=>if tight then dU aa (n0+slot) (.cells (lit (old++new))) (.slM d (n0+slot) 0 (len+n) (len+n) sz false)
       else if l=d/\new.all IV.scalar=true then kW aa i (n0+slot) (.cells (lit (old++new))) (.slM d (n0+slot) 0 (len+n) (len+n) sz false)else none
     |none=>none
   |_=>none
  else none
 |_=>none
noncomputable def b8(aa:List aO)(t:List IV)(x:bG):ko :=
 match ρ t x with
  |.ptrM l i o=>some (.p,.ptrM l i o,aa)
  |.ptrC cs o=>some (.p,.ptrC cs o,aa)
  |.fn f a b=>some (.p,.fn f a b,aa)
  |_=>none
noncomputable def dK(aa:List aO)(t:List IV)(c:bG)(a:bG)(b:bG):ko :=
 match ρ t c with
  |.bool true=>some (.p,ρ t a,aa)
  |.bool false=>some (.p,ρ t b,aa)
  |_=>none
noncomputable def Bm(d:Nat)(n0:Nat)(aa:List aO)(cs:List IV)(slot:Nat):ko :=
 dU aa (n0+slot) (.cells cs) (.ptrM d (n0+slot) 0)
noncomputable def ff(d:Nat)(n0:Nat)(aa:List aO)(t:List IV)(x:bG)(slot:Nat):ko :=
 if (ρ t x).cells.all IV.scalar then dU aa (n0+slot) (.cells (ρ t x).cells) (.ptrM d (n0+slot) 0)else none
noncomputable def cA(aa:List aO)(t:List IV)(zero:List IV)(sz:Nat)(len:Nat)(parts:List (Nat×Nat×bG)):ko :=
 (dh t (rep zero len) parts).map fun c=>(.p,.slC c len sz true,aa)
noncomputable def gW(d:Nat)(n0:Nat)(aa:List aO)(t:List IV)(zero:List IV)(sz:Nat)(len:Nat)(parts:List (Nat×Nat×bG))(slot:Nat):ko :=
 match dh t (rep zero len) parts with
  |some c=>if c.all IV.scalar then dU aa (n0+slot) (.cells c) (.slM d (n0+slot) 0 len len sz false)else none
  |none=>none
noncomputable def dL(d:Nat)(ah:Nat->List aO)(aK:List aO)(aa:List aO)(t:List IV)(agg:Bool)(n:Nat)(x:bG):ko :=
 match ρ t x with
  |.ptrM l i off=>match look d ah aK l i with
   |some (.cells c)=>((bM c off n).bind (mg agg)).map fun v=>(.rl l i off n,v,aa)
   |_=>none
  |.ptrC cs off=>((bM cs off n).bind (mg agg)).map fun v=>(.p,v,aa)
  |_=>none
noncomputable def cL(d:Nat)(aa:List aO)(t:List IV)(n:Nat)(x:bG)(v:bG):ko :=
 match ρ t x with
  |.ptrM l i off=>match aa[i]? with
   |some (.cells c)=>if l=d/\(ρ t v).cells.length=n/\off+n<=c.length/\(ρ t v).cells.all IV.scalar then some (.w l i off n,.tuple [],lit (aa.set i (.cells (lit (gV c off (ρ t v).cells)))))else none
   |_=>none
  |_=>none
noncomputable def cO(aa:List aO)(t:List IV)(neg:Bool)(ks:List Nat)(x:bG)(y:bG):ko :=
 match ρ t x,ρ t y with
  |.agg a,.agg b=>(fM ks a b).map fun v=>(.p,.bool (neg != v),aa)
  |_,_=>none
noncomputable def eP(aa:List aO)(t:List IV)(neg:Bool)(x:bG)(y:bG):ko :=
 (GH (ρ t x) (ρ t y)).map fun v=>(.p,.bool (neg != v),aa)
noncomputable def fI(aa:List aO)(t:List IV)(neg:Bool)(x:bG)(y:bG):ko :=
 (aed (ρ t x) (ρ t y)).map fun v=>(.p,.bool (neg != v),aa)
noncomputable def fH(aa:List aO)(t:List IV)(neg:Bool)(x:bG)(y:bG):ko :=
 (Bj (ρ t x) (ρ t y)).map fun v=>(.p,.bool (neg != v),aa)
noncomputable def pF(aa:List aO)(t:List IV)(x:bG):ko :=
 match ρ t x with
  |.str s=>some (.p,.str s,aa)
  |_=>none
noncomputable def dM(aa:List aO)(t:List IV)(k:IntKind)(x:bG):ko :=
 match ρ t x with
  |.int _ n=>some (.p,.int k (aT k n),aa)
  |_=>none
noncomputable def tj(d:Nat)(n0:Nat)(aa:List aO)(slot:Nat):ko :=
 dU aa (n0+slot) (.map [] [] [] 0) (.mapM d (n0+slot))
noncomputable def cN(aa:List aO)(t:List IV)(off:Nat)(x:bG):ko :=
 match ρ t x with
  |.ptrM l i o=>some (.p,.ptrM l i (o+off),aa)
  |.ptrC cs o=>some (.p,.ptrC cs (o+off),aa)
  |_=>none
noncomputable def cM(aa:List aO)(t:List IV)(agg:Bool)(off:Nat)(n:Nat)(x:bG):ko :=
 match ρ t x with
  |.agg cs=>((bM cs off n).bind (mg agg)).map fun v=>(.p,v,aa)
  |_=>none
noncomputable def nH(aa:List aO)(t:List IV)(sz:Nat)(x:bG)(ix:bG):ko :=
 match ρ t x,mC (ρ t ix)with
  |.slM l i off len _ _ _,some j=>if j<len then some (.p,.ptrM l i (off+j*sz),aa)else none
  |.slC cs len _ _,some j=>if j<len then some (.p,.ptrC cs (j*sz),aa)else none
  |_,_=>none
noncomputable def kO(aa:List aO)(t:List IV)(sz:Nat)(len:Nat)(x:bG)(ix:bG):ko :=
 match ρ t x,mC (ρ t ix)with
  |.ptrM l i off,some j=>if j<len then some (.p,.ptrM l i (off+j*sz),aa)else none
  |.ptrC cs off,some j=>if j<len then some (.p,.ptrC cs (off+j*sz),aa)else none
  |_,_=>none
noncomputable def dy(aa:List aO)(t:List IV)(agg:Bool)(sz:Nat)(len:Nat)(x:bG)(ix:bG):ko :=
 match ρ t x,mC (ρ t ix)with
  |.agg cs,some j=>if j<len then((bM cs (j*sz) sz).bind (mg agg)).map fun v=>(.p,v,aa)else none
  |_,_=>none
noncomputable def lS(aa:List aO)(t:List IV)(x:bG)(ix:bG):ko :=
 match ρ t x,mC (ρ t ix)with
  |.str s,some j=>match s[j]? with
   |some b=>some (.p,.int .u8 b.toNat,aa)
   |none=>none
  |_,_=>none
noncomputable def fV(d:Nat)(ah:Nat->List aO)(aK:List aO)(aa:List aO)(t:List IV)(zero:IV)(kt:Bool×List Nat)(ok:Bool)(x:bG)(ix:bG):ko :=
 let r:Option (eV×Option IV):=match ρ t x with
   |.eT=>(mh kt (ρ t ix) [] []).map (eV.p,·)
   |.eF ks vs=>(mh kt (ρ t ix) ks vs).map (eV.p,·)
   |.mapM l i=>match look d ah aK l i with
    |some (.map ks vs _ _)=>(mh kt (ρ t ix) ks vs).map (eV.r,·)
    |_=>none
   |_=>none
  r.map fun(e,v)=>(e,if ok then .tuple [v.getD zero,.bool v.isSome]else v.getD zero,aa)
noncomputable def gF(d:Nat)(aa:List aO)(t:List IV)(kt:Bool×List Nat)(m:bG)(k:bG)(v:bG):ko :=
 match ρ t m with
  |.mapM l i=>match aa[i]? with
   |some (.map ks vs bs clock)=>if l=d/\(kL kt.1 (ρ t k)&&(ρ t k).cells.length==kt.2.length)=true then
     match fL kt (ρ t k) ks 0 with
     |some (some j)=>some (.x,.tuple [],lit (aa.set i (.map ks (lit (vs.set j (ρ t v))) bs clock)))
     |some none=>some (.x,.tuple [],lit (aa.set i (.map (lit (ks++[ρ t k])) (lit (vs++[ρ t v])) (lit (bs++[clock])) (clock+1))))
     |none=>none
    else none
   |_=>none
  |_=>none
noncomputable def bg(aa:List aO)(t:List IV)(x:bG)(i:Nat):ko :=
 match ρ t x with
  |.tuple vs=>(vs[i]?).map fun v=>(.p,v,aa)
  |_=>none
noncomputable def dY(C:Call)(d:Nat)(ah:Nat->List aO)(n0:Nat)(aK:List aO)(aa:List aO)(t:List IV)(f:bG)(args:List bG)(slot:Nat):ko :=
 match ρ t f with
  |.fn g first cap=>C d ah aK aa (n0+slot) g (first++args.map (ρ t)++cap)
  |_=>none
noncomputable def iX(d:Nat)(ah:Nat->List aO)(n0:Nat)(aK:List aO)(aa:List aO)(t:List IV)(zero:List IV)(sz:Nat)(fq:Bool)(s:bG)(x:bG)(slot:Nat):ko :=
 match (if fq then(mC (ρ t x)).bind fun n=>if n<=bound then some (rep zero n,n)else none else cB (look d ah aK) sz (ρ t x))with
  |some (new,n)=>bh d n0 (look d ah aK) aa sz (ρ t s) new n slot
  |none=>none
noncomputable def e_len(d:Nat)(ah:Nat->List aO)(aK:List aO)(aa:List aO)(t:List IV)(k:Nat)(x:bG):ko :=
 match ρ t x with
  |.nilsl=>if k=1 then some (.p,.int .i64 0,aa)else none
  |.slM _ _ _ n _ _ _=>if k=1 then some (.p,.int .i64 n,aa)else none
  |.slC _ n _ _=>if k=1 then some (.p,.int .i64 n,aa)else none
  |.str s=>if k=0 then some (.p,.int .i64 s.size,aa)else none
  |.eT=>if k=2 then some (.p,.int .i64 0,aa)else none
  |.eF ks _=>if k=2 then some (.p,.int .i64 ks.length,aa)else none
  |.mapM l i=>if k=2 then match look d ah aK l i with
   |some (.map ks _ _ _)=>some (.r,.int .i64 ks.length,aa)
   |_=>none
   else none
  |_=>none
noncomputable def iW(aa:List aO)(t:List IV)(isMax:Bool)(x:bG)(y:bG):ko :=
 match ρ t x,ρ t y with
  |.int k a,.int _ b=>some (.p,.int k (if isMax then(if b>a then b else a)else(if b<a then b else a)),aa)
  |_,_=>none
noncomputable def rE(aa:List aO)(t:List IV)(x:bG):ko :=
 match ρ t x with
  |.nilsl=>some (.p,.int .i64 0,aa)
  |.slM _ _ _ _ c _ true=>some (.p,.int .i64 c,aa)
  |_=>none
noncomputable def r7(d:Nat)(aa:List aO)(l i off:Nat)(xs:List IV)(v:IV):ko :=
 match aa[i]? with
 |some (.cells c)=>if l=d/\off+xs.length<=c.length/\xs.all IV.scalar=true then some (.x,v,lit (aa.set i (.cells (lit (gV c off xs)))))else none
 |_=>none
noncomputable def wY(d:Nat)(aa:List aO)(t:List IV)(zero:List IV)(sz:Nat)(x:bG):ko :=
 match ρ t x with
  |.nilsl=>some (.x,.tuple [],aa)
  |.slM l i off len _ sz0 _=>if len=0 then some (.x,.tuple [],aa)else if sz0=sz then r7 d aa l i off (rep zero len) (.tuple [])else none
  |_=>none
noncomputable def wX(d:Nat)(ah:Nat->List aO)(aK:List aO)(aa:List aO)(t:List IV)(sz:Nat)(x:bG)(y:bG):ko :=
 match ρ t x,cB (look d ah aK) sz (ρ t y)with
  |.slM l i off len _ sz0 _,some (xs,n)=>if sz0=sz/\n=len then if n=0 then some (.x,.int .i64 0,aa)else r7 d aa l i off xs (.int .i64 n)else none
  |_,_=>none
noncomputable def ud(d:Nat)(n0:Nat)(aa:List aO)(t:List IV)(zero:List IV)(sz:Nat)(n m:bG)(slot:Nat):ko :=
 match mC (ρ t n),mC (ρ t m)with
  |some a,some b=>if a=b/\a<=bound then dU aa (n0+slot) (.cells (lit (rep zero a))) (.slM d (n0+slot) 0 a a sz false)else none
  |_,_=>none
noncomputable def cH(C:Call)(d:Nat)(ah:Nat->List aO)(n0:Nat)(aK aa:List aO)(t:List IV):kA->ko
 |.mov x=>some (.p,ρ t x,aa)
 |.nilchk x=>b8 aa t x
 |.pick c a b=>dK aa t c a b
 |.newv cs slot=>Bm d n0 aa cs slot
 |.box x slot=>ff d n0 aa t x slot
 |.build zero parts=>(dh t zero parts).map fun c=>(.p,.agg c,aa)
 |.bslice zero sz len parts=>cA aa t zero sz len parts
 |.mslice zero sz len parts slot=>gW d n0 aa t zero sz len parts slot
 |.load agg n x=>dL d ah aK aa t agg n x
 |.store n x v=>cL d aa t n x v
 |.bin op x y=>(iq op (ρ t x) (ρ t y)).map fun v=>(.p,v,aa)
 |.eqagg neg ks x y=>cO aa t neg ks x y
 |.eqb neg x y=>eP aa t neg x y
 |.eqp neg x y=>fI aa t neg x y
 |.eqs neg x y=>fH aa t neg x y
 |.un op x=>(pZ op (ρ t x)).map fun v=>(.p,v,aa)
 |.conv k x=>dM aa t k x
 |.cstr x=>pF aa t x
 |.mkfn f first cap=>some (.p,.fn f (first.map (ρ t)) (cap.map (ρ t)),aa)
 |.mkmap slot=>tj d n0 aa slot
 |.slice sz x lo hi mx=>(eS sz t (ρ t x) lo hi mx).map fun v=>(.p,v,aa)
 |.sliceS x lo hi=>(lK t (ρ t x) lo hi).map fun v=>(.p,v,aa)
 |.faddr off x=>cN aa t off x
 |.field agg off n x=>cM aa t agg off n x
 |.iaddr sz x ix=>nH aa t sz x ix
 |.iaddrA sz len x ix=>kO aa t sz len x ix
 |.index agg sz len x ix=>dy aa t agg sz len x ix
 |.indexS x ix=>lS aa t x ix
 |.lookup zero kt ok x ix=>fV d ah aK aa t zero kt ok x ix
 |.mapupd kt m k v=>gF d aa t kt m k v
 |.extract x i=>bg aa t x i
 |.call f args slot=>dY C d ah n0 aK aa t f args slot
 |.append zero sz fq s x slot=>iX d ah n0 aK aa t zero sz fq s x slot
 |.len k x=>e_len d ah aK aa t k x
 |.mx isMax x y=>iW aa t isMax x y
 |.cap x=>rE aa t x
 |.clr zero sz x=>wY d aa t zero sz x
 |.cpy sz x y=>wX d ah aK aa t sz x y
 |.mks zero sz n m slot=>ud d n0 aa t zero sz n m slot
 |.fail=>none
noncomputable def b7(vis:List Nat)(n0:Nat)(aa:List aO):List aO:=lit (aa.mapIdx fun i o=>if i<n0||vis.contains (i-n0)then o else .gone)
noncomputable def dB(t:List IV):Option (Nat×Bool)->Bool
 |none=>true
 |some (j,b)=>match t[j]? with
  |some (.bool c)=>c==b
  |_=>false
noncomputable def iM(C:Call)(d:Nat)(ah:Nat->List aO)(drawn:Bool)(n0:Nat)(o:dc)(st:St):Option (eV×St) :=
 if dB st.t o.guard then
  match cH C d ah n0 (if drawn then b7 o.vis n0 st.aa else st.aa) st.aa st.t o.op with
  |some (e,v,aa)=>some (e,⟨put st.t o.dst v,aa⟩)
  |none=>none
 else some (.p,⟨put st.t o.dst (.tuple []),st.aa⟩)
noncomputable def kV(C:Call)(d:Nat)(ah:Nat->List aO)(drawn:Bool)(n0:Nat):List dc->St->Option (List eV×St)
 |[],st=>some ([],st)
 |o::rest,st=>match iM C d ah drawn n0 o st with
  |some (e,st1)=>match kV C d ah drawn n0 rest st1 with
   |some (es,st2)=>some (e::es,st2)
   |none=>none
  |none=>none
noncomputable def comm:eV->eV->Bool
 |.p,_=>true
 |_,.p=>true
 |.r,.r=>true
 |.r,.rl ..=>true
 |.r,.a=>true
 |.rl ..,.r=>true
 |.rl ..,.rl ..=>true
 |.rl ..,.a=>true
 |.a,.r=>true
 |.a,.rl ..=>true
 |.a,.a=>true
 | .rl l i o n,.w l' i' o' n'=>!(l==l'&&i==i')||o+n<=o'||o'+n'<=o
 | .w l i o n,.rl l' i' o' n'=>!(l==l'&&i==i')||o+n<=o'||o'+n'<=o
 |.rl _ i _ _,.k i' _=>!(i==i')
 |.k i' _,.rl _ i _ _=>!(i==i')
 |_,_=>false
noncomputable def iter(f:St->Option (Out×St)):Nat->St->Option (Out×St)
 |0,_=>none
 |n+1,st=>match f st with
  |some (.normal,st1)=>iter f n st1
  |r=>r
noncomputable def KT(x:Option (Out×St))(g:St->Option (Out×St)):Option (Out×St) :=
 match x with
 |some (.normal,st1)=>g st1
 |r=>r
noncomputable def Q6(v:IV)(x y:Option (Out×St)):Option (Out×St) :=
 match v with
 |.bool true=>x
 |.bool false=>y
 |_=>none
noncomputable def qI(id:Nat)(x:Option (Out×St)):Option (Out×St) :=
 match x with
 |some (.exit j,st1)=>if j=id then some (.normal,st1)else some (.exit j,st1)
 |r=>r
noncomputable def nw(C:Call)(d:Nat)(ah:Nat->List aO)(drawn:Bool)(slots:Nat)(ops:List dc)(free:List (Nat×Nat))(st:St):Option (Out×St) :=
 match kV C d ah drawn st.aa.length ops ⟨st.t,lit (st.aa++List.replicate slots .free)⟩with
 | some (es,st1)=>if !drawn||free.all (fun(j,i)=>comm (es.getD j .x) (es.getD i .x))then some (.normal,st1)else none
 |none=>none
noncomputable def exec(C:Call)(d:Nat)(ah:Nat->List aO)(n:Nat):IC->St->Option (Out×St)
 |.skip,st=>some (.normal,st)
 |.ret,st=>some (.ret,st)
 |.exit id,st=>some (.exit id,st)
 |.seq a b,st=>KT (exec C d ah n a st) (exec C d ah n b)
 |.cond c a b,st=>Q6 (ρ st.t c) (exec C d ah n a st) (exec C d ah n b st)
 |.block id a,st=>qI id (exec C d ah n a st)
 |.loop a,st=>iter (exec C d ah n a) n st
 |.region drawn slots ops free,st=>nw C d ah drawn slots ops free st
noncomputable def freeze:Nat->Nat->List aO->IV->Option IV
 |0,_,_,_=>none
 |n+1,lv,aa,v=>match v with
  |.ptrM l i off=>if l=lv then match aa[i]? with
    |some (.cells c)=>(c.mapM (freeze n lv aa)).map (.ptrC · off)
    |_=>none
   else some v
  |.slM l i off len cap sz tight=>if l=lv then match aa[i]? with
    |some (.cells c)=>((seg c off (len*sz)).bind fun s=>s.mapM (freeze n lv aa)).map (.slC · len sz (tight&&cap==len))
    |_=>none
   else some v
  |.mapM l i=>if l=lv then match aa[i]? with
    |some (.map ks vs _ _)=>match ks.mapM (freeze n lv aa),vs.mapM (freeze n lv aa)with
     |some a,some b=>some (.eF a b)
     |_,_=>none
    |_=>none
   else some v
  |.ptrC cs off=>(cs.mapM (freeze n lv aa)).map (.ptrC · off)
  |.slC cs len sz tight=>(cs.mapM (freeze n lv aa)).map (.slC · len sz tight)
  |.eF ks vs=>match ks.mapM (freeze n lv aa),vs.mapM (freeze n lv aa)with
   |some a,some b=>some (.eF a b)
   |_,_=>none
  |.agg cs=>(cs.mapM (freeze n lv aa)).map .agg
  |.tuple cs=>(cs.mapM (freeze n lv aa)).map .tuple
  |.fn f a b=>match a.mapM (freeze n lv aa),b.mapM (freeze n lv aa)with
   |some a,some b=>some (.fn f a b)
   |_,_=>none
  |_=>some v
noncomputable def p7(d:Nat)(ah:Nat->List aO)(st:St):nZ->Option IV
 |.tmp t=>some (st.t.getD t (.tuple []))
 |.cell agg n t=>match st.t.getD t (.tuple [])with
  |.ptrM l i off=>match look d ah st.aa l i with
   |some (.cells c)=>(bM c off n).bind (mg agg)
   |_=>none
  |_=>none
noncomputable def bP(d:Nat)(ah:Nat->List aO)(st:St)(rs:List nZ):Option IV :=
 match rs.mapM (p7 d ah st)with
 |some [v]=>some v
 |some vs=>some (.tuple vs)
 |none=>none
noncomputable def handed(n d:Nat)(aa qZ:List aO)(id:Nat)(i off len cap sz:Nat)(tight:Bool)(rest:Option (List IV)):ko :=
 match aa[i]? with
 |some (.cells c)=>match seg c off (cap*sz)with
  |some s=>match s.mapM (freeze n (d+1) (aa.set i .gone))with
   |some c'=>match rest with
    |none=>dU qZ id (.cells c') (.slM d id 0 len cap sz tight)
    |some r=>match r.mapM (freeze n (d+1) (aa.set i .gone))with
     |some r'=>dU qZ id (.cells c') (.tuple (.slM d id 0 len cap sz tight::r'))
     |none=>none
   |none=>none
  |none=>none
 |_=>none
noncomputable def leave(n d:Nat)(aa qZ:List aO)(id mode:Nat)(v:IV):ko :=
 match (if mode=1 then (match v with
  |.slM l i off len cap sz tight=>if l=d+1 then some (i,off,len,cap,sz,tight,none)else none
  |.tuple (.slM l i off len cap sz tight::r)=>if l=d+1 then some (i,off,len,cap,sz,tight,some r)else none
  | _=>none) else none:Option (Nat × Nat × Nat × Nat × Nat × Bool × Option (List IV))) with
 |some (i,off,len,cap,sz,tight,r)=>handed n d aa qZ id i off len cap sz tight r
 |none=>(freeze n (d+1) aa v).map fun v'=>(.r,v',qZ)
noncomputable def ended{α:Type}(x:Option (Out×St))(k:St->Option α):Option α :=
 match x with
 |some (.normal,st)=>k st
 |some (.ret,st)=>k st
 |_=>none
noncomputable def bA:Nat->Nat->List aO->IV->Option IV
 |0,_,_,_=>none
 |n+1,lv,aa,v=>match v with
  |.slM l i off len _ sz _=>if l=lv then match aa[i]? with
    |some (.cells c)=>((seg c off (len*sz)).bind fun s=>s.mapM (bA n lv aa)).map (.slC · len sz false)
    |_=>none
   else none
  |.slC cs len sz tight=>(cs.mapM (bA n lv aa)).map (.slC · len sz tight)
  |.agg cs=>(cs.mapM (bA n lv aa)).map .agg
  |.bool b=>some (.bool b)
  |.int k x=>some (.int k x)
  |.str x=>some (.str x)
  |.nilsl=>some .nilsl
  |_=>none
noncomputable def pR(aa:List aO)(v:IV):ko:=match v with
 |.int k x=>some (.r,.int k x,aa)
 |.bool b=>some (.r,.bool b,aa)
 |_=>none
def adi(lt:Nat->Nat->Bool):Nat->Nat->Array Nat->Array Nat
 |0,_,a=>a
 |k+1,i,a=>adi lt k (i+1) (Go.Sort.insInner lt 0 i a)
noncomputable def sM(lt:Nat->Nat->Bool)(n:Nat):List Nat :=
 if n<=12 then(adi lt (n-1) 1 ⟨List.range n⟩).toList else(Go.Sort.pdq lt (Array.range n) 0 n (Lib.bitLen n) true true).toList
noncomputable def nD(n:Nat)(tb:List (List Int))(i j:Nat):Bool:=Int.blt' ((tb.getD (i%n) []).getD (j%n) 0)
 where Int.blt':Int->Bool
  |.ofNat _=>false
  |.negSucc _=>true
def Cl(n:Nat)(lt:Nat->Nat->Bool):Bool:=(List.range n).all fun x=>!lt x x&&(List.range n).all fun y=>(List.range n).all fun z=>(!(lt x y&&lt y z)||lt x z)&&(lt x y||lt y z||!lt x z)
noncomputable def rowAt{α:Type}(r:List α)(sz j:Nat):List α:=(r.drop (j*sz)).take sz
noncomputable def kN(kind:Nat)(row:List IV):IV:=if kind=5 then .agg row else row.headD (.tuple [])
noncomputable def Bv(C:Call)(d:Nat)(ah:Nat->List aO)(aK aa:List aO)(id:Nat)(g:FuncId)(cap:List IV)(x y:IV):Option Int :=
 match C d ah aK aa id g (x::y::cap)with
 |some (.r,.int .i64 r,_)=>some r
 |_=>none
noncomputable def oO(d:Nat)(aa:List aO)(sz:Nat):IV->Option (Nat×Nat×List IV×List IV×Nat)
 |.slM l i off len _ sz' _=>if l=d/\sz'=sz/\len≠0/\len<=bound then
   match aa[i]? with
   |some (.cells c)=>(seg c off (len*sz)).bind fun s=>if s.all IV.scalar=true then some (i,off,c,s,len)else none
   |_=>none
  else none
 |_=>none
noncomputable def sD(aa:List aO)(i off:Nat)(c r:List IV):eV×IV×List aO:=(.x,.tuple [],lit (aa.set i (.cells (lit (gV c off r)))))
def Ua:IV->Option Int
 |.int .i64 z=>some z
 |_=>none
def Gk(x:Int):List Int->List Int
 |[]=>[x]
 |y::l=>if x<=y then x::y::l else y::Gk x l
def lJ:List Int->List Int
 |[]=>[]
 |x::l=>Gk x (lJ l)
noncomputable def qW(C:Call)(d:Nat)(ah:Nat->List aO)(aK aa:List aO)(id kind sz:Nat):List IV->ko
 |[.nilsl]=>if kind=6 then some (.x,.tuple [],aa)else none
 |[.nilsl,_]=>if kind=6 then none else some (.x,.tuple [],aa)
 |[s]=>if kind=6 then(oO d aa sz s).bind fun(i,off,c,r,_)=>(r.mapM Ua).map fun zs=>sD aa i off c ((lJ zs).map (.int .i64))else none
 |[s,.fn g [] cap]=>if kind=6 then none else(oO d aa sz s).bind fun(i,off,c,r,n) =>
   (((List.range n).map fun j=>kN kind (rowAt r sz j)).mapM fun x=>((List.range n).map fun j=>kN kind (rowAt r sz j)).mapM fun y=>Bv C d ah (aK.set i .gone) (aa.set i .gone) id g cap x y).bind fun tb =>
    if Cl n (nD n tb)=true then some (sD aa i off c ((sM (nD n tb) n).flatMap fun j=>rowAt r sz j))else none
 |_=>none
noncomputable def aM(F:FuncId->Option jy)(S:FuncId->List IV->Option IV):Nat->Call
 |0=>fun _ _ _ _ _ _ _=>none
 |n+1=>fun d ah aK aa id f args =>
  match S f args with
  |some v=>some (.r,v,aa)
  |none=>match F f with
   |none=>none
   |some fn =>
    if fn.mode=2 then
     ended (exec (aM F S n) d ah n fn.body ⟨lit (args++List.replicate (fn.ntmps-args.length) (.tuple [])),aa⟩) fun st=>(bP d ah st fn.res).map fun v=>(.x,v,st.aa)
    else if fn.mode=3 then
     (args.mapM (bA 12 d aK)).bind fun az=>ended (exec (aM F S n) 0 (fun _=>[]) n fn.body ⟨lit (az++List.replicate (fn.ntmps-az.length) (.tuple [])),[]⟩) fun st=>(bP 0 (fun _=>[]) st fn.res).bind fun v=>pR aa v
    else if 4<=fn.mode then qW (aM F S n) d ah aK aa id fn.mode fn.ntmps args
    else
     ended (exec (aM F S n) (d+1) (fun l=>if l=d then aK else ah l) n fn.body ⟨lit (args++List.replicate (fn.ntmps-args.length) (.tuple [])),[]⟩) fun st =>
      (bP (d+1) (fun l=>if l=d then aK else ah l) st fn.res).bind fun v=>leave n d st.aa aa id fn.mode v
theorem aj{a b:Prop}(x:a)(y:b):a/\b:=⟨x,y⟩
abbrev cZ:=FuncId->List IV->Option IV
abbrev bR:=Nat->List aO
abbrev aU:=List aO
abbrev fP:=Out->St->Prop
def NO:Value->Option IV
 |.bool b=>some (.bool b)
 |.int k n=>some (.int k n)
 |.string s=>some (.str s)
 |.pointer none=>some .eo
 |.slice none 0 0=>some .nilsl
 |.map none=>some .eT
 |.nilFunc=>some .l9
 |_=>none
def allM{α β:Type}(f:α->Option β):List α->Option (List β)
 |[]=>some []
 |x::xs=>match f x,allM f xs with
  |some y,some ys=>some (y::ys)
  |_,_=>none
def toI:Value->Option IV
 |.agg cs=>(allM NO cs.toList).map .agg
 |v=>NO v
def bI:Operand->Option bG
 |.tmp t=>some (.tmp t)
 |.const v=>(toI v).map .const
 |.func f=>some (.const (.fn f [] []))
 |.global _=>none
def lU:Option Operand->Option (Option bG)
 |none=>some none
 |some x=>(bI x).map some
def dG(P:Program)(t:TypeId):Option Nat:=(P.info? t).map (·.size)
def iH:TypeDesc->Bool
 |.struct _=>true
 |.array _ _=>true
 |_=>false
def jl(P:Program)(t:TypeId):Option IV:=match P.info? t with
 |some i=>match i.zero with
  |some v=>toI v
  |none=>none
 |none=>none
def Bw(f:TypeId->Option (List Nat)):List Field->Nat->Option (List Nat)
 |[],_=>some []
 | fd :: fs, off => if fd.name ≠ "_" ∧ fd.offset = off then
   match f fd.type with
   |some a=>match Bw f fs (off+a.length)with
    |some b=>some (a++b)
    |none=>none
   |none=>none
  else none
def p8(a:List Nat):Nat->List Nat
 |0=>[]
 |n+1=>a++p8 a n
def gw(P:Program):Nat->TypeId->Option (List Nat)
 |0,_=>none
 |D+1,t=>match P.underlying t with
  |some .bool=>if dG P t=some 1 then some [0]else none
  |some (.int _)=>if dG P t=some 1 then some [1]else none
  |some .string=>if dG P t=some 1 then some [2]else none
  |some (.struct fs)=>if P.stoodInHeld t then none else
    match Bw (gw P D) fs.toList 0 with
    |some l=>if dG P t=some l.length then some l else none
    |none=>none
  |some (.array len e)=>match gw P D e with
    |some l=>if dG P t=some (len*l.length)then some (p8 l len)else none
    |none=>none
  |_=>none
def loadT(P:Program)(t:TypeId):Option (Bool×Nat):=match P.underlying t,dG P t with
 |some u,some n=>some (if iH u then(true,n)else(false,1))
 |_,_=>none
def lT(g:Nat->Option (Nat×Nat)):List (Nat×Operand)->Option (List (Nat×Nat×bG))
 |[]=>some []
 |(i,x)::rest=>match g i,bI x,lT g rest with
  |some (off,n),some y,some ys=>some ((off,n,y)::ys)
  |_,_,_=>none
def rV(P:Program)(t:TypeId):Bool:=match P.info? t with
 |some i=>i.bytes<=1024
 |none=>false
def Rl(P:Program)(op:BinOp)(t:TypeId)(x y:bG):Option kA :=
 match P.underlying t with
 |some (.int _)=>some (.bin op x y)
 |some .string=>match op with
  |.add=>none
  |_=>some (.bin op x y)
 |some u=>match op with
  |.eql=>cEq false u
  |.neq=>cEq true u
  |_=>none
 |none=>none
 where
 cEq (neg:Bool) (u:TypeDesc):Option kA:=match u with
  |.bool=>some (.eqb neg x y)
  |.pointer _=>some (.eqp neg x y)
  |.slice _=>some (.eqs neg x y)
  |.struct _=>if P.eqGuardType P.depth t then none else(gw P 40 t).map fun ks=>.eqagg neg ks x y
  |.array _ _=>if P.eqGuardType P.depth t then none else(gw P 40 t).map fun ks=>.eqagg neg ks x y
  |_=>none
def JS(P:Program)(c:Go.Call)(slot:Nat):Option kA :=
 match c.callee,allM bI c.args.toList with
 |.value f,some xs=>(bI f).map fun y=>.call y xs slot
 |.builtin .append,some [s,x]=>match c.argTypes[0]?,c.argTypes[1]? with
  |some st,some xt=>match P.underlying st,P.underlying xt with
   |some (.slice e),some xu=>match dG P e,jl P e with
    |some n,some z=>if rV P e&&z.cells.length==n&&0<n then
      match xu with
      |.int _=>some (.append z.cells n true s x slot)
      |.slice e'=>if e'==e then some (.append z.cells n false s x slot)else none
      |_=>none
     else none
    |_,_=>none
   |_,_=>none
  |_,_=>none
 |.builtin .len,some [x]=>match c.argTypes[0]? with
  |some t=>match P.underlying t with
   |some .string=>some (.len 0 x)
   |some (.slice _)=>some (.len 1 x)
   |some (.map _ _)=>some (.len 2 x)
   |_=>none
  |none=>none
 |.builtin .cap,some [x]=>match c.argTypes[0]? with
  |some t=>match P.underlying t with
   |some (.slice _)=>some (.cap x)
   |_=>none
  |none=>none
 |.builtin .clear,some [x]=>match c.argTypes[0]? with
  |some t=>match P.underlying t with
   |some (.slice e)=>match dG P e,jl P e with
    |some n,some z=>if z.cells.length==n&&0<n then some (.clr z.cells n x)else none
    |_,_=>none
   |_=>none
  |none=>none
 |.builtin .copy,some [x,y]=>match c.argTypes[0]? with
  |some t=>match P.underlying t with
   |some (.slice e)=>match dG P e with
    |some n=>if 0<n then some (.cpy n x y)else none
    |none=>none
   |_=>none
  |none=>none
 |.builtin .max,some [x,y]=>some (.mx true x y)
 |.builtin .min,some [x,y]=>some (.mx false x y)
 |_,_=>none
def O3:List IV->Bool
 |[.int _ _,.nilsl,.nilsl,.nilsl]=>true
 |_=>false
def Rj(P:Program)(o:Op)(slot:Nat):Option kA :=
 match o with
 |.move x=>(bI x).map .mov
 |.assign x=>(bI x).map .mov
 |.nilCheck x=>(bI x).map .nilchk
 |.pick c a b=>match bI c,bI a,bI b with
  |some c,some a,some b=>some (.pick c a b)
  |_,_,_=>none
 |.alloc e=>(jl P e).map fun z=>.newv z.cells slot
 |.box _ x=>(bI x).map fun y=>.box y slot
 |.build t parts=>match P.underlying t,jl P t with
  |some (.struct fs),some z=>if fs.toList.all (fun f=>(dG P f.type).isSome)then
    (lT (fun i=>match fs[i]? with|some f=>(dG P f.type).map (f.offset,·)|none=>none) parts.toList).map (.build z.cells ·)
   else none
  |some (.array _ e),some z=>match dG P e with
   |some n=>(lT (fun i=>some (i*n,n)) parts.toList).map (.build z.cells ·)
   |none=>none
  |_,_=>none
 |.buildSlice t len parts=>match P.underlying t with
  |some (.slice e)=>match dG P e,jl P e with
   |some n,some z=>if len*n<=2 ^ 24/\z.cells.length=n/\0<n then(lT (fun i=>some (i*n,n)) parts.toList).map (fun ps=>if O3 z.cells then .mslice z.cells n len ps slot else .bslice z.cells n len ps)else none
   |_,_=>none
  |_=>none
 |.load t x=>match loadT P t,bI x with
  |some (agg,n),some y=>some (.load agg n y)
  |_,_=>none
 |.store t x v=>match dG P t,bI x,bI v with
  |some n,some y,some z=>if n=0 then none else some (.store n y z)
  |_,_,_=>none
 |.binOp op t x y _=>match bI x,bI y with
  |some x,some y=>Rl P op t x y
  |_,_=>none
 |.unOp op _ x=>(bI x).map (.un op)
 |.convert s d x=>match P.underlying s,P.underlying d,bI x with
  |some (.int _),some (.int k),some y=>some (.conv k y)
  |some .string,some .string,some y=>some (.cstr y)
  |_,_,_=>none
 |.makeFunc (.func f) first cap=>match allM bI first.toList,allM bI cap.toList with
  |some a,some b=>some (.mkfn f a b)
  |_,_=>none
 |.makeMap _ none=>some (.mkmap slot)
 |.makeSlice t n m=>match P.underlying t,bI n,bI m with
  |some (.slice e),some x,some y=>match dG P e,jl P e with
   |some k,some z=>if rV P e&&z.cells.length==k&&0<k then some (.mks z.cells k x y slot)else none
   |_,_=>none
  |_,_,_=>none
 |.slice t x lo hi mx=>match P.underlying t,bI x,lU lo,lU hi,lU mx with
  |some (.slice e),some y,some l,some h,some m=>if mx.isSome&&hi.isNone then none else(dG P e).map fun n=>.slice n y l h m
  |some .string,some y,some l,some h,some none=>some (.sliceS y l h)
  |_,_,_,_,_=>none
 |.fieldAddr s x f=>match P.underlying s,bI x with
  |some (.struct fs),some y=>match fs[f]? with
   |some fd=>match dG P fd.type with
    |some n=>if n=0 then none else some (.faddr fd.offset y)
    |none=>none
   |none=>none
  |_,_=>none
 |.field s x f=>match P.underlying s,bI x with
  |some (.struct fs),some y=>match fs[f]? with
   |some fd=>(loadT P fd.type).map fun(agg,n)=>.field agg fd.offset n y
   |none=>none
  |_,_=>none
 |.indexAddr t x ix=>match P.underlying t,bI x,bI ix with
  |some (.slice e),some y,some j=>(dG P e).map fun n=>.iaddr n y j
  |some (.array len e),some y,some j=>(dG P e).map fun n=>.iaddrA n len y j
  |_,_,_=>none
 |.index t x ix=>match P.underlying t,bI x,bI ix with
  |some (.array len e),some y,some j=>match loadT P e,dG P e with
   |some (agg,n),some m=>if n=m then some (.index agg n len y j)else none
   |_,_=>none
  |some .string,some y,some j=>some (.indexS y j)
  |_,_,_=>none
 |.lookup t x ix ok=>match P.underlying t,bI x,bI ix with
  |some (.map k e),some y,some j=>match gw P 40 k,P.underlying k with
   |some kt,some u=>(jl P e).map fun z=>.lookup z (iH u,kt) ok y j
   |_,_=>none
  |_,_,_=>none
 |.mapUpdate t m k v=>match P.underlying t,bI m,bI k,bI v with
  |some (.map kt _),some a,some b,some c=>match gw P 40 kt,P.underlying kt with
   |some l,some u=>some (.mapupd (iH u,l) a b c)
   |_,_=>none
  |_,_,_,_=>none
 |.extract x i=>(bI x).map fun y=>.extract y i
 |.call c=>JS P c slot
 |.makeInterface _ _=>some .fail
 |.panic _=>some .fail
 |_=>none
def kA.makes:kA->Bool
 |.newv ..=>true
 |.box ..=>true
 |.mslice ..=>true
 |.mkmap ..=>true
 |.call ..=>true
 |.append ..=>true
 |.mks ..=>true
 |_=>false
def kA.quiet:kA->Bool
 |.mov ..=>true
 |.nilchk ..=>true
 |.pick ..=>true
 |.build ..=>true
 |.bslice ..=>true
 |.bin ..=>true
 |.eqagg ..=>true
 |.eqb ..=>true
 |.eqp ..=>true
 |.eqs ..=>true
 |.un ..=>true
 |.conv ..=>true
 |.cstr ..=>true
 |.mkfn ..=>true
 |.slice ..=>true
 |.sliceS ..=>true
 |.faddr ..=>true
 |.field ..=>true
 |.iaddr ..=>true
 |.iaddrA ..=>true
 |.index ..=>true
 |.indexS ..=>true
 |.extract ..=>true
 |.mx ..=>true
 |.cap ..=>true
 |.fail=>true
 |_=>false
def bG.tmps:bG->List Nat
 |.tmp t=>[t]
 |.const _=>[]
def jI:Option bG->List Nat
 |some x=>x.tmps
 |none=>[]
def kA.tmps:kA->List Nat
 |.mov x=>x.tmps
 |.nilchk x=>x.tmps
 |.pick c a b=>c.tmps++a.tmps++b.tmps
 |.newv _ _=>[]
 |.box x _=>x.tmps
 |.build _ ps=>ps.flatMap (·.2.2.tmps)
 |.bslice _ _ _ ps=>ps.flatMap (·.2.2.tmps)
 |.mslice _ _ _ ps _=>ps.flatMap (·.2.2.tmps)
 |.load _ _ x=>x.tmps
 |.store _ x v=>x.tmps++v.tmps
 |.bin _ x y=>x.tmps++y.tmps
 |.eqagg _ _ x y=>x.tmps++y.tmps
 |.eqb _ x y=>x.tmps++y.tmps
 |.eqp _ x y=>x.tmps++y.tmps
 |.eqs _ x y=>x.tmps++y.tmps
 |.un _ x=>x.tmps
 |.conv _ x=>x.tmps
 |.cstr x=>x.tmps
 |.mkfn _ a b=>a.flatMap bG.tmps++b.flatMap bG.tmps
 |.mkmap _=>[]
 |.slice _ x lo hi m=>x.tmps++jI lo++jI hi++jI m
 |.sliceS x lo hi=>x.tmps++jI lo++jI hi
 |.faddr _ x=>x.tmps
 |.field _ _ _ x=>x.tmps
 |.iaddr _ x ix=>x.tmps++ix.tmps
 |.iaddrA _ _ x ix=>x.tmps++ix.tmps
 |.index _ _ _ x ix=>x.tmps++ix.tmps
 |.indexS x ix=>x.tmps++ix.tmps
 |.lookup _ _ _ x ix=>x.tmps++ix.tmps
 |.mapupd _ m k v=>m.tmps++k.tmps++v.tmps
 |.extract x _=>x.tmps
 |.call f xs _=>f.tmps++xs.flatMap bG.tmps
 |.append _ _ _ s x _=>s.tmps++x.tmps
 |.len _ x=>x.tmps
 |.mx _ x y=>x.tmps++y.tmps
 |.cap x=>x.tmps
 |.clr _ _ x=>x.tmps
 |.cpy _ x y=>x.tmps++y.tmps
 |.mks _ _ x y _=>x.tmps++y.tmps
 |.fail=>[]
def kA.mP:kA->Option Nat
 |.newv _ s=>some s
 |.box _ s=>some s
 |.mslice _ _ _ _ s=>some s
 |.mkmap s=>some s
 |.call _ _ s=>some s
 |.append _ _ _ _ _ s=>some s
 |.mks _ _ _ _ s=>some s
 |_=>none
def dc.reads(o:dc):List Nat:=o.op.tmps++(match o.guard with|some (j,_)=>[j]|none=>[])
def BN(a b:dc):Bool :=
 (match a.dst with|some x=>!b.reads.contains x&&b.dst != some x|none=>true) &&
 (match b.dst with|some x=>!a.reads.contains x|none=>true)
def qH(ops:Array Oper):Option (Nat×Bool)->Option (Option (Nat×Bool))
 |none=>some none
 |some (j,b)=>match (ops[j]?).bind (·.dst)with
  |some t=>some (some (t,b))
  |none=>none
def Mv(P:Program)(ops:Array Oper):List Oper->Nat->Option (List dc×Nat)
 |[],s=>some ([],s)
 |o::rest,s=>match Rj P o.op s,qH ops o.guard with
  |some op,some g=>match Mv P ops rest (if op.makes then s+1 else s)with
   |some (l,s')=>some (⟨o.dst,op,g,[]⟩::l,s')
   |none=>none
  |_,_=>none
def pairs(n:Nat):List (Nat×Nat):=(List.range n).flatMap fun i=>(List.range i).map fun j=>(j,i)
def X7(l:List dc)(j:Nat):List Nat:=match l[j]? with
 |some o=>o.op.mP.toList
 |none=>[]
def rW(x y:dc):Bool :=
 (match x.op.mP with|some s=>!y.vis.contains s&&y.op.mP != some s|none=>true) &&
 (match y.op.mP with|some s=>!x.vis.contains s|none=>true)
def mX(b:Array Nat)(o:Oper):Nat:=o.after.foldl (fun s e=>if Region.binds .any e then s ||| 2 ^ e.on ||| b.getD e.on 0 else s) 0
def tQ(b:Array Nat)(n:Nat):List (Nat×Nat):=(pairs n).filter fun ji=>!(b.getD ji.2 0).testBit ji.1
def iZ(b:Array Nat)(l:List dc):List dc:=l.mapIdx fun i o=>{ o with vis:=(List.range i).flatMap fun j=>if (b.getD i 0).testBit j then X7 l j else[] }
def adg(l:List dc)(ji:Nat×Nat):Bool:=match l[ji.1]?,l[ji.2]? with
 |some x,some y=>!x.op.quiet&&!y.op.quiet
 |_,_=>true
def tK(ops:Array Oper)(b:Array Nat)(l:List dc):Bool :=
 (tQ b l.length).all (fun ji=>match l[ji.1]?,l[ji.2]? with|some x,some y=>BN x y&&rW x y|_,_=>false) &&
 ops.toList.zipIdx.all fun oi=>oi.1.after.all (fun e=>!Region.binds .any e||decide (e.on<oi.2))&&b.getD oi.2 0==mX b oi.1
def GM(ops:Array Oper)(b:Array Nat)(l:List dc)(s:Nat):Option IC :=
 if tK ops b l then some (.region true s l ((tQ b l.length).filter (adg l)))else none
def rJ(P:Program)(ops:Array Oper)(drawn:Bool):Option IC :=
 match Mv P ops ops.toList 0 with
 |none=>none
 |some (l,s)=>if drawn then GM ops (CheckFast.beforeF ops) (iZ (CheckFast.beforeF ops) l) s else some (.region false s l [])
def kQ(P:Program):Code->Option IC
 |.skip=>some .skip
 |.region _ ops draw=>rJ P ops draw
 |.seq a b=>match kQ P a,kQ P b with
  |some x,some y=>some (.seq x y)
  |_,_=>none
 |.cond c a b=>match bI c,kQ P a,kQ P b with
  |some z,some x,some y=>some (.cond z x y)
  |_,_,_=>none
 |.block id a=>(kQ P a).map (.block id)
 |.loop a=>(kQ P a).map .loop
 |.exit id=>some (.exit id)
 |.ret=>some .ret
 |_=>none
def Mu(P:Program):ResultVar->Option nZ
 |.tmp t=>some (.tmp t)
 |.cell a t=>(loadT P t).map fun(agg,n)=>.cell agg n a
def cFn(P:Program)(fn:Func)(mode:Nat):Option jy :=
 if fn.name = "runtime.NumGoroutine" then none else
 match fn.body with
 |none=>none
 |some c=>match kQ P c,allM (Mu P) fn.results.toList with
  |some b,some r=>some ⟨fn.ntmps,r,b,mode⟩
  |_,_=>none
def dV(β:Pl)(W:World)(xs:List IV)(ys:List Value):Prop:=xs.length=ys.length/\∀(j:Nat)(x:IV)(y:Value),xs[j]?=some x->ys[j]?=some y->VR β W x y
def TR(β:Pl)(W:World)(t:List IV)(a:Array Value):Prop:=dV β W t a.toList
theorem dV.ext{β β':Pl}{W W':World}(e:Ext β W β' W'){xs:List IV}{ys:List Value}(h:dV β W xs ys):dV β' W' xs ys:=⟨h.1,fun j x y hx hy=>(h.2 j x y hx hy).ext e⟩
theorem TR.ext{β β':Pl}{W W':World}(e:Ext β W β' W'){t:List IV}{a:Array Value}(h:TR β W t a):TR β' W' t a:=dV.ext e h
theorem dV.nil{β:Pl}{W:World}:dV β W [] []:=⟨rfl,fun j x y hx=>by simp at hx⟩
theorem dV.cons{β:Pl}{W:World}{x:IV}{y:Value}{xs:List IV}{ys:List Value}(h:VR β W x y)(hs:dV β W xs ys):dV β W (x::xs) (y::ys) :=
 ⟨by simp [hs.1],fun j a b ha hb=>by
  cases j with
  |zero=>simp at ha hb;rw[←ha,←hb];exact h
  | succ j=>simp at ha hb; exact hs.2 j a b ha hb⟩
theorem dV.append{β:Pl}{W:World}{xs xs':List IV}{ys ys':List Value}(h:dV β W xs ys)(hs:dV β W xs' ys'):dV β W (xs++xs') (ys++ys') :=
 ⟨by simp [h.1,hs.1],fun j a b ha hb=>by
  by_cases hj:j<xs.length
  ·rw[gT hj]at ha;rw[gT (h.1▸hj)]at hb;exact h.2 j a b ha hb
  ·rw[jd (zl7 hj)]at ha;rw[jd (h.1▸zl7 hj),←h.1]at hb;exact hs.2 _ a b ha hb⟩
theorem dV.get{β:Pl}{W:World}{xs:List IV}{ys:List Value}(h:dV β W xs ys){j:Nat}{x:IV}(hx:xs[j]?=some x):∃ y,ys[j]?=some y/\VR β W x y:=by have hj:j<ys.length:=h.1▸(cU.1 hx).1;exact⟨ys[j],cK hj,h.2 j x _ hx (cK hj)⟩
theorem dV.drop{β:Pl}{W:World}{xs:List IV}{ys:List Value}(h:dV β W xs ys)(n:Nat):dV β W (xs.drop n) (ys.drop n) :=
 ⟨by simp[h.1],fun j a b ha hb=>by rw[Sz]at ha hb;exact h.2 _ a b ha hb⟩
theorem dV.take{β:Pl}{W:World}{xs:List IV}{ys:List Value}(h:dV β W xs ys)(n:Nat):dV β W (xs.take n) (ys.take n) :=
 ⟨by simp [h.1],fun j a b ha hb=>by
  rw[Fq]at ha hb;split at ha
  ·rename_i hj;rw[bt hj]at hb;exact h.2 _ a b ha hb
  ·simp at ha⟩
theorem dV.set{β:Pl}{W:World}{xs:List IV}{ys:List Value}(h:dV β W xs ys){x:IV}{y:Value}(hv:VR β W x y)(i:Nat):dV β W (xs.set i x) (ys.set i y) :=
 ⟨by simp [h.1],fun j a b ha hb=>by
  rw[SO]at ha hb;by_cases hij:i=j
  ·subst hij;simp only[if_true]at ha hb;split at ha
   ·split at hb
    ·cases ha;cases hb;exact hv
    ·simp at hb
   ·simp at ha
  ·rw[bC hij]at ha hb;exact h.2 j a b ha hb⟩
theorem zax{β:Pl}{W:World}:VR β W (.tuple []) undef:=.tuple rfl (fun j x y hx=>by simp at hx)
theorem zeb{β:Pl}{W:World}{xs:List IV}{ys:List Value}(h:dV β W xs ys):VR β W (.agg xs) (.agg ys.toArray):=.agg (by simp[h.1]) (fun j x y hx hy=>h.2 j x y hx (by simpa using hy))
theorem zay{β:Pl}{W:World}{xs:List IV}{ws:Array Value}(n:xs.length=ws.size)(h:∀(j:Nat)(x:IV)(y:Value),xs[j]?=some x->ws[j]?=some y->VR β W x y):dV β W xs ws.toList :=
 ⟨by simp[n],fun j x y hx hy=>h j x y hx (by simpa using hy)⟩
theorem zQ{β:Pl}{W:World}{v:IV}{x:Value}(h:VR β W v x):dV β W v.cells x.cells.toList:=by
 cases h with
 |agg n h=>exact zay n h
 |_=>exact .cons (by first|exact .bool _|exact .int _ _|exact .str _|exact .eo|exact .ptrM ‹_›|exact .nilsl|exact .eT|exact .l9|exact .mapM ‹_›|(constructor<;>assumption)) .nil
theorem Y0{β:Pl}{W:World}{v:IV}{x:Value}(h:VR β W v x)(hs:v.scalar=true):x.oneCell'=true:=by cases h<;>first|rfl|(simp[IV.scalar]at hs)
theorem yY{β:Pl}{W:World}{xs:List IV}{ys:List Value}(h:dV β W xs ys)(hs:xs.all IV.scalar=true):∀ y∈ys,y.oneCell'=true:=by intro y hy;obtain⟨j,hj,rfl⟩:=SB.1 hy;have hj':j<xs.length:=h.1▸hj;have hx:xs[j]?=some xs[j]:=cK hj';exact Y0 (h.2 j _ _ hx (cK hj)) (ot.1 hs _ (gU _))
theorem HX{β:Pl}{W:World}{v:Value}{x:IV}(h:NO v=some x):VR β W x v:=by unfold NO at h;split at h<;>first|(cases h;first|exact .bool _|exact .int _ _|exact .str _|exact .eo|exact .nilsl|exact .eT|exact .l9)|(simp at h)
theorem Z5{α γ:Type}{f:α->Option γ}:∀{l:List α}{r:List γ},allM f l=some r->r.length=l.length/\∀(j:Nat)(x:α),l[j]?=some x->∃ y,r[j]?=some y/\f x=some y
 |[],r,h=>by simp only[allM,fZ]at h;subst h;exact⟨rfl,fun j x hx=>by simp at hx⟩
 |x::xs,r,h=>by
  simp only[allM]at h;split at h
  ·rename_i y ys hy hys;cases h;obtain⟨h1,h2⟩:=Z5 hys;refine⟨by simp[h1],fun j z hz=>?_⟩;cases j with
   |zero=>simp at hz;subst hz;exact⟨y,rfl,hy⟩
   |succ j=>simp at hz;simpa using h2 j z hz
  ·simp at h
theorem NJ{β:Pl}{W:World}{v:Value}{x:IV}(h:toI v=some x):VR β W x v:=by
 unfold toI at h;split at h
 ·rename_i cs;cases hl:allM NO cs.toList with
  |none=>rw[hl]at h;simp at h
  |some l =>
   rw[hl]at h
   cases h
   obtain⟨h1,h2⟩:=Z5 hl
   refine .agg (by simpa using h1) fun j a b ha hb=>?_
   obtain⟨y,hy,hf⟩:=h2 j b (by simpa using hb)
   rw[ha]at hy;cases hy
   exact HX hf
 ·exact HX h
theorem TR.get{β:Pl}{W:World}{t:List IV}{a:Array Value}(h:TR β W t a)(i:Nat):VR β W (t.getD i (.tuple [])) (a.getD i undef):=by
 by_cases hi:i<t.length
 ·have hi':i<a.size:=by have:=h.1;simp at this;omega
  have:=h.2 i t[i] a[i] (cK hi) (by simp[hi']);simpa[List.getD,hi,hi']using this
 ·have hi':¬ i<a.size:=by have:=h.1;simp at this;omega
  simpa[List.getD,hi,hi',BZ (zl7 hi)]using zax
theorem TR.eval{β:Pl}{W:World}{t:List IV}{a:Act}(h:TR β W t a.tmps){x:Operand}{y:bG}(hx:bI x=some y):VR β W (ρ t y) (a.eval x):=by
 cases x with
 |tmp i=>simp only[bI,fZ]at hx;subst hx;rw[ρahs];exact h.get i
 |const v =>
  simp only[bI]at hx
  cases hv:toI v with
  |none=>rw[hv]at hx;simp at hx
  |some z=>rw[hv]at hx;cases hx;exact NJ hv
 |func f=>simp only[bI,fZ]at hx;subst hx;exact .fn rfl rfl (fun j x y hx=>by simp at hx) (fun j x y hx=>by simp at hx)
 |global g=>simp[bI]at hx
theorem TR.put{β:Pl}{W:World}{t:List IV}{a:Act}(h:TR β W t a.tmps){v:IV}{x:Value}(hv:VR β W v x)(dst:Option Nat):TR β W (put t dst v) (a.put dst x).tmps:=by
 cases dst with
 |none=>exact h
 |some i =>
  rw[yd]
  show dV β W (t.set i v) (a.tmps.setIfInBounds i x).toList
  rw[zny]
  exact dV.set h hv i
theorem zec:∀{n:Nat}{c:List IV}{off:Nat}{xs:List IV},bM c off n=some xs->xs.length=n/\∀ j,j<n->xs[j]?=c[off+j]?
 |0,c,off,xs,h=>by simp only[bM,fZ]at h;subst h;exact⟨rfl,fun j hj=>absurd hj Ω⟩
 |n+1,c,off,xs,h=>by
  simp only[bM]at h;cases hc:c[off]? with
  |none=>rw[hc]at h;simp at h
  |some x =>
   rw[hc]at h
   cases hr:bM c (off+1) n with
   |none=>rw[hr]at h;simp at h
   |some ys =>
    rw[hr]at h;cases h
    obtain⟨h1,h2⟩:=zec hr
    refine⟨by simp[h1],fun j hj=>?_⟩
    cases j with
    |zero=>simp[hc]
    |succ j=>simp only[jP];rw[h2 j Ω];congr 1;omega
def At(β:Pl)(W:World)(c:List IV)(off:Nat)(a:Addr):Prop:=a.spot=none/\∀(j:Nat)(z:IV),c[off+j]?=some z->∃ y,W.cell? ⟨a.block,a.off+j,none⟩=some y/\VR β W z y
theorem JX{β:Pl}{W:World}{get:Nat->Nat->Option aO}(hR:RS β get W){l i off:Nat}{c:List IV}{x:Value}(h:VR β W (.ptrM l i off) x)(hg:get l i=some (.cells c)):∃ a,x=.pointer (some a)/\At β W c off a:=by
 cases h with
 |@ptrM _ _ _ k s hb =>
  refine⟨_,rfl,rfl,fun j z hz=>?_⟩
  obtain⟨c',ty,hh,hc⟩:=hR.obj _ _ _ _ _ hb hg
  obtain⟨y,hy,hv⟩:=hc _ z hz
  refine⟨y,?_,hv⟩
  simp only[World.cell?,hh,SQ,l7,if_false]
  rw[←hy];congr 1;omega
theorem Vc{β:Pl}{W:World}{off:Nat}{c:List IV}{x:Value}(h:VR β W (.ptrC c off) x):∃ a,x=.pointer (some a)/\At β W c off a:=by
 cases h with
 |@ptrC _ _ k s f hk hc hv =>
  refine⟨_,rfl,rfl,fun j z hz=>?_⟩
  exact⟨f (off+j),by have:=hc _ z hz;rw[←this];congr 2;show off+s+j=_;omega,hv _ z hz⟩
theorem Zj{a:Addr}(h:a.spot=none)(j:Nat):a.add j=⟨a.block,a.off+j,none⟩:=by
 unfold Addr.add;split
 ·rename_i hj;subst hj;cases a;simp at h;simp[h]
 ·rfl
theorem yZ{P:Program}{t:TypeId}{u:TypeDesc}(h:P.underlying t=some u)(W:World):(isAgg t).run P W=.ok (iH u) W:=by cases u<;>simp[isAgg,run_underlying h,iH]
theorem yb{P:Program}{t:TypeId}{n:Nat}(h:dG P t=some n)(W:World):(sizeOf t).run P W=.ok n W:=by
 unfold dG at h;cases hi:P.info? t with
 |none=>rw[hi]at h;simp at h
 |some i=>rw[hi]at h;cases h;simp[sizeOf,typeInfo,hi]
theorem Dk{xs:List IV}{v:IV}(h:mg true xs=some v):v=.agg xs:=by simpa[mg,eq_comm]using h
theorem wh{xs:List IV}{v:IV}(h:mg false xs=some v):xs=[v]:=by
 unfold mg at h;simp only[l7,if_false]at h;split at h
 ·cases h;rfl
 ·simp at h
theorem At.cells{β:Pl}{W:World}{c:List IV}{off:Nat}{a:Addr}(h:At β W c off a){n:Nat}{xs:List IV}(hr:∀ j x,xs[j]?=some x->c[off+j]?=some x)(hn:xs.length=n) :
  ∃ ys:List Value,ys.length=n/\dV β W xs ys/\∀ j y,ys[j]?=some y->W.cell? (a.add j)=some y:=by
 induction xs generalizing off a n with
 |nil=>subst hn;exact⟨[],rfl,.nil,fun j y hy=>by simp at hy⟩
 |cons x xs ih =>
  obtain⟨y,hy,hv⟩:=h.2 0 x (hr 0 x rfl)
  have h':At β W c (off+1) ⟨a.block,a.off+1,none⟩:=⟨rfl,fun j z hz=>by
   obtain⟨y,hy,hv⟩:=h.2 (j+1) z (by rw[←hz];congr 1;omega);exact ⟨y,by rw [← hy]; congr 2; show a.off+1+j=_; omega,hv⟩⟩
  obtain⟨ys,h1,h2,h3⟩:=ih h' (n:=xs.length) (fun j z hz=>by rw[show off+1+j=off+(j+1) by omega];exact hr (j+1) z (by simpa using hz)) rfl
  refine⟨y::ys,by simp[h1,←hn],.cons hv h2,fun j z hz=>?_⟩
  cases j with
  |zero=>simp at hz;subst hz;rw[Zj h.1];exact hy
  |succ j =>
   simp at hz
   have:=h3 j z hz
   rw[Zj rfl]at this
   rw[Zj h.1,←this];congr 2;show a.off+(j+1)=a.off+1+j;omega
theorem Dn{P:Program}{β:Pl}{W:World}{t:TypeId}{agg:Bool}{n off:Nat}{c:List IV}{a:Addr}{v:IV}(hl:loadT P t=some (agg,n))(h:At β W c off a)(hr:(bM c off n).bind (mg agg)=some v) :
  ∃ x,(loadVar t a).run P W=.ok x W/\VR β W v x:=by
 unfold loadT at hl
 cases hu:P.underlying t with
 |none=>rw[hu]at hl;simp at hl
 |some u =>
  cases hs:dG P t with
  |none=>rw[hu,hs]at hl;simp at hl
  |some n0 =>
   rw[hu,hs]at hl
   dsimp only at hl
   cases hx:bM c off n with
   |none=>rw[hx]at hr;simp at hr
   |some xs =>
    rw[hx]at hr
    simp only[jG]at hr
    obtain⟨h1,h2⟩:=zec hx
    have hr':∀ j x,xs[j]?=some x->c[off+j]?=some x:=fun j x hj=>by rw[←h2 j (h1▸(cU.1 hj).1)];exact hj
    obtain⟨ys,e1,e2,e3⟩:=h.cells hr' h1
    cases ha:iH u with
    |true =>
     rw[ha]at hl
     simp only[if_true,fZ,qN]at hl
     obtain⟨rfl,rfl⟩:=hl
     rw[Dk hr]
     have hc:=run_loadCells_list (P:=P) W a ys e3
     rw[e1]at hc
     refine⟨.agg ys.toArray,?_,zeb e2⟩
     simp[loadVar,yZ hu,ha,yb hs,hc]
    |false =>
     rw[ha]at hl
     simp only[l7,if_false,fZ,qN]at hl
     obtain⟨rfl,rfl⟩:=hl
     have hxs:=wh hr
     subst hxs
     obtain⟨y,rfl⟩:∃ y,ys=[y]:=by
      cases ys with
      |nil=>simp at e1
      |cons y ys=>cases ys with
       |nil=>exact⟨y,rfl⟩
       |cons _ _=>simp at e1
     refine⟨y,?_,e2.2 0 v y rfl rfl⟩
     have:=e3 0 y rfl
     rw[Zj h.1]at this
     have ha0:(⟨a.block,a.off+0,none⟩:Addr)=a:=by cases a;have:=h.1;simp at this;simp[this]
     rw[ha0]at this
     simp[loadVar,yZ hu,ha,run_load,this]
theorem yf{d:Nat}{ah:bR}{aa:aU}(i:Nat):look d ah aa d i=aa[i]?:=by simp[look]
theorem zV{d:Nat}{ah:bR}{aa:aU}{i:Nat}{o o0:aO}(h:aa[i]?=some o0):look d ah (aa.set i o) d i=some o:=by rw[yf,SO];have:=(cU.1 h).1;simp[this]
theorem zR{d:Nat}{ah:bR}{aa:aU}{i:Nat}{o:aO}{l j:Nat}(h:¬ (l=d/\j=i)):look d ah (aa.set i o) l j=look d ah aa l j:=by
 unfold look;split
 ·rename_i hl;rw[SO,bC (fun e=>h ⟨hl,e.symm⟩)]
 ·rfl
theorem OR.ext{β β':Pl}{W W':World}{k s:Nat}{o:aO}(h:OR β W k s o)(e:Ext β W β' W')(hk:W'.heap[k]?=W.heap[k]?):OR β' W' k s o:=by
 cases o with
 |free=>exact h
 |gone=>exact h
 |cells c =>
  obtain⟨c',t,h1,h2⟩:=h
  exact⟨c',t,hk.trans h1,fun j x hx=>let⟨y,hy,hv⟩:=h2 j x hx;⟨y,hy,hv.ext e⟩⟩
 |map ks vs bs clock =>
  obtain⟨es,h1,h2,h3,h4,h5⟩:=h
  exact⟨es,hk.trans h1,h2,h3,h4,fun j en he=>let⟨a,b,c⟩:=h5 j en he;⟨fun x hx=>(a x hx).ext e,fun x hx=>(b x hx).ext e,c⟩⟩
def upd(β:Pl)(d id:Nat)(p:Nat×Nat):Pl:=fun l i=>if l=d/\i=id then some p else β l i
theorem zU(β:Pl)(d id:Nat)(p:Nat×Nat):upd β d id p d id=some p:=by simp[upd]
theorem y3{β:Pl}{d id:Nat}{p:Nat×Nat}{l i:Nat}(h:¬ (l=d/\i=id)):upd β d id p l i=β l i:=by simp[upd,h]
theorem RS.free{β:Pl}{get:Nat->Nat->Option aO}{W:World}(h:RS β get W){l i:Nat}(hg:get l i=some .free):β l i=none:=by
 cases hb:β l i with
 |none=>rfl
 |some p=>exact(h.obj l i p.1 p.2 .free hb hg).elim
theorem zed{d:Nat}{ah:bR}{aa:aU}{β:Pl}{W W':World}{id k s:Nat}{o:aO}(hR:RS β (look d ah aa) W)(hf:aa[id]?=some .free)
  (hk:∀ l i s' o',β l i=some (k,s')->look d ah aa l i=some o'->o'.live=true->False) (hkd:W.heap.size<=k∨∃ i s',β d i=some (k,s'))
  (hW:∀ k2,k2≠k->k2<W.heap.size->W'.heap[k2]?=W.heap[k2]?) (hs:W.heap.size<=W'.heap.size) (hk':k<W'.heap.size)
  (hrow:∀(c:Array Value)(t:TypeId)(f:Nat×Nat),W.heap[k]?=some (.cells c t f)->∃ c2,W'.heap[k]?=some (.cells c2 t f)/\c2.size=c.size) (h1:W'.os=W.os) (h2:W'.tape=W.tape) (h3:W'.output=W.output)
  (hO:Ext β W (upd β d id (k,s)) W'->OR (upd β d id (k,s)) W' k s o) :
  RS (upd β d id (k,s)) (look d ah (aa.set id o)) W'/\Fr d β W (upd β d id (k,s)) W':=by
 have hfree:β d id=none:=hR.free (by rw[yf];exact hf)
 have hF:Fr d β W (upd β d id (k,s)) W' :=
  {keep:=fun l i p hb=>by rw[y3 (fun h=>by rw[h.1,h.2,hfree]at hb;simp at hb)];exact hb
   fresh:=fun l i k' s' hb=>by
    by_cases h:l=d/\i=id
    ·rw[h.1,h.2,zU]at hb;cases hb;exact .inr ⟨h.1,hkd.elim (fun h=>.inr h) (fun⟨i',s',h⟩=>.inl ⟨i',s',h⟩)⟩
    ·rw[y3 h]at hb;exact .inl hb
   block:=fun k2 hk2 hn=>by
    refine hW k2 (fun e=>?_) hk2;subst e;rcases hkd with h|⟨i',s',h⟩
    ·omega
    ·exact hn _ _ h
   size:=hs,os:=h1,tape:=h2,output:=h3
   rows:=fun k2 c t f hc=>by
    by_cases e:k2=k
    ·subst e;exact hrow c t f hc
    ·exact ⟨c,(hW k2 e (Fb.1 hc).1).trans hc,rfl⟩ }
 refine⟨?_,hF⟩
 have old:∀{l i o'},¬ (l=d/\i=id)->look d ah (aa.set id o) l i=some o'->look d ah aa l i=some o':=fun h hg=>by rwa [zR h]at hg
 constructor
 ·intro l i k2 s2 o2 hb hg
  by_cases h:l=d/\i=id
  ·obtain⟨rfl,rfl⟩:=h
   rw[zU]at hb;cases hb
   rw[zV hf]at hg;cases hg
   exact hO hF.ext
  ·rw[y3 h]at hb
   rw[zR h]at hg
   by_cases hl:o2.live=true
   ·exact(hR.obj _ _ _ _ _ hb hg).ext hF.ext (hW k2 (fun e=>hk _ _ _ _ (e▸hb) hg hl) (hR.here _ _ _ _ hb))
   ·cases o2 with
    |free=>exact hR.obj _ _ _ _ _ hb hg
    |gone=>trivial
    |cells _=>exact absurd rfl hl
    |map _ _ _ _=>exact absurd rfl hl
 ·intro l i l' i' k2 s2 s2' o1 o2 hb hb' hg hg' hl hl'
  by_cases h:l=d/\i=id
  ·by_cases h':l'=d/\i'=id
   ·exact⟨h.1.trans h'.1.symm,h.2.trans h'.2.symm⟩
   ·rw[h.1,h.2,zU]at hb;cases hb
    rw[y3 h']at hb'
    exact(hk _ _ _ _ hb' (old h' hg') hl').elim
  ·by_cases h':l'=d/\i'=id
   ·rw[h'.1,h'.2,zU]at hb';cases hb'
    rw[y3 h]at hb
    exact(hk _ _ _ _ hb (old h hg) hl).elim
   ·rw[y3 h]at hb
    rw[y3 h']at hb'
    exact hR.one _ _ _ _ _ _ _ _ _ hb hb' (old h hg) (old h' hg') hl hl'
 ·intro l i k2 s2 hb
  by_cases h:l=d/\i=id
  ·rw[h.1,h.2,zU]at hb;cases hb;exact hk'
  ·rw[y3 h]at hb;exact XE (hR.here _ _ _ _ hb) hs
 ·intro l i o2 hg hl
  by_cases h:l=d/\i=id
  ·exact⟨_,by rw[h.1,h.2];exact zU _ _ _ _⟩
  ·rw[y3 h];exact hR.has _ _ _ (old h hg) hl
 ·intro l i p hb
  by_cases h:l=d/\i=id
  ·exact⟨o,by rw[h.1,h.2];exact zV hf⟩
  ·rw[y3 h]at hb;rw[zR h];exact hR.dom _ _ _ hb
theorem zee{d:Nat}{ah:bR}{aa:aU}{β:Pl}{W W':World}{i k s:Nat}{o o0:aO}(hR:RS β (look d ah aa) W)(hi:aa[i]?=some o0)(hl:o0.live=true)(hb:β d i=some (k,s))
  (hW:∀ k2,k2≠k->W'.heap[k2]?=W.heap[k2]?) (hs:W'.heap.size=W.heap.size)
  (hrow:∀(c:Array Value)(t:TypeId)(f:Nat×Nat),W.heap[k]?=some (.cells c t f)->∃ c2,W'.heap[k]?=some (.cells c2 t f)/\c2.size=c.size) (h1:W'.os=W.os) (h2:W'.tape=W.tape) (h3:W'.output=W.output)
  (hO:Ext β W β W'->OR β W' k s o) (hlo:o.live=true):RS β (look d ah (aa.set i o)) W'/\Fr d β W β W':=by
 have hF:Fr d β W β W':=⟨fun _ _ _ h=>h,fun _ _ _ _ h=>.inl h,fun k2 _ hn=>hW k2 (fun e=>hn i s (e ▸ hb)),Nat.le_of_eq hs.symm,fun k2 c t f hc=>(by
   by_cases e:k2=k
   ·subst e;exact hrow c t f hc
   ·exact ⟨c,(hW k2 e).trans hc,rfl⟩),h1,h2,h3⟩
 refine⟨?_,hF⟩
 have gi:look d ah aa d i=some o0:=by rw[yf];exact hi
 constructor
 ·intro l j k2 s2 o2 fG hg
  by_cases h:l=d/\j=i
  ·obtain⟨rfl,rfl⟩:=h
   rw[hb]at fG;cases fG
   rw[zV hi]at hg;cases hg
   exact hO hF.ext
  ·rw[zR h]at hg
   by_cases jD:o2.live=true
   ·refine(hR.obj _ _ _ _ _ fG hg).ext hF.ext (hW k2 (fun e=>?_))
    subst e
    exact h (hR.one _ _ _ _ _ _ _ _ _ fG hb hg gi jD hl)
   ·cases o2 with
    |free=>exact hR.obj _ _ _ _ _ fG hg
    |gone=>trivial
    |cells _=>exact absurd rfl jD
    |map _ _ _ _=>exact absurd rfl jD
 ·intro l j l' j' k2 s2 s2' o1 o2 j8 fG hg hg' om jD
  have fix:∀{l j o'},look d ah (aa.set i o) l j=some o'->o'.live=true->∃ o'',look d ah aa l j=some o''/\o''.live=true:=fun{l j o'} hg hl'=>by
   by_cases h:l=d/\j=i
   ·exact⟨o0,by rw[h.1,h.2];exact gi,hl⟩
   ·rw[zR h]at hg;exact⟨_,hg,hl'⟩
  obtain⟨a,ha,hla⟩:=fix hg om
  obtain⟨b,hb',hlb⟩:=fix hg' jD
  exact hR.one _ _ _ _ _ _ _ _ _ j8 fG ha hb' hla hlb
 ·intro l j k2 s2 fG;rw[hs];exact hR.here _ _ _ _ fG
 ·intro l j o2 hg jD
  by_cases h:l=d/\j=i
  ·exact⟨_,by rw[h.1,h.2];exact hb⟩
  ·rw[zR h]at hg;exact hR.has _ _ _ hg jD
 ·intro l j p fG
  by_cases h:l=d/\j=i
  ·exact⟨o,by rw[h.1,h.2];exact zV hi⟩
  ·rw[zR h];exact hR.dom _ _ _ fG
theorem Ao{d:Nat}{ah:bR}{aa:aU}{β:Pl}{W:World}{i:Nat}{o0:aO}(hR:RS β (look d ah aa) W)(hi:aa[i]?=some o0):RS β (look d ah (aa.set i .gone)) W:=by
 have old:∀{l j o'},look d ah (aa.set i .gone) l j=some o'->o'.live=true->look d ah aa l j=some o':=fun{l j o'} hg hl=>by
  by_cases h:l=d/\j=i
  ·rw[h.1,h.2,zV hi]at hg;cases hg;simp[aO.live]at hl
  ·rwa [zR h]at hg
 constructor
 ·intro l j k2 s2 o2 hb hg;by_cases h:l=d/\j=i
  ·rw[h.1,h.2,zV hi]at hg;cases hg;trivial
  ·rw[zR h]at hg;exact hR.obj _ _ _ _ _ hb hg
 ·intro l j l' j' k2 s2 s2' o1 o2 j8 fG hg hg' om jD;exact hR.one _ _ _ _ _ _ _ _ _ j8 fG (old hg om) (old hg' jD) om jD
 ·exact hR.here
 ·intro l j o2 hg hl;exact hR.has _ _ _ (old hg hl) hl
 ·intro l j p hb;by_cases h:l=d/\j=i
  ·exact⟨.gone,by rw[h.1,h.2];exact zV hi⟩
  ·rw[zR h];exact hR.dom _ _ _ hb
theorem RS.same{get:Nat->Nat->Option aO}{β:Pl}{W W':World}(hR:RS β get W)(h:W'.heap=W.heap):RS β get W':=by have e:Ext β W β W':=⟨fun _ _ _ h=>h,fun l i k s h=>.inl ⟨l,i,s,h⟩,fun k _ _=>by rw[h],by rw[h];exact dz _,fun k c t f hc=>⟨c,by rw[h];exact hc,rfl⟩⟩;exact⟨fun l i k s o hb hg=>(hR.obj l i k s o hb hg).ext e (by rw[h]),hR.one,fun l i k s hb=>by rw[h];exact hR.here l i k s hb,hR.has,hR.dom⟩
theorem RS.old{get:Nat->Nat->Option aO}{β:Pl}{W W':World}(hR:RS β get W)(h:∀ k,k<W.heap.size->W'.heap[k]?=W.heap[k]?)(hs:W.heap.size<=W'.heap.size):RS β get W':=by have e:Ext β W β W':=⟨fun _ _ _ h=>h,fun l i k s h=>.inl ⟨l,i,s,h⟩,fun k hk _=>h k hk,hs,fun k c t f hc=>⟨c,(h k (Fb.1 hc).1).trans hc,rfl⟩⟩;exact⟨fun l i k s o hb hg=>(hR.obj l i k s o hb hg).ext e (h k (hR.here _ _ _ _ hb)),hR.one,fun l i k s hb=>XE (hR.here l i k s hb) hs,hR.has,hR.dom⟩
theorem RS.more{d:Nat}{ah:bR}{aa:aU}{β:Pl}{W:World}(hR:RS β (look d ah aa) W)(n:Nat):RS β (look d ah (aa++List.replicate n .free)) W:=by
 have cas:∀{l i o},look d ah (aa++List.replicate n .free) l i=some o->look d ah aa l i=some o∨(o=.free/\look d ah aa l i=none):=fun{l i o} hg=>by
  unfold look at hg ⊢;split at hg
  ·rename_i hl;rw[bt hl];by_cases hi:i<aa.length
   ·rw[gT hi]at hg;exact .inl hg
   ·rw[jd (zl7 hi)]at hg;rw[zn9]at hg;split at hg
    ·cases hg;exact .inr ⟨rfl,BZ (zl7 hi)⟩
    ·simp at hg
  ·rename_i hl;rw[bC hl];exact .inl hg
 constructor
 ·intro l i k s o hb hg;rcases cas hg with hg|⟨rfl,hn⟩
  ·exact hR.obj _ _ _ _ _ hb hg
  ·obtain⟨o',ho'⟩:=hR.dom _ _ _ hb;rw[hn]at ho';simp at ho'
 ·intro l i l' i' k s s' o o' hb hb' hg hg' hl hl';rcases cas hg with hg|⟨rfl,_⟩
  ·rcases cas hg' with hg'|⟨rfl,_⟩
   ·exact hR.one _ _ _ _ _ _ _ _ _ hb hb' hg hg' hl hl'
   ·simp[aO.live]at hl'
  ·simp[aO.live]at hl
 ·exact hR.here
 ·intro l i o hg hl;rcases cas hg with hg|⟨rfl,_⟩
  ·exact hR.has _ _ _ hg hl
  ·simp[aO.live]at hl
 ·intro l i p hb;obtain⟨o,ho⟩:=hR.dom _ _ _ hb;refine⟨o,?_⟩;unfold look at ho ⊢;split
  ·rename_i hl;rw[bt hl]at ho;rw[gT (cU.1 ho).1];exact ho
  ·rename_i hl;rw[bC hl]at ho;exact ho
section
variable {β:Pl} {W:World} {x:Value}
theorem Z6{b:Bool}(h:VR β W (.bool b) x):x=.bool b:=by cases h;rfl
theorem YD{k:IntKind}{n:Int}(h:VR β W (.int k n) x):x=.int k n:=by cases h;rfl
theorem HO{s:ByteArray}(h:VR β W (.str s) x):x=.string s:=by cases h;rfl
theorem Yl(h:VR β W .eo x):x=.pointer none:=by cases h;rfl
theorem XP{l i off:Nat}(h:VR β W (.ptrM l i off) x):∃ k s,β l i=some (k,s)/\x=.pointer (some ⟨k,off+s,none⟩):=by cases h with|ptrM h=>exact⟨_,_,h,rfl⟩
theorem OT{cs:List IV}{off:Nat}(h:VR β W (.ptrC cs off) x):∃ k s,x=.pointer (some ⟨k,off+s,none⟩):=by cases h with|ptrC f hk hc hv=>exact⟨_,_,rfl⟩
theorem F5{cs:List IV}{off:Nat}(h:VR β W (.ptrC cs off) x):∃ k s,jO β W k/\(∀(j:Nat)(z:IV),cs[j]?=some z->∃ y,W.cell? ⟨k,s+j,none⟩=some y/\VR β W z y)/\x=.pointer (some ⟨k,off+s,none⟩):=by cases h with|ptrC f hk hc hv=>exact⟨_,_,hk,fun j z hz=>⟨f j,by rw[qv];exact hc j z hz,hv j z hz⟩,rfl⟩
theorem yL(h:VR β W .nilsl x):x=.slice none 0 0:=by cases h;rfl
theorem FK{l i off len cap sz:Nat}{tight:Bool}(h:VR β W (.slM l i off len cap sz tight) x):∃ k s o' cap',β l i=some (k,s)/\(cap=0∨o'=off+s)/\len<=cap/\cap<=cap'/\(tight=true->cap'=cap)/\x=.slice (some ⟨k,o',none⟩) len cap':=by cases h with|slM h ho hl hc ht hr=>exact⟨_,_,_,_,h,ho,hl,hc,ht,rfl⟩
theorem XO{l i off len cap sz:Nat}{tight:Bool}(h:VR β W (.slM l i off len cap sz tight) x):∃ k s o' cap',β l i=some (k,s)/\(cap=0∨o'=off+s)/\len<=cap/\cap<=cap'/\(tight=true->cap'=cap)/\Room W k (o'+cap'*sz)/\x=.slice (some ⟨k,o',none⟩) len cap':=by cases h with|slM h ho hl hc ht hr=>exact⟨_,_,_,_,h,ho,hl,hc,ht,hr,rfl⟩
theorem xW{cs:List IV}{len sz:Nat}{tight:Bool}(h:VR β W (.slC cs len sz tight) x):∃ k s cap' ad,(len≠0->jO β W k)/\(∀(j:Nat)(z:IV),cs[j]?=some z->∃ y,W.cell? ⟨k,s+j,none⟩=some y/\VR β W z y)/\cs.length=len*sz/\len<=cap' /\
  (tight=true->cap'=len)/\(len≠0->ad=⟨k,s,none⟩)/\x=.slice (some ad) len cap':=by
 cases h with|slC f hk hc hv hn hl ht ha=>exact⟨_,_,_,_,hk,fun j z hz=>⟨f j,by rw[qv];exact hc j z hz,hv j z hz⟩,hn,hl,ht,ha,rfl⟩
theorem AP(h:VR β W .eT x):x=.map none:=by cases h;rfl
theorem I6{l i:Nat}(h:VR β W (.mapM l i) x):∃ k s,β l i=some (k,s)/\x=.map (some k):=by cases h with|mapM h=>exact⟨_,_,h,rfl⟩
theorem fnI{f:FuncId}{c1 c2:List IV}(h:VR β W (.fn f c1 c2) x):∃ a b:Array Value,dV β W c1 a.toList/\dV β W c2 b.toList/\x=.func (.func f) a b:=by cases h with|fn n1 n2 h1 h2=>exact⟨_,_,zay n1 h1,zay n2 h2,rfl⟩
theorem BO{cs:List IV}(h:VR β W (.agg cs) x):∃ ws:Array Value,dV β W cs ws.toList/\x=.agg ws:=by cases h with|agg n h=>exact⟨_,zay n h,rfl⟩
theorem FD{cs:List IV}(h:VR β W (.tuple cs) x):∃ ws:Array Value,dV β W cs ws.toList/\x=.tuple ws:=by cases h with|tuple n h=>exact⟨_,zay n h,rfl⟩
theorem za0{cs:List IV}{len sz:Nat}{tight:Bool}{k s cap':Nat}{ad:Addr}(hk:len≠0->jO β W k)(hc:∀(j:Nat)(z:IV),cs[j]?=some z->∃ y,W.cell? ⟨k,s+j,none⟩=some y/\VR β W z y)(hn:cs.length=len*sz)(hl:len<=cap')(ht:tight=true->cap'=len)
  (ha:len≠0->ad=⟨k,s,none⟩):VR β W (.slC cs len sz tight) (.slice (some ad) len cap'):=by
 refine .slC (fun j=>(W.cell? ⟨k,s+j,none⟩).getD undef) hk (fun j z hz=>?_) (fun j z hz=>?_) hn hl ht ha
 ·obtain⟨y,hy,_⟩:=hc j z hz;rw[qv j s,hy];rfl
 ·obtain⟨y,hy,hv⟩:=hc j z hz;rw[hy];exact hv
theorem FL{cs:List IV}{len sz:Nat}{tight:Bool}{k s cap':Nat}(hk:len≠0->jO β W k)(hc:∀(j:Nat)(z:IV),cs[j]?=some z->∃ y,W.cell? ⟨k,s+j,none⟩=some y/\VR β W z y)(hn:cs.length=len*sz)(hl:len<=cap')(ht:tight=true->cap'=len) :
  VR β W (.slC cs len sz tight) (.slice (some ⟨k,s,none⟩) len cap'):=za0 hk hc hn hl ht fun _=>rfl
theorem za1{cs:List IV}{off k s:Nat}(hk:jO β W k)(hc:∀(j:Nat)(z:IV),cs[j]?=some z->∃ y,W.cell? ⟨k,s+j,none⟩=some y/\VR β W z y):VR β W (.ptrC cs off) (.pointer (some ⟨k,off+s,none⟩)):=by
 refine .ptrC (fun j=>(W.cell? ⟨k,s+j,none⟩).getD undef) hk (fun j z hz=>?_) (fun j z hz=>?_)
 ·obtain⟨y,hy,_⟩:=hc j z hz;rw[qv j s,hy];rfl
 ·obtain⟨y,hy,hv⟩:=hc j z hz;rw[hy];exact hv
end
def cT(P:Program)(β:Pl)(W:World)(ev:Operand->Value)(o:Oper)(v:IV):Prop:=∃ x,(execOp ev o).run P W=.ok (.value x) W/\VR β W v x
section
variable {P:Program} {β:Pl} {W:World} {a:Act} {o:Oper} {t:List IV} {aa aX:aU} {e:eV} {v:IV}
theorem aae{x:Operand}{y:bG}(ho:o.op=.move x)(ht:TR β W t a.tmps)(hx:bI x=some y):cT P β W a.eval o (ρ t y) :=
 ⟨a.eval x,by simp[execOp,ho],ht.eval hx⟩
theorem Ox{x:Operand}{y:bG}(ho:o.op=.assign x)(ht:TR β W t a.tmps)(hx:bI x=some y):cT P β W a.eval o (ρ t y) :=
 ⟨a.eval x,by simp[execOp,ho],ht.eval hx⟩
theorem Om{x:Operand}{y:bG}(ho:o.op=.nilCheck x)(ht:TR β W t a.tmps)(hx:bI x=some y)(he:b8 aa t y=some (e,v,aX)):e=.p/\aX=aa/\cT P β W a.eval o v:=by
 have hv:=ht.eval hx;unfold b8 at he;split at he
 ·rename_i heq;cases he;rw[heq]at hv;obtain⟨k,s,_,hx'⟩:=XP hv;exact⟨rfl,rfl,_,by simp[execOp,ho,hx'],hx'▸hv⟩
 ·rename_i heq;cases he;rw[heq]at hv;obtain⟨k,s,hx'⟩:=OT hv;exact⟨rfl,rfl,_,by simp[execOp,ho,hx'],hx'▸hv⟩
 ·rename_i heq;cases he;rw[heq]at hv;obtain⟨_,_,_,_,hx'⟩:=fnI hv;exact⟨rfl,rfl,_,by simp[execOp,ho,hx'],hx'▸hv⟩
 ·simp at he
theorem aac{x y z:Operand}{x' y' z':bG}(ho:o.op=.pick x y z)(ht:TR β W t a.tmps)(hx:bI x=some x')(hy:bI y=some y')(hz:bI z=some z')
  (he:dK aa t x' y' z'=some (e,v,aX)):e=.p/\aX=aa/\cT P β W a.eval o v:=by
 have hv:=ht.eval hx
 unfold dK at he
 split at he
 ·rename_i heq
  cases he
  rw[heq]at hv
  exact⟨rfl,rfl,a.eval y,by simp[execOp,ho,Z6 hv,asBool],ht.eval hy⟩
 ·rename_i heq
  cases he
  rw[heq]at hv
  exact⟨rfl,rfl,a.eval z,by simp[execOp,ho,Z6 hv,asBool],ht.eval hz⟩
 ·simp at he
theorem HP{α:Type}{x:Option α}{f:α->IV}(h:(x.map fun z=>(eV.p,f z,aa))=some (e,v,aX)):∃ z,x=some z/\e=.p/\v=f z/\aX=aa:=by
 cases x with
 |none=>simp at h
 |some z=>simp at h;exact⟨z,rfl,h.1.symm,h.2.1.symm,h.2.2.symm⟩
theorem zdk(op:BinOp)(ty:TypeId)(x y:Operand)(k k':IntKind)(m n:Int):(eqGuard op ty x y (.int k m) (.int k' n)).run P W=.ok () W:=by cases op<;>simp[eqGuard]
theorem zdl(op:BinOp)(ty:TypeId)(x y:Operand)(m n:ByteArray):(eqGuard op ty x y (.string m) (.string n)).run P W=.ok () W:=by cases op<;>simp[eqGuard]
theorem zb9(op:BinOp)(ty:TypeId)(x y:Operand)(m n:Bool):(eqGuard op ty x y (.bool m) (.bool n)).run P W=.ok () W:=by cases op<;>simp[eqGuard]
theorem zdm(op:BinOp)(ty:TypeId)(x y:Operand)(m n:Option Addr):(eqGuard op ty x y (.pointer m) (.pointer n)).run P W=.ok () W:=by cases op<;>simp[eqGuard]
theorem zeh(op:BinOp)(ty:TypeId)(x y:Operand)(m n:Option Addr)(a1 a2 b1 b2:Nat):(eqGuard op ty x y (.slice m a1 a2) (.slice n b1 b2)).run P W=.ok () W:=by cases op<;>simp[eqGuard]
theorem Va{op:BinOp}{ty:TypeId}{k k':IntKind}{m n:Int}{v:IV}(h:iq op (.int k m) (.int k' n)=some v):∃ x,(binOp op ty (.int k m) (.int k' n)).run P W=.ok x W/\VR β W v x:=by
 unfold iq at h;dsimp only at h;cases hs:bX op with
 |true =>
  rw[hs,bt rfl]at h
  unfold Oc at h
  rw[zT]at h
  by_cases h0:n<0
  ·rw[bt h0]at h;simp at h
  ·rw[bC h0]at h
   cases op<;>simp only[bX,l7]at hs<;>(cases h;exact⟨_,by simp[binOp,Op.shift,h0]<;>rfl,.int _ _⟩)
 |false =>
  rw[hs,bC Ψ]at h
  by_cases hk:k=k'
  ·subst hk
   rw[bt rfl]at h
   unfold bq at h
   simp only[zT]at h
   cases op<;>simp only[bX,Bool.true_eq_false]at hs<;>dsimp only at h
   case quo =>
    by_cases h0:n=0
    ·rw[bt h0]at h;simp at h
    ·rw[bC h0]at h;cases h;exact⟨_,by simp[binOp,Op.intDiv,h0]<;>rfl,.int _ _⟩
   case rem =>
    by_cases h0:n=0
    ·rw[bt h0]at h;simp at h
    ·rw[bC h0]at h;cases h;exact⟨_,by simp[binOp,Op.intDiv,h0]<;>rfl,.int _ _⟩
   all_goals first
    |(cases h;exact⟨_,by simp only[binOp,Op.intArith,Op.intBits,Op.intCmp,ne_eq,zn6,if_false,jt]<;>rfl,by first|exact .int _ _|exact .bool _⟩)
    |(simp at h)
  ·rw[bC hk]at h;simp at h
theorem U8{op:BinOp}{ty:TypeId}{m n:ByteArray}{v:IV}(h:iq op (.str m) (.str n)=some v):∃ x,(binOp op ty (.string m) (.string n)).run P W=.ok x W/\VR β W v x:=by
 unfold iq at h;dsimp only at h;unfold oy at h;cases op<;>dsimp only at h;all_goals first
  |(cases h;exact⟨_,by simp only[binOp,Op.stringOp,jt]<;>rfl,.bool _⟩)
  |(simp at h)
theorem V6{op:BinOp}{ty ty':TypeId}{x y:Operand}{x' y':bG}(ho:o.op=.binOp op ty x y ty')(ht:TR β W t a.tmps)(hx:bI x=some x')(hy:bI y=some y')(he:((iq op (ρ t x') (ρ t y')).map fun v=>(eV.p,v,aa))=some (e,v,aX)) :
  e=.p/\aX=aa/\cT P β W a.eval o v:=by
 have hv:=ht.eval hx
 have hw:=ht.eval hy
 obtain⟨z,hz,rfl,rfl,rfl⟩:=HP he
 refine⟨rfl,rfl,?_⟩
 have hz0:=hz
 unfold iq at hz
 split at hz
 ·rename_i k m k' n h1 h2
  rw[h1]at hv hz0;rw[h2]at hw hz0
  obtain⟨r,hr,tT⟩:=Va (P:=P) (β:=β) (W:=W) (ty:=ty) hz0
  exact⟨r,by simp[execOp,ho,YD hv,YD hw,zdk,hr],tT⟩
 ·rename_i m n h1 h2
  rw[h1]at hv hz0;rw[h2]at hw hz0
  obtain⟨r,hr,tT⟩:=U8 (P:=P) (β:=β) (W:=W) (ty:=ty) hz0
  exact⟨r,by simp[execOp,ho,HO hv,HO hw,zdl,hr],tT⟩
 ·simp at hz
theorem agf{op:UnOp}{ty:TypeId}{x:Operand}{x':bG}(ho:o.op=.unOp op ty x)(ht:TR β W t a.tmps)(hx:bI x=some x')(he:((pZ op (ρ t x')).map fun v=>(eV.p,v,aa))=some (e,v,aX)):e=.p/\aX=aa/\cT P β W a.eval o v:=by
 have hv:=ht.eval hx;obtain⟨z,hz,rfl,rfl,rfl⟩:=HP he;refine⟨rfl,rfl,?_⟩;unfold pZ at hz;split at hz
 ·rename_i h1;cases hz;rw[h1]at hv;rw[zT];exact⟨.int _ _,by simp[execOp,ho,YD hv,Op.unary,Op.intArith],.int _ _⟩
 ·rename_i h1;cases hz;rw[h1]at hv;exact⟨.bool _,by simp[execOp,ho,Z6 hv,Op.unary],.bool _⟩
 ·simp at hz
theorem aai{ts td:TypeId}{x:Operand}{x':bG}{k0 k:IntKind}(ho:o.op=.convert ts td x)(hs:P.underlying ts=some (.int k0))(hd:P.underlying td=some (.int k))(ht:TR β W t a.tmps)(hx:bI x=some x')(he:dM aa t k x'=some (e,v,aX)) :
  e=.p/\aX=aa/\cT P β W a.eval o v:=by
 have hv:=ht.eval hx
 unfold dM at he
 split at he
 ·rename_i h1
  cases he
  rw[h1]at hv
  rw[zT]
  exact⟨rfl,rfl,.int _ _,by simp[execOp,ho,YD hv,convert,run_underlying hs,run_underlying hd,Conv.intToInt],.int _ _⟩
 ·simp at he
theorem aah{ts td:TypeId}{x:Operand}{x':bG}(ho:o.op=.convert ts td x)(hs:P.underlying ts=some .string)(hd:P.underlying td=some .string)(ht:TR β W t a.tmps)(hx:bI x=some x')(he:pF aa t x'=some (e,v,aX)) :
  e=.p/\aX=aa/\cT P β W a.eval o v:=by
 have hv:=ht.eval hx
 unfold pF at he
 split at he
 ·rename_i h1
  cases he
  rw[h1]at hv
  exact⟨rfl,rfl,_,by simp only[execOp,ho,HO hv,convert,iB,run_underlying hs,run_underlying hd,iC,jt]<;>rfl,.str _⟩
 ·simp at he
theorem zei{xs:List Operand}{ys:List bG}(ht:TR β W t a.tmps)(h:allM bI xs=some ys):dV β W (ys.map (ρ t)) (xs.map a.eval):=by obtain⟨h1,h2⟩:=Z5 h;refine⟨by simp[h1],fun j x y hx hy=>?_⟩;simp only[k9,zlj]at hx hy;obtain⟨y0,hy0,rfl⟩:=hx;obtain⟨x0,hx0,rfl⟩:=hy;obtain⟨y1,hy1,hc⟩:=h2 j x0 hx0;rw[hy0]at hy1;cases hy1;exact ht.eval hc
theorem aaf{f:FuncId}{xs ys:Array Operand}{xs' ys':List bG}(ho:o.op=.makeFunc (.func f) xs ys)(ht:TR β W t a.tmps)(hx:allM bI xs.toList=some xs')(hy:allM bI ys.toList=some ys'):cT P β W a.eval o (.fn f (xs'.map (ρ t)) (ys'.map (ρ t))):=by
 have h1:=zei ht hx;have h2:=zei ht hy;refine⟨.func (.func f) (xs.map a.eval) (ys.map a.eval),by simp[execOp,ho,Instr.makeFunc],.fn (by have:=h1.1;simpa using this) (by have:=h2.1;simpa using this) (fun j x y hx hy=>h1.2 j x y hx ?_) (fun j x y hx hy=>h2.2 j x y hx ?_)⟩
 ·rw[←pP]at hy;simpa using hy
 ·rw[←pP]at hy;simpa using hy
end
section
variable {P:Program} {β:Pl} {W:World} {a:Act} {o:Oper} {t:List IV} {aa aX:aU} {e:eV} {v:IV}
theorem D5(off:Nat):∀{xs:List IV}{ys:List Value}(k:Nat){c:List IV}{cs:Array Value},dV β W xs ys->dV β W c cs.toList ->
  dV β W (gV c (off+k) xs) ((ys.zipIdx k).foldl (fun(cs:Array Value)(p:Value×Nat)=>cs.setIfInBounds (off+p.2) p.1) cs).toList
 |[],ys,k,c,cs,h,hc=>by
  cases ys with
  |nil=>exact hc
  |cons _ _=>exact absurd h.1 Ψ
 |x::xs,ys,k,c,cs,h,hc=>by
  cases ys with
  |nil=>exact absurd h.1 Ψ
  |cons y ys =>
   have hxy:=h.2 0 x y rfl rfl
   have hs:dV β W xs ys:=⟨by have:=h.1;simpa using this,fun j a b ha hb=>h.2 (j+1) a b (by simpa using ha) (by simpa using hb)⟩
   simp only[gV,List.zipIdx_cons,Xz]
   exact D5 off (k+1) hs (by rw[zny];exact dV.set hc hxy _)
theorem XW{xs:List IV}{ys:Array Value}{c:List IV}{cs:Array Value}{off:Nat}(h:dV β W xs ys.toList)(hc:dV β W c cs.toList) :
  dV β W (gV c off xs) (ys.zipIdx.foldl (fun(cs:Array Value)(p:Value×Nat)=>cs.setIfInBounds (off+p.2) p.1) cs).toList:=by
 have:=D5 off 0 h hc
 rw[←Array.foldl_toList,Array.toList_zipIdx]
 simpa using this
theorem YE(g:Nat->Option (Nat×Nat)):∀{parts:List (Nat×Operand)}{ps:List (Nat×Nat×bG)}{c c':List IV}{cs:Array Value},TR β W t a.tmps->lT g parts=some ps->dV β W c cs.toList->dh t c ps=some c' ->
  ∃ cs',Instr.fill g cs (parts.map fun p=>(p.1,a.eval p.2))=some cs'/\dV β W c' cs'.toList
 |[],ps,c,c',cs,ht,hp,hc,hf=>by simp only[lT,fZ]at hp;subst hp;simp only[dh,fZ]at hf;subst hf;exact⟨cs,rfl,hc⟩
 |(i,x)::rest,ps,c,c',cs,ht,hp,hc,hf=>by
  simp only[lT]at hp;split at hp
  ·rename_i off n y ys h1 h2 h3;cases hp;simp only[dh,zi]at hf;split at hf
   ·rename_i hlen;have hv:=zQ (ht.eval h2);have hsz:(a.eval x).cells.size=n:=by have:=hv.1;simp at this;omega
    have hcs:cs.size=c.length:=by have:=hc.1;simp at this;omega
    obtain⟨cs',e1,e2⟩:=YE g ht h3 (XW (off:=off) hv hc) hf;refine⟨cs',?_,e2⟩;simp only[nK,Instr.fill,h1];rw[bC (by simp[hsz,hcs];omega)];exact e1
   ·simp at hf
  ·simp at hp
theorem yE{ty:TypeId}{z:IV}(h:jl P ty=some z):∃ i zv,P.info? ty=some i/\i.zero=some zv/\VR β W z zv:=by
 unfold jl at h;split at h
 ·rename_i i hi;split at h
  ·rename_i zv hz;exact⟨i,zv,hi,hz,NJ h⟩
  ·simp at h
 ·simp at h
theorem yq{ty:TypeId}{n:Nat}(h:dG P ty=some n):∃ i,P.info? ty=some i/\i.size=n:=by
 unfold dG at h;cases hi:P.info? ty with
 |none=>rw[hi]at h;simp at h
 |some i=>rw[hi]at h;exact⟨i,rfl,by simpa using h⟩
theorem vY:∀{fs:List Field},fs.all (fun f=>(dG P f.type).isSome)=true->fs.mapM (fun f=>(P.info? f.type).map fun i=>(f.offset,i.size))=some (fs.map fun f=>(f.offset,(dG P f.type).getD 0))
 |[],_=>rfl
 |f::fs,h=>by simp only[qt,gJ]at h;obtain⟨n,hn⟩:=zmy.1 h.1;obtain⟨i,hi,hs⟩:=yq hn;simp only[rO,hi,gH,tC,uG,jG,vY h.2,nK,hn,hs,tE]
theorem zej{ty:TypeId}{parts:Array (Nat×Operand)}{fs:Array Field}{z:IV}{ps:List (Nat×Nat×bG)}(ho:o.op=.build ty parts)(hu:P.underlying ty=some (.struct fs))(hz:jl P ty=some z)
  (hall:fs.toList.all (fun f=>(dG P f.type).isSome)=true) (hp:lT (fun i=>match fs[i]? with|some f=>(dG P f.type).map (f.offset,·)|none=>none) parts.toList=some ps) (ht:TR β W t a.tmps)
  (he:((dh t z.cells ps).map fun c=>(eV.p,IV.agg c,aa))=some (e,v,aX)):e=.p/\aX=aa/\cT P β W a.eval o v:=by
 obtain⟨c',ve,rfl,rfl,rfl⟩:=HP he
 refine⟨rfl,rfl,?_⟩
 obtain⟨i,zv,hi,Dz,hv⟩:=yE (β:=β) (W:=W) hz
 obtain⟨cs',e1,e2⟩:=YE _ ht hp (zQ hv) ve
 refine⟨.agg cs',?_,zeb e2⟩
 have hb:P.built ty (parts.map fun p=>(p.1,a.eval p.2)).toList=some cs':=by
  unfold Program.built;simp only[hi,hu,Dz,vY hall];rw[←e1,zms];congr 1;funext i;simp only[zk9,k9];cases hf:fs[i]? with
  |none=>rw[pP,hf];rfl
  |some f =>
   have hm:f∈fs.toList:=by simpa using Array.mem_of_getElem? hf
   obtain⟨n,hn⟩:=zmy.1 (ot.1 hall f hm)
   rw[pP,hf]
   simp[hn]
 have:=run_build (P:=P) W ty (parts.map fun p=>(p.1,a.eval p.2)) cs' hb
 simp only[execOp,ho,iB]
 rw[this]
 rfl
theorem uS{ty el:TypeId}{len n:Nat}{parts:Array (Nat×Operand)}{z:IV}{ps:List (Nat×Nat×bG)}(ho:o.op=.build ty parts)(hu:P.underlying ty=some (.array len el))(hz:jl P ty=some z)(hn:dG P el=some n)
  (hp:lT (fun i=>some (i*n,n)) parts.toList=some ps) (ht:TR β W t a.tmps)
  (he:((dh t z.cells ps).map fun c=>(eV.p,IV.agg c,aa))=some (e,v,aX)):e=.p/\aX=aa/\cT P β W a.eval o v:=by
 obtain⟨c',ve,rfl,rfl,rfl⟩:=HP he
 refine⟨rfl,rfl,?_⟩
 obtain⟨i,zv,hi,Dz,hv⟩:=yE (β:=β) (W:=W) hz
 obtain⟨ie,hie,hs⟩:=yq hn
 obtain⟨cs',e1,e2⟩:=YE _ ht hp (zQ hv) ve
 refine⟨.agg cs',?_,zeb e2⟩
 have hb:P.built ty (parts.map fun p=>(p.1,a.eval p.2)).toList=some cs':=by unfold Program.built;simp only[hi,hu,Dz,hie,hs];rw[←e1,zms]
 have:=run_build (P:=P) W ty (parts.map fun p=>(p.1,a.eval p.2)) cs' hb
 simp only[execOp,ho,iB]
 rw[this]
 rfl
theorem ZP(z:List IV):∀ n,(rep z n).length=n*z.length
 |0=>by simp[rep]
 |n+1=>by simp only[rep,eR,ZP z n,BU,uP];omega
theorem Is(z:List IV)(hz:0<z.length):∀(n j:Nat),j<n*z.length->(rep z n)[j]?=z[j%z.length]?
 |0,j,h=>absurd h Ψ
 |n+1,j,h=>by
  simp only[rep];by_cases hj:j<z.length
  ·rw[gT hj,ND hj]
  ·rw[jd (zl7 hj),Is z hz n (j-z.length) (by rw[BU,uP]at h;omega)];congr 1;conv=>rhs;rw[show j=j-z.length+z.length by omega,zn7]
theorem za3{z:List IV}{zs:Array Value}(h:dV β W z zs.toList)(hz:0<z.length)(n:Nat):dV β W (rep z n) ((Array.range (n*z.length)).map (zs[·%zs.size]!)).toList:=by
 have hl:zs.size=z.length:=by have:=h.1;simp at this;omega
 refine⟨by simp[ZP],fun j x y hx hy=>?_⟩;have hj:j<n*z.length:=by have:=(cU.1 hx).1;rwa [ZP]at this
 rw[Is z hz n j hj]at hx;simp only[zms,Array.toList_range,k9,VL hj,gH,fZ]at hy;have hm:j%z.length<zs.size:=by rw[hl];exact SM _ hz
 refine h.2 _ x y hx ?_;rw[←hy,hl,pP,getElem!_pos zs _ hm];simp[hm]
end
def NX(β:Pl)(W:World)(v:IV):Next->Prop
 |.value x=>VR β W v x
 |.skip=>v=.tuple []
 |_=>False
def gG(P:Program)(d:Nat)(ah:bR)(β:Pl)(W:World)(ev:Operand->Value)(o:Oper)(v:IV)(aX:aU):Prop :=
 ∃ nx β' W',(execOp ev o).run P W=.ok nx W'/\NX β' W' v nx/\RS β' (look d ah aX) W'/\Fr d β W β' W'
section
variable {P:Program} {d:Nat} {ah:bR} {β:Pl} {W:World} {a:Act} {o:Oper} {t:List IV} {aa aX:aU} {e:eV} {v:IV}
theorem cT.step(h:cT P β W a.eval o v)(hR:RS β (look d ah aa) W):gG P d ah β W a.eval o v aa :=
 let⟨x,h1,h2⟩:=h;⟨.value x,β,W,h1,h2,hR,Fr.refl _ _ _⟩
theorem Oy(hR:RS β (look d ah aa) W)(O:Obj):RS β (look d ah aa) (W.alloc O)/\Fr d β W β (W.alloc O) :=
 ⟨hR.old (fun k hk=>Below.heap_alloc W O k hk) Ψ,⟨fun _ _ _ h=>h,fun _ _ _ _ h=>.inl h,fun k hk _=>Below.heap_alloc W O k hk,Ψ,fun k c t f hc=>⟨c,(Below.heap_alloc W O k (Fb.1 hc).1).trans hc,rfl⟩,rfl,rfl,rfl⟩⟩
theorem Zz(W:World)(O:Obj):(W.alloc O).heap[W.heap.size]?=some O:=by show(W.heap.push O)[W.heap.size]?=some O;simp
theorem Rf(W:World)(cs:Array Value)(ty:TypeId)(j:Nat):(W.alloc (.cells cs ty)).cell? ⟨W.heap.size,j,none⟩=cs[j]?:=by unfold World.cell?;rw[Zz];rfl
theorem Ow{ty el:TypeId}{len n:Nat}{parts:Array (Nat×Operand)}{z:IV}{ps:List (Nat×Nat×bG)}(ho:o.op=.buildSlice ty len parts)(hu:P.underlying ty=some (.slice el))(hz:jl P el=some z)(hn:dG P el=some n)
  (h24:len*n<=2 ^ 24) (hzl:z.cells.length=n) (hn0:0<n) (hp:lT (fun i=>some (i*n,n)) parts.toList=some ps) (ht:TR β W t a.tmps) (hR:RS β (look d ah aa) W)
  (he:((dh t (rep z.cells len) ps).map fun c=>(eV.p,IV.slC c len n true,aa))=some (e,v,aX)):e=.p/\aX=aa/\gG P d ah β W a.eval o v aa:=by
 obtain⟨c',ve,rfl,rfl,rfl⟩:=HP he
 refine⟨rfl,rfl,?_⟩
 obtain⟨i,zv,hi,Dz,hv⟩:=yE (β:=β) (W:=W) hz
 obtain⟨ie,hie,hs⟩:=yq hn
 obtain rfl:i=ie:=by rw[hi]at hie;exact kT hie
 have Nf:=zQ hv
 have hlen:zv.cells.size=n:=by have:=Nf.1;simp at this;omega
 have e0:dV β W (rep z.cells len) (if len*n=0 then(#[]:Array Value)else(Array.range (len*n)).map (zv.cells[·%zv.cells.size]!)).toList:=by
  by_cases h0:len*n=0
  ·have hl0:len=0:=by rcases zm3.1 h0 with h|h<;>omega
   subst hl0;simp[rep];exact .nil
  ·rw[bC h0];have:=za3 (β:=β) (W:=W) Nf Ω len;rw[hzl]at this;exact this
 obtain⟨cs',e1,e2⟩:=YE _ ht hp e0 ve
 obtain⟨r6,hF⟩:=Oy hR (.cells cs' el)
 refine⟨.value (.slice (some ⟨W.heap.size,0,none⟩) len len),β,W.alloc (.cells cs' el),?_,?_,r6,hF⟩
 ·have o7:Instr.fill (fun i=>some (i*n,n)) ((Array.range (len*n)).map (((if len*n=0 then(#[]:Array Value)else zv.cells))[·%((if len*n=0 then(#[]:Array Value)else zv.cells)).size]!)) (parts.map fun p=>(p.1,a.eval p.2)).toList=some cs':=by
   rw[←e1,zms];congr 1;by_cases h0:len*n=0
   ·rw[h0];simp
   ·simp only[bC h0]
  simp only[execOp,ho,iB,Instr.buildSlice,run_underlying hu,iC,yb hn]
  rw[bC Ω]
  by_cases h0:len*n=0
  ·rw[bt h0]at o7
   simp only[h0,if_true,iB,jt,iC]
   rw[h0]at o7
   rw[o7]
   simp[newRow,run_newObj]
  ·rw[bC h0]at o7
   rw[bC h0]
   simp only[zeroValue,typeInfo,iB,run_program,iC,hie,Dz,jt]
   rw[o7]
   simp[newRow,run_newObj]
 ·have hlc:c'.length=cs'.size:=by have:=e2.1;simpa using this
  have hlr:∀{c c'':List IV}{ps},dh t c ps=some c''->c''.length=c.length:=by
   intro c c'' ps;induction ps generalizing c with
   |nil=>intro h;simp only[dh,fZ]at h;rw[h]
   |cons p ps ih =>
    obtain⟨off,m,x⟩:=p
    intro h
    simp only[dh,zi]at h
    split at h
    ·rw[ih h]
     have:∀(xs:List IV)(c:List IV)(off:Nat),(gV c off xs).length=c.length:=by
      intro xs;induction xs with
      |nil=>intro c off;rfl
      |cons x xs ih2=>intro c off;simp only[gV];rw[ih2];simp
     exact this _ _ _
    ·simp at h
  refine FL (fun hne=>⟨Ψ,fun l i s hb=>?_⟩) (fun j zz hj=>?_) (by rw[hlr ve,ZP,hzl]) (dz _) (fun _=>rfl)
  ·have:=hR.here _ _ _ _ hb;omega
  ·obtain⟨y,hy,pT⟩:=e2.get hj
   refine⟨y,?_,pT.ext hF.ext⟩
   rw[fO,Rf]
   simpa using hy
theorem acu{op:BinOp}{neg:Bool}{ty ty':TypeId}{x y:Operand}{x' y':bG}(ho:o.op=.binOp op ty x y ty')(hop:op=if neg then .neq else .eql)(hu:P.underlying ty=some .bool)(ht:TR β W t a.tmps)(hx:bI x=some x')(hy:bI y=some y')
  (he:((GH (ρ t x') (ρ t y')).map fun v=>(eV.p,IV.bool (neg != v),aa))=some (e,v,aX)):e=.p/\aX=aa/\cT P β W a.eval o v:=by
 have hv:=ht.eval hx
 have hw:=ht.eval hy
 obtain⟨z,hz,rfl,rfl,rfl⟩:=HP he
 refine⟨rfl,rfl,?_⟩
 unfold GH at hz
 split at hz
 ·rename_i m n h1 h2
  rw[h1]at hv;rw[h2]at hw
  cases hz
  cases neg<;>(subst hop;exact⟨_,by simp[execOp,ho,Z6 hv,Z6 hw,zb9,run_eql_bool W ty m n hu,run_neq_bool W ty m n hu]<;>rfl,.bool _⟩)
 ·simp at hz
theorem uT{ty el:TypeId}(hu:P.underlying ty=some (.pointer el))(p q:Option Addr)(h:p=none∨q=none):(Op.equal ty (.pointer p) (.pointer q)).run P W=.ok (p.isNone&&q.isNone) W:=by
 show(Op.equalIn (9999+1) ty (.pointer p) (.pointer q)).run P W=_;rw[Op.equalIn];simp only[iB,run_underlying hu,iC];rcases h with rfl|rfl
 ·cases q<;>rfl
 ·cases p<;>rfl
theorem Al{ty el:TypeId}(hu:P.underlying ty=some (.slice el))(p q:Option Addr)(n c n' c':Nat)(h:p=none∨q=none):(Op.equal ty (.slice p n c) (.slice q n' c')).run P W=.ok (p.isNone&&q.isNone) W:=by
 show(Op.equalIn (9999+1) ty (.slice p n c) (.slice q n' c')).run P W=_;rw[Op.equalIn];simp only[iB,run_underlying hu,iC];rcases h with rfl|rfl
 ·cases q<;>rfl
 ·cases p<;>rfl
theorem U9{op:BinOp}{neg:Bool}(hop:op=if neg then .neq else .eql){ty el:TypeId}(hu:P.underlying ty=some (.pointer el))(p q:Option Addr)(h:p=none∨q=none) :
  (binOp op ty (.pointer p) (.pointer q)).run P W=.ok (.bool (neg != (p.isNone&&q.isNone))) W:=by
 have:=uT (P:=P) (W:=W) hu p q h
 cases neg
 ·subst hop
  show(do pure (.bool (←Op.equal ty (.pointer p) (.pointer q))):Sem Value).run P W=_
  simp only[iB,this,iC,jt,j3]
 ·subst hop
  show(do pure (.bool (!(←Op.equal ty (.pointer p) (.pointer q)))):Sem Value).run P W=_
  simp only[iB,this,iC,jt,zom]
theorem abr{op:BinOp}{neg:Bool}(hop:op=if neg then .neq else .eql){ty el:TypeId}(hu:P.underlying ty=some (.slice el))(p q:Option Addr)(n c n' c':Nat)(h:p=none∨q=none) :
  (binOp op ty (.slice p n c) (.slice q n' c')).run P W=.ok (.bool (neg != (p.isNone&&q.isNone))) W:=by
 have:=Al (P:=P) (W:=W) hu p q n c n' c' h
 cases neg
 ·subst hop
  show(do pure (.bool (←Op.equal ty (.slice p n c) (.slice q n' c'))):Sem Value).run P W=_
  simp only[iB,this,iC,jt,j3]
 ·subst hop
  show(do pure (.bool (!(←Op.equal ty (.slice p n c) (.slice q n' c')))):Sem Value).run P W=_
  simp only[iB,this,iC,jt,zom]
theorem acs{op:BinOp}{neg:Bool}{ty ty' el:TypeId}{x y:Operand}{x' y':bG}(ho:o.op=.binOp op ty x y ty')(hop:op=if neg then .neq else .eql)(hu:P.underlying ty=some (.pointer el))(ht:TR β W t a.tmps)(hx:bI x=some x')(hy:bI y=some y')
  (he:((aed (ρ t x') (ρ t y')).map fun v=>(eV.p,IV.bool (neg != v),aa))=some (e,v,aX)):e=.p/\aX=aa/\cT P β W a.eval o v:=by
 have hv:=ht.eval hx
 have hw:=ht.eval hy
 obtain⟨z,hz,rfl,rfl,rfl⟩:=HP he
 refine⟨rfl,rfl,?_⟩
 have key:∃ p q:Option Addr,a.eval x=.pointer p/\a.eval y=.pointer q/\(p=none∨q=none)/\z=(p.isNone&&q.isNone):=by
  unfold aed at hz;split at hz
  ·rename_i h1 h2;rw[h1]at hv;rw[h2]at hw;cases hz;exact⟨none,none,Yl hv,Yl hw,.inl rfl,rfl⟩
  ·rename_i h1 h2;rw[h1]at hv;rw[h2]at hw;cases hz;obtain⟨k,s,_,hq⟩:=XP hw;exact⟨none,_,Yl hv,hq,.inl rfl,rfl⟩
  ·rename_i h1 h2;rw[h1]at hv;rw[h2]at hw;cases hz;obtain⟨k,s,hq⟩:=OT hw;exact⟨none,_,Yl hv,hq,.inl rfl,rfl⟩
  ·rename_i h1 h2;rw[h1]at hv;rw[h2]at hw;cases hz;obtain⟨k,s,_,hq⟩:=XP hv;exact⟨_,none,hq,Yl hw,.inr rfl,rfl⟩
  ·rename_i h1 h2;rw[h1]at hv;rw[h2]at hw;cases hz;obtain⟨k,s,hq⟩:=OT hv;exact⟨_,none,hq,Yl hw,.inr rfl,rfl⟩
  ·simp at hz
 obtain⟨p,q,e1,e2,h,rfl⟩:=key
 exact⟨_,by simp only[execOp,ho,e1,e2,iB,zdm,iC,U9 hop hu p q h,jt]<;>rfl,.bool _⟩
theorem acr{op:BinOp}{neg:Bool}{ty ty' el:TypeId}{x y:Operand}{x' y':bG}(ho:o.op=.binOp op ty x y ty')(hop:op=if neg then .neq else .eql)(hu:P.underlying ty=some (.slice el))(ht:TR β W t a.tmps)(hx:bI x=some x')(hy:bI y=some y')
  (he:((Bj (ρ t x') (ρ t y')).map fun v=>(eV.p,IV.bool (neg != v),aa))=some (e,v,aX)):e=.p/\aX=aa/\cT P β W a.eval o v:=by
 have hv:=ht.eval hx
 have hw:=ht.eval hy
 obtain⟨z,hz,rfl,rfl,rfl⟩:=HP he
 refine⟨rfl,rfl,?_⟩
 have key:∃(p q:Option Addr)(n c n' c':Nat),a.eval x=.slice p n c/\a.eval y=.slice q n' c'/\(p=none∨q=none)/\z=(p.isNone&&q.isNone):=by
  unfold Bj at hz;split at hz
  ·rename_i h1 h2;rw[h1]at hv;rw[h2]at hw;cases hz;exact⟨none,none,_,_,_,_,yL hv,yL hw,.inl rfl,rfl⟩
  ·rename_i h1 h2;rw[h1]at hv;rw[h2]at hw;cases hz;obtain⟨_,_,_,_,_,_,_,_,_,hq⟩:=FK hw;exact⟨none,_,_,_,_,_,yL hv,hq,.inl rfl,rfl⟩
  ·rename_i h1 h2;rw[h1]at hv;rw[h2]at hw;cases hz;obtain⟨_,_,_,_,_,_,_,_,_,_,hq⟩:=xW hw;exact⟨none,_,_,_,_,_,yL hv,hq,.inl rfl,rfl⟩
  ·rename_i h1 h2;rw[h1]at hv;rw[h2]at hw;cases hz;obtain⟨_,_,_,_,_,_,_,_,_,hq⟩:=FK hv;exact⟨_,none,_,_,_,_,hq,yL hw,.inr rfl,rfl⟩
  ·rename_i h1 h2;rw[h1]at hv;rw[h2]at hw;cases hz;obtain⟨_,_,_,_,_,_,_,_,_,_,hq⟩:=xW hv;exact⟨_,none,_,_,_,_,hq,yL hw,.inr rfl,rfl⟩
  ·simp at hz
 obtain⟨p,q,n,c,n',c',e1,e2,h,rfl⟩:=key
 exact⟨_,by simp only[execOp,ho,e1,e2,iB,zeh,iC,abr hop hu p q n c n' c' h,jt]<;>rfl,.bool _⟩
end
section
variable {P:Program} {d:Nat} {ah:bR} {β:Pl} {W:World} {a:Act} {o:Oper} {t:List IV} {aa aX:aU} {e:eV} {v:IV}
theorem Tr{s:TypeId}{fs:Array Field}{fd:Field}{f n:Nat}{x:Operand}{x':bG}(ho:o.op=.fieldAddr s x f)(hu:P.underlying s=some (.struct fs))(hf:fs[f]?=some fd)(hn:dG P fd.type=some n)(hn0:n≠0)(ht:TR β W t a.tmps)(hx:bI x=some x')
  (he:cN aa t fd.offset x'=some (e,v,aX)):e=.p/\aX=aa/\cT P β W a.eval o v:=by
 have hv:=ht.eval hx
 have run:∀ k s',(Instr.fieldAt s (.pointer (some ⟨k,s',none⟩)) f).run P W=.ok (.pointer (some ⟨k,s'+fd.offset,none⟩)) W:=fun k s'=>by simp only[Instr.fieldAt,iB,run_underlying hu,iC,hf,Instr.sureAddr,jt,fieldPlace,yb hn];rw[bC hn0];simp only[jt,iC];rw[Zj rfl]
 unfold cN at he
 split at he
 ·rename_i l i off h1
  cases he
  rw[h1]at hv
  obtain⟨k,s',hb,hq⟩:=XP hv
  refine⟨rfl,rfl,_,?_,.ptrM hb⟩
  simp only[execOp,ho,hq,iB,run,iC,jt]
  congr 4
  simp only[zmz,Nz,Ny];omega
 ·rename_i cs off h1
  cases he
  rw[h1]at hv
  obtain⟨k,s',hk,hc,hq⟩:=F5 hv
  refine⟨rfl,rfl,_,?_,za1 (s:=s') hk hc⟩
  simp only[execOp,ho,hq,iB,run,iC,jt]
  congr 4
  simp only[zmz,Nz,Ny];omega
 ·simp at he
theorem ym{x:Operand}{x':bG}{j:Nat}(ht:TR β W t a.tmps)(hx:bI x=some x')(h:mC (ρ t x')=some j):∃ k:IntKind,∃ n:Int,a.eval x=.int k n/\0<=n/\n.toNat=j:=by
 have hv:=ht.eval hx;unfold mC at h;split at h
 ·rename_i k n h1;split at h
  ·rename_i h0;rw[h1]at hv;exact⟨k,n,YD hv,h0,by simpa using h⟩
  ·simp at h
 ·simp at h
theorem Tp{ty el:TypeId}{n:Nat}{x ix:Operand}{x' Pq:bG}(ho:o.op=.indexAddr ty x ix)(hu:P.underlying ty=some (.slice el))(hn:dG P el=some n)(ht:TR β W t a.tmps)(hx:bI x=some x')(Ul:bI ix=some Pq)
  (he:nH aa t n x' Pq=some (e,v,aX)):e=.p/\aX=aa/\cT P β W a.eval o v:=by
 have hv:=ht.eval hx
 unfold nH at he
 have run:∀(b:Addr)(len cap:Nat)(k:IntKind)(i:Int),0<=i->i.toNat<len->b.spot=none->(Instr.indexAt ty (.slice (some b) len cap) (.int k i)).run P W=.ok (.pointer (some ⟨b.block,b.off+i.toNat*n,none⟩)) W:=fun b len cap k i h0 h1 hb=>by simp only[Instr.indexAt,asIntOf,iB,jt,iC,run_underlying hu];rw[bt ⟨h0,Ω⟩];simp only[iB,yb hn,iC,jt];rw[Zj hb]
 split at he
 ·rename_i l i off len cap sz tight j h1 h2
  obtain⟨k,m,hq,h0,rfl⟩:=ym ht Ul h2
  split at he
  ·rename_i au
   cases he
   rw[h1]at hv
   obtain⟨kb,s,o',cap',hb,hoff,hl,hc,Fj,hx2⟩:=FK hv
   obtain rfl:o'=off+s:=hoff.resolve_left Ω
   refine⟨rfl,rfl,_,?_,.ptrM hb⟩
   simp only[execOp,ho,hx2,hq,iB,run _ _ _ _ _ h0 au,iC,jt]
   congr 4
   simp only[zmz,Nz,Ny];omega
  ·simp at he
 ·rename_i cs len sz tight j h1 h2
  obtain⟨k,m,hq,h0,rfl⟩:=ym ht Ul h2
  split at he
  ·rename_i au
   cases he
   rw[h1]at hv
   obtain⟨kb,s,cap',ad,hk,hc,hnn,hl,Fj,tY,hx2⟩:=xW hv
   obtain rfl:=tY Ω
   refine⟨rfl,rfl,_,?_,za1 (s:=s) (hk Ω) hc⟩
   simp only[execOp,ho,hx2,hq,iB,run _ _ _ _ _ h0 au,iC,jt]
   congr 4
   simp only[zmz,Nz,Ny];omega
  ·simp at he
 ·simp at he
theorem Ov{ty el:TypeId}{n len:Nat}{x ix:Operand}{x' Pq:bG}(ho:o.op=.indexAddr ty x ix)(hu:P.underlying ty=some (.array len el))(hn:dG P el=some n)(ht:TR β W t a.tmps)(hx:bI x=some x')(Ul:bI ix=some Pq)
  (he:kO aa t n len x' Pq=some (e,v,aX)):e=.p/\aX=aa/\cT P β W a.eval o v:=by
 have hv:=ht.eval hx
 unfold kO at he
 have run:∀(b:Addr)(k:IntKind)(i:Int),0<=i->i.toNat<len->b.spot=none->(Instr.indexAt ty (.pointer (some b)) (.int k i)).run P W=.ok (.pointer (some ⟨b.block,b.off+i.toNat*n,none⟩)) W:=fun b k i h0 h1 hb=>by simp only[Instr.indexAt,asIntOf,iB,jt,iC,run_underlying hu,Instr.sureAddr];rw[bt ⟨h0,Ω⟩];simp only[iB,yb hn,iC,jt];rw[Zj hb]
 split at he
 ·rename_i l i off j h1 h2
  obtain⟨k,m,hq,h0,rfl⟩:=ym ht Ul h2
  split at he
  ·rename_i au
   cases he
   rw[h1]at hv
   obtain⟨kb,s,hb,hx2⟩:=XP hv
   refine⟨rfl,rfl,_,?_,.ptrM hb⟩
   simp only[execOp,ho,hx2,hq,iB,run _ _ _ h0 au,iC,jt]
   congr 4
   simp only[zmz,Nz,Ny];omega
  ·simp at he
 ·rename_i cs off j h1 h2
  obtain⟨k,m,hq,h0,rfl⟩:=ym ht Ul h2
  split at he
  ·rename_i au
   cases he
   rw[h1]at hv
   obtain⟨kb,s,hk,hc,hx2⟩:=F5 hv
   refine⟨rfl,rfl,_,?_,za1 (s:=s) hk hc⟩
   simp only[execOp,ho,hx2,hq,iB,run _ _ _ h0 au,iC,jt]
   congr 4
   simp only[zmz,Nz,Ny];omega
  ·simp at he
 ·simp at he
theorem C8{ty:TypeId}{agg:Bool}{n off:Nat}{cs:List IV}{ws:Array Value}(hl:loadT P ty=some (agg,n))(h:dV β W cs ws.toList)(hr:(bM cs off n).bind (mg agg)=some v):∃ x,(part ty ws off).run P W=.ok x W/\VR β W v x:=by
 unfold loadT at hl;cases hu:P.underlying ty with
 |none=>rw[hu]at hl;simp at hl
 |some u =>
  cases hs:dG P ty with
  |none=>rw[hu,hs]at hl;simp at hl
  |some n0 =>
   rw[hu,hs]at hl
   dsimp only at hl
   cases hx:bM cs off n with
   |none=>rw[hx]at hr;simp at hr
   |some xs =>
    rw[hx]at hr
    simp only[jG]at hr
    obtain⟨h1,h2⟩:=zec hx
    cases ha:iH u with
    |true =>
     rw[ha]at hl
     simp only[if_true,fZ,qN]at hl
     obtain⟨rfl,rfl⟩:=hl
     rw[Dk hr]
     refine⟨.agg (ws.extract off (off+n0)),by simp[part,yZ hu,ha,yb hs],?_⟩
     have hlen:n0≠0->off+n0<=cs.length:=fun h0=>by have h3:=h2 (n0-1) Ω;rw[cK Ω]at h3;have:=(cU.1 h3.symm).1;omega
     have hw:ws.size=cs.length:=by have:=h.1;simp at this;omega
     have e:dV β W xs (ws.extract off (off+n0)).toList:=by
      refine⟨?_,fun j x y hjx hjy=>?_⟩
      ·simp only[Array.toList_extract,zn4,k8,tD,Array.length_toList];by_cases h0:n0=0
       ·omega
       ·have:=hlen h0;omega
      ·have hj:j<n0:=h1▸(cU.1 hjx).1;rw[h2 j hj]at hjx;refine h.2 _ x y hjx ?_;rw[pP]at hjy;rw[zm9]at hjy;rw[pP];split at hjy
       ·exact hjy
       ·simp at hjy
     refine .agg (by have:=e.1;rw[Array.length_toList]at this;exact this) fun j x y hjx hjy=>e.2 j x y hjx (by rw[pP];exact hjy)
    |false =>
     rw[ha]at hl
     simp only[l7,if_false,fZ,qN]at hl
     obtain⟨rfl,rfl⟩:=hl
     have hxs:=wh hr
     subst hxs
     have h3:=h2 0 Ω
     obtain⟨y,hy,pT⟩:=h.get (j:=off) (x:=v) (by simpa using h3.symm)
     rw[pP]at hy
     exact⟨y,by simp[part,yZ hu,ha,hy],pT⟩
theorem Tq{s:TypeId}{fs:Array Field}{fd:Field}{f n:Nat}{agg:Bool}{x:Operand}{x':bG}(ho:o.op=.field s x f)(hu:P.underlying s=some (.struct fs))(hf:fs[f]?=some fd)(hl:loadT P fd.type=some (agg,n))(ht:TR β W t a.tmps)(hx:bI x=some x')
  (he:cM aa t agg fd.offset n x'=some (e,v,aX)):e=.p/\aX=aa/\cT P β W a.eval o v:=by
 have hv:=ht.eval hx
 unfold cM at he
 split at he
 ·rename_i cs h1
  obtain⟨z,hz,rfl,rfl,rfl⟩:=HP he
  rw[h1]at hv
  obtain⟨ws,PE,hq⟩:=BO hv
  obtain⟨x2,hx2,Wr⟩:=C8 (P:=P) hl PE hz
  exact⟨rfl,rfl,x2,by simp only[execOp,ho,hq,iB,Instr.field,run_underlying hu,iC,hf,asAgg,jt,hx2],Wr⟩
 ·simp at he
theorem To{ty el:TypeId}{n len:Nat}{agg:Bool}{x ix:Operand}{x' Pq:bG}(ho:o.op=.index ty x ix)(hu:P.underlying ty=some (.array len el))(hl:loadT P el=some (agg,n))(hn:dG P el=some n)(ht:TR β W t a.tmps)(hx:bI x=some x')(Ul:bI ix=some Pq)
  (he:dy aa t agg n len x' Pq=some (e,v,aX)):e=.p/\aX=aa/\cT P β W a.eval o v:=by
 have hv:=ht.eval hx
 unfold dy at he
 split at he
 ·rename_i cs j h1 h2
  obtain⟨k,m,lG,h0,rfl⟩:=ym ht Ul h2
  split at he
  ·rename_i au
   obtain⟨z,hz,rfl,rfl,rfl⟩:=HP he
   rw[h1]at hv
   obtain⟨ws,PE,hq⟩:=BO hv
   obtain⟨x2,hx2,Wr⟩:=C8 (P:=P) hl PE hz
   refine⟨rfl,rfl,x2,?_,Wr⟩
   simp only[execOp,ho,hq,lG,iB,Instr.index,asIntOf,jt,run_underlying hu,iC]
   rw[bt ⟨h0,Ω⟩]
   simp only[iB,yb hn,iC,hx2]
  ·simp at he
 ·simp at he
theorem Ou{ty:TypeId}{x ix:Operand}{x' Pq:bG}(ho:o.op=.index ty x ix)(hu:P.underlying ty=some .string)(ht:TR β W t a.tmps)(hx:bI x=some x')(Ul:bI ix=some Pq)
  (he:lS aa t x' Pq=some (e,v,aX)):e=.p/\aX=aa/\cT P β W a.eval o v:=by
 have hv:=ht.eval hx
 unfold lS at he
 split at he
 ·rename_i s j h1 h2
  obtain⟨k,m,lG,h0,rfl⟩:=ym ht Ul h2
  split at he
  ·rename_i b hb
   cases he
   rw[h1]at hv
   refine⟨rfl,rfl,.int .u8 b.toNat,?_,.int _ _⟩
   simp only[execOp,ho,HO hv,lG,iB,Instr.index,asIntOf,jt,run_underlying hu,iC,bt h0,hb]
  ·simp at he
 ·simp at he
theorem K0{x:Operand}{x':bG}{i:Nat}(ho:o.op=.extract x i)(ht:TR β W t a.tmps)(hx:bI x=some x')(he:bg aa t x' i=some (e,v,aX)):e=.p/\aX=aa/\cT P β W a.eval o v:=by
 have hv:=ht.eval hx;unfold bg at he;split at he
 ·rename_i vs h1;obtain⟨z,hz,rfl,rfl,rfl⟩:=HP he;rw[h1]at hv;obtain⟨ws,PE,hq⟩:=FD hv;obtain⟨y,hy,pT⟩:=PE.get hz;rw[pP]at hy;exact⟨rfl,rfl,y,by simp only[execOp,ho,hq,iB,Instr.extract,hy,jt,iC],pT⟩
 ·simp at he
end
def Xu(o:Option Value)(dflt n:Nat):Prop:=(o=none/\n=dflt)∨∃(k:IntKind)(i:Int),o=some (.int k i)/\0<=i/\i.toNat=n
section
variable {P:Program} {d:Nat} {ah:bR} {β:Pl} {W:World} {a:Act} {o:Oper} {t:List IV} {aa aX:aU} {e:eV} {v:IV}
theorem yr{x:Option Operand}{x':Option bG}{dflt n:Nat}(ht:TR β W t a.tmps)(hx:lU x=some x')(h:lC t dflt x'=some n):Xu (x.map a.eval) dflt n:=by
 cases x with
 |none=>simp only[lU,fZ]at hx;subst hx;simp only[lC,fZ]at h;exact .inl ⟨rfl,h.symm⟩
 |some y =>
  simp only[lU]at hx
  cases hy:bI y with
  |none=>rw[hy]at hx;simp at hx
  |some y' =>
   rw[hy]at hx;cases hx
   simp only[lC]at h
   obtain⟨k,i,h1,h2,h3⟩:=ym ht hy h
   exact .inr ⟨k,i,by simp[h1],h2,h3⟩
theorem uv{x:Option Operand}{x':Option bG}(hx:lU x=some x'):x'.isSome=x.isSome:=by
 cases x with
 |none=>simp only[lU,fZ]at hx;subst hx;rfl
 |some y =>
  simp only[lU]at hx
  cases hy:bI y with
  |none=>rw[hy]at hx;simp at hx
  |some y'=>rw[hy]at hx;cases hx;rfl
theorem Zo{x:Value}{dflt n y:Nat}(code:BoundsCode)(h:Xu (some x) dflt n)(hn:n<=y):(Instr.sliceBound x y code).run P W=.ok n W:=by
 rcases h with⟨h,_⟩|⟨k,i,h,h0,rfl⟩
 ·simp at h
 ·cases h;exact run_sliceBound W k i y code h0 Ω
theorem Ym{b:Bool}{lo hi mx:Option Value}{len cap l h m:Nat}(hm:Xu mx cap m)(hmc:m<=cap)(hh:Xu hi len h)(hhm:h<=m)(hl:Xu lo 0 l)(hlh:l<=h)(hx:mx.isSome=true->hi.isSome=true) :
  (Instr.sliceBounds b len cap lo hi mx).run P W=.ok (l,h,m) W:=by
 unfold Instr.sliceBounds
 cases mx with
 |none =>
  obtain rfl:m=cap:=by rcases hm with⟨_,h⟩|⟨_,_,h,_⟩<;>first|exact h|simp at h
  cases hi with
  |none =>
   obtain rfl:h=len:=by rcases hh with⟨_,h⟩|⟨_,_,h,_⟩<;>first|exact h|simp at h
   cases lo with
   |none =>
    obtain rfl:l=0:=by rcases hl with⟨_,h⟩|⟨_,_,h,_⟩<;>first|exact h|simp at h
    simp
   |some z=>simp[Zo _ hl hlh]
  |some y =>
   cases lo with
   |none =>
    obtain rfl:l=0:=by rcases hl with⟨_,h⟩|⟨_,_,h,_⟩<;>first|exact h|simp at h
    simp[Zo _ hh hhm]
   |some z=>simp[Zo _ hh hhm,Zo _ hl hlh]
 |some q =>
  cases hi with
  |none=>simp at hx
  |some y =>
   cases lo with
   |none =>
    obtain rfl:l=0:=by rcases hl with⟨_,h⟩|⟨_,_,h,_⟩<;>first|exact h|simp at h
    simp[Zo _ hm hmc,Zo _ hh hhm]
   |some z=>simp[Zo _ hm hmc,Zo _ hh hhm,Zo _ hl hlh]
theorem Xu.cap{mx:Option Value}{c c' m:Nat}(h:Xu mx c m)(hc:c<=c')(hm:m<=c):∃ m',Xu mx c' m'/\m<=m'/\m'<=c'/\(mx.isSome=true->m'=m)/\(mx.isSome=false->m=c/\m'=c'):=by
 rcases h with⟨rfl,rfl⟩|⟨k,i,rfl,h0,rfl⟩
 ·exact⟨c',.inl ⟨rfl,rfl⟩,hc,dz _,fun h=>by simp at h,fun _=>⟨rfl,rfl⟩⟩
 ·exact⟨_,.inr ⟨k,i,rfl,h0,rfl⟩,dz _,lW hm hc,fun _=>rfl,fun h=>by simp at h⟩
theorem Tm{ty el:TypeId}{n:Nat}{x:Operand}{lo hi mx:Option Operand}{x':bG}{lo' hi' mx':Option bG}(ho:o.op=.slice ty x lo hi mx)(hu:P.underlying ty=some (.slice el))(hn:dG P el=some n)(ht:TR β W t a.tmps)
  (hx:bI x=some x') (h1:lU lo=some lo') (h2:lU hi=some hi') (h3:lU mx=some mx') (Uj:¬ (mx.isSome&&hi.isNone)=true)
  (he:((eS n t (ρ t x') lo' hi' mx').map fun v=>(eV.p,v,aa))=some (e,v,aX)):e=.p/\aX=aa/\cT P β W a.eval o v:=by
 have hv:=ht.eval hx
 obtain⟨z,hz,rfl,rfl,rfl⟩:=HP he
 refine⟨rfl,rfl,?_⟩
 have DB:(mx.map a.eval).isSome=true->(hi.map a.eval).isSome=true:=by cases mx<;>cases hi<;>simp at Uj ⊢
 have run:∀(p:Option Addr)(len cap l h m:Nat),(Instr.sliceBounds true len cap (lo.map a.eval) (hi.map a.eval) (mx.map a.eval)).run P W=.ok (l,h,m) W ->
   (Instr.sliceAt ty (.slice p len cap) (lo.map a.eval) (hi.map a.eval) (mx.map a.eval)).run P W=.ok (.slice (if m=l then p else p.map (·.add (l*n))) (h-l) (m-l)) W:=fun p len cap l h m hb=>by
  simp only[Instr.sliceAt,Instr.slice,iB,run_underlying hu,iC,hb,yb hn,jt]
 unfold eS at hz
 split at hz
 ·rename_i q1
  split at hz
  ·rename_i l h m e1 e2 e3
   split at hz
   ·rename_i hc
    cases hz
    rw[q1]at hv
    have hb:=Ym (P:=P) (W:=W) (b:=true) (yr ht h3 e3) hc.1 (yr ht h2 e2) hc.2.1 (yr ht h1 e1) hc.2.2 DB
    refine⟨.slice none 0 0,?_,.nilsl⟩
    simp only[execOp,ho,yL hv,iB,run _ _ _ _ _ _ hb,iC,jt]
    obtain⟨hm0,hh0,hl0⟩:=hc
    have:m=0:=Ω
    have:h=0:=Ω
    have:l=0:=Ω
    simp[*]
   ·simp at hz
  ·simp at hz
 ·rename_i lv i off len cap sz tight q1
  split at hz
  ·rename_i l h m e1 e2 e3
   split at hz
   ·rename_i hc
    obtain⟨hc,rfl⟩:=hc
    cases hz
    rw[q1]at hv
    obtain⟨k,s,o',cap',hb,hoff,hl,qE,Fj,hroom,hq⟩:=XO hv
    obtain⟨m',hm',g1,g2,g3,g4⟩:=(yr ht h3 e3).cap qE hc.1
    have oq:=Ym (P:=P) (W:=W) (b:=true) hm' g2 (yr ht h2 e2) (lW hc.2.1 g1) (yr ht h1 e1) hc.2.2 DB
    have wC:mx'.isSome=(mx.map a.eval).isSome:=by rw[uv h3];cases mx<;>rfl
    have hone:∃ o2,(if m'=l then(some ⟨k,o',none⟩:Option Addr)else(some ⟨k,o',none⟩:Option Addr).map (·.add (l*sz)))=some ⟨k,o2,none⟩/\(m-l=0∨o2=off+l*sz+s)/\o2+(m'-l)*sz<=o'+cap'*sz:=by
     by_cases hml:m'=l
     ·rw[bt hml];exact⟨o',rfl,.inl Ω,by rw[hml,rM,qw];omega⟩
     ·rw[bC hml];refine⟨o'+l*sz,by simp[Zj],?_,?_⟩
      ·rcases hoff with h0|rfl
       ·exact .inl Ω
       ·exact .inr Ω
      ·rw[uO,←BU];exact zl5 (HL _ Ω) _
    obtain⟨o2,A7,ho3,ho4⟩:=hone
    refine⟨_,?_,.slM hb (o':=o2) (cap':=m'-l) ho3 Ω Ω (fun h=>?_) (let⟨c1,t1,f1,r1,r2⟩:=hroom;⟨c1,t1,f1,r1,lW ho4 r2⟩)⟩
    ·simp only[execOp,ho,hq,iB,run _ _ _ _ _ _ oq,iC,jt,A7]
    ·simp only[nu]at h
     rcases h with h|h
     ·rw[wC]at h;rw[g3 h]
     ·have:=Fj h
      cases hss:(mx.map a.eval).isSome with
      |true=>rw[g3 hss]
      |false=>obtain⟨r1,r2⟩:=g4 hss;rw[r1,r2,this]
   ·simp at hz
  ·simp at hz
 ·rename_i cs len sz tight q1
  split at hz
  ·rename_i l h m e1 e2 e3
   split at hz
   ·rename_i hc
    obtain⟨hc,rfl⟩:=hc
    cases hz
    rw[q1]at hv
    obtain⟨k,s,cap',ad,hk,hcell,hlen,hl,Fj,tY,hq⟩:=xW hv
    obtain⟨m',hm',g1,g2,g3,g4⟩:=(yr ht h3 e3).cap hl hc.1
    have oq:=Ym (P:=P) (W:=W) (b:=true) hm' g2 (yr ht h2 e2) (lW hc.2.1 g1) (yr ht h1 e1) hc.2.2 DB
    have wC:mx'.isSome=(mx.map a.eval).isSome:=by rw[uv h3];cases mx<;>rfl
    have hone:∃ a2:Addr,(if m'=l then(some ad:Option Addr)else(some ad:Option Addr).map (·.add (l*sz)))=some a2/\(h-l≠0->a2=⟨k,s+l*sz,none⟩):=by
     by_cases hml:m'=l
     ·rw[bt hml];exact⟨ad,rfl,fun h0=>by omega⟩
     ·rw[bC hml];refine⟨ad.add (l*sz),rfl,fun h0=>?_⟩;rw[tY Ω];exact Zj rfl _
    obtain⟨a2,A7,ho3⟩:=hone
    rw[zi]
    have hle:l*sz+(h-l)*sz<=cs.length:=by rw[hlen,←BU];exact HL _ Ω
    refine⟨_,?_,za0 (s:=s+l*sz) (cap':=m'-l) (fun h0=>hk Ω) (fun j zz hj=>?_) ?_ Ω (fun hg=>?_) ho3⟩
    ·simp only[execOp,ho,hq,iB,run _ _ _ _ _ _ oq,iC,jt,A7]
    ·rw[Fq]at hj
     split at hj
     ·rename_i hjl
      rw[Sz]at hj
      obtain⟨y,hy,pT⟩:=hcell _ zz hj
      refine⟨y,?_,pT⟩
      rw[←hy];congr 2;omega
     ·simp at hj
    ·rw[k8,tD];omega
    ·cases hss:mx'.isSome with
     |true =>
      rw[hss,bt rfl]at hg
      rw[wC]at hss
      have:=g3 hss
      have:m=h:=by simpa using hg
      omega
     |false =>
      rw[hss,bC Ψ]at hg
      rw[wC]at hss
      obtain⟨r1,r2⟩:=g4 hss
      simp only[gJ,n9]at hg
      have:=Fj hg.1
      omega
   ·simp at hz
  ·simp at hz
 ·simp at hz
theorem Ol{ty:TypeId}{x:Operand}{lo hi:Option Operand}{x':bG}{lo' hi':Option bG}(ho:o.op=.slice ty x lo hi none)(hu:P.underlying ty=some .string)(ht:TR β W t a.tmps)(hx:bI x=some x')(h1:lU lo=some lo')(h2:lU hi=some hi')
  (he:((lK t (ρ t x') lo' hi').map fun v=>(eV.p,v,aa))=some (e,v,aX)):e=.p/\aX=aa/\cT P β W a.eval o v:=by
 have hv:=ht.eval hx
 obtain⟨z,hz,rfl,rfl,rfl⟩:=HP he
 refine⟨rfl,rfl,?_⟩
 unfold lK at hz
 split at hz
 ·rename_i s q1
  split at hz
  ·rename_i l h e1 e2
   split at hz
   ·rename_i hc
    cases hz
    rw[q1]at hv
    have hb:=Ym (P:=P) (W:=W) (b:=false) (mx:=none) (cap:=s.size) (m:=s.size) (.inl ⟨rfl,rfl⟩) (dz _) (yr ht h2 e2) hc.1 (yr ht h1 e1) hc.2 (fun h=>by simp at h)
    refine⟨.string (s.extract l h),?_,.str _⟩
    simp only[execOp,ho,HO hv,iB,Instr.sliceAt,Instr.slice,run_underlying hu,iC,NC,SQ,l7,if_false,hb,jt]
   ·simp at hz
  ·simp at hz
 ·simp at hz
end
def Hy(aK aa:aU):Prop:=∀(i:Nat)(o:aO),aK[i]?=some o->o.live=true->aa[i]?=some o
theorem Hy.refl(aa:aU):Hy aa aa:=fun _ _ h _=>h
theorem YF{d:Nat}{ah:bR}{aK aa:aU}(h:Hy aK aa){l i:Nat}{o:aO}(hl:look d ah aK l i=some o)(ho:o.live=true):look d ah aa l i=some o:=by
 unfold look at hl ⊢;split
 ·rename_i e;rw[bt e]at hl;exact h i o hl ho
 ·rename_i e;rw[bC e]at hl;exact hl
theorem yo{aa aX:aU}{id:Nat}{o:aO}{u v:IV}{e:eV}(h:dU aa id o u=some (e,v,aX)):aa[id]?=some .free/\e=.a/\v=u/\aX=aa.set id o:=by
 unfold dU at h;split at h
 ·rename_i hf;cases h;exact⟨hf,rfl,rfl,zi _⟩
 ·simp at h
theorem za4:∀(xs:List IV)(c:List IV)(off:Nat),(gV c off xs).length=c.length
 |[],_,_=>rfl
 |x::xs,c,off=>by simp only[gV];rw[za4 xs];simp
theorem ZQ:∀(xs:List IV)(c:List IV)(off j:Nat),off+xs.length<=c.length->(gV c off xs)[j]?=if off<=j/\j<off+xs.length then xs[j-off]? else c[j]?
 |[],c,off,j,_=>by simp only[gV,dw];rw[bC Ω]
 |x::xs,c,off,j,h=>by
  simp only[gV];rw[ZQ xs (c.set off x) (off+1) j (by simp at h ⊢;omega)];simp only[cu]at h ⊢;by_cases h1:off+1<=j/\j<off+1+xs.length
  ·rw[bt h1,bt Ω,show j-off=(j-(off+1))+1 by omega,jP]
  ·rw[bC h1];by_cases h2:j=off
   ·subst h2;rw[bt Ω,rM,qU,SO,bt rfl,bt Ω]
   ·rw[bC Ω,SO,bC (fun e=>h2 e.symm)]
section
variable {P:Program} {d:Nat} {ah:bR} {β:Pl} {W:World} {a:Act} {o:Oper} {t:List IV} {aa aX aK:aU} {e:eV} {v:IV} {n0:Nat}
theorem An{id:Nat}{c:List IV}{cs:Array Value}{ty:TypeId}(hR:RS β (look d ah aa) W)(hf:aa[id]?=some .free)(h:dV β W c cs.toList){W':World}(hW:∃ q,W'=({ W with drawn:=q }:World).alloc (.cells cs ty)) :
  RS (upd β d id (W.heap.size,0)) (look d ah (aa.set id (.cells c))) W'/\Fr d β W (upd β d id (W.heap.size,0)) W':=by
 obtain⟨q,rfl⟩:=hW
 refine zed hR hf (fun l i s' o' hb _ _=>absurd (hR.here _ _ _ _ hb) Ω) (.inl (dz _)) (fun k2 _ hk2=>Below.heap_alloc _ _ k2 hk2) Ψ Ψ (fun c t f hc=>absurd (Fb.1 hc).1 (znj _)) rfl rfl rfl (fun e=>?_)
 refine⟨cs,ty,Zz _ _,fun j x hx=>?_⟩
 obtain⟨y,hy,hv⟩:=h.get hx
 rw[pP]at hy
 exact⟨y,hy,hv.ext e⟩
theorem aag{ty:TypeId}{agg:Bool}{n:Nat}{x:Operand}{x':bG}(ho:o.op=.load ty x)(hl:loadT P ty=some (agg,n))(hx:bI x=some x')(ht:TR β W t a.tmps)(hR:RS β (look d ah aa) W)(hV:Hy aK aa)
  (he:dL d ah aK aa t agg n x'=some (e,v,aX)):aX=aa/\cT P β W a.eval o v:=by
 have hv:=ht.eval hx
 unfold dL at he
 have fin:∀(ad:Addr)(c:List IV)(off:Nat)(z:IV),a.eval x=.pointer (some ad)->At β W c off ad->(bM c off n).bind (mg agg)=some z->cT P β W a.eval o z:=fun ad c off z hq hA hr=>by obtain⟨y,hy,pT⟩:=Dn (P:=P) hl hA hr;exact⟨y,by simp only[execOp,ho,hq,iB,Instr.loadAt,Instr.sureAddr,jt,iC,hy],pT⟩
 split at he
 ·rename_i l i off q1
  rw[q1]at hv
  split at he
  ·rename_i c hg
   cases hz:(bM c off n).bind (mg agg)with
   |none=>rw[hz]at he;simp at he
   |some z =>
    rw[hz]at he;cases he
    obtain⟨ad,hq,hA⟩:=JX hR hv (YF hV hg rfl)
    exact⟨rfl,fin ad c off v hq hA hz⟩
  ·simp at he
 ·rename_i cs off q1
  rw[q1]at hv
  cases hz:(bM cs off n).bind (mg agg)with
  |none=>rw[hz]at he;simp at he
  |some z =>
   rw[hz]at he;cases he
   obtain⟨ad,hq,hA⟩:=Vc hv
   exact⟨rfl,fin ad cs off v hq hA hz⟩
 ·simp at he
theorem Tl{ty:TypeId}{n:Nat}{x y:Operand}{x' y':bG}(ho:o.op=.store ty x y)(hn:dG P ty=some n)(hn0:n≠0)(hx:bI x=some x')(hy:bI y=some y')(ht:TR β W t a.tmps)(hR:RS β (look d ah aa) W)
  (he:cL d aa t n x' y'=some (e,v,aX)):gG P d ah β W a.eval o v aX:=by
 have hv:=ht.eval hx
 have hw:=zQ (ht.eval hy)
 unfold cL at he
 split at he
 ·rename_i l i off q1
  rw[q1]at hv
  split at he
  ·rename_i c hg
   split at he
   ·rename_i hc
    obtain⟨rfl,hlen,hfit,hsc⟩:=hc
    cases he
    rw[zi,zi]
    obtain⟨k,s,hb,hq⟩:=XP hv
    have hg':look l ah aa l i=some (.cells c):=by rw[yf];exact hg
    obtain⟨c',ty',hh,qE⟩:=hR.obj _ _ _ _ _ hb hg'
    have hsz:(a.eval y).cells.size=n:=by have:=hw.1;simp at this;omega
    have hroom:off+s+n<=c'.size:=by obtain⟨z,hz,_⟩:=qE (off+n-1) _ (cK Ω);have:=(Fb.1 hz).1;omega
    have hone:=yY hw hsc
    have hrun:=run_storeCells_at (P:=P) k (off+s) ty' (a.eval y).cells.toList 0 c' W hh (by simp[hsz];omega) hone
    obtain⟨W',hW'⟩:∃ W',W'=W.setRow k (c'.toList.take (off+s+0)++(a.eval y).cells.toList++c'.toList.drop (off+s+0+(a.eval y).cells.toList.length)).toArray:=⟨_,rfl⟩
    have hO:Ext β W β W'->OR β W' k s (.cells (gV c off (ρ t y').cells)):=fun e=>by
     refine⟨_,ty',by rw[hW'];exact setRow_heap W k c' _ ty' _ hh,fun j z hz=>?_⟩;rw[ZQ _ _ _ _ (by rw[hlen];exact hfit)]at hz;simp only[sY,zk9];have jD:(a.eval y).cells.toList.length=n:=by simp[hsz]
     by_cases hj:off<=j/\j<off+(ρ t y').cells.length
     ·rw[bt hj]at hz;obtain⟨r,hr,tT⟩:=hw.get hz;refine⟨r,?_,tT.ext e⟩;rw[kR,jd (by simp;omega),gT (by simp[hsz];omega)];rw[←hr];congr 1;simp;omega
     ·rw[bC hj]at hz;obtain⟨r,hr,tT⟩:=qE j z hz;refine⟨r,?_,tT.ext e⟩;rw[←hr,kR,←pP];by_cases hjl:j<off
      ·rw[gT (by simp;omega),Fq,bt Ω]
      ·rw[jd (by simp;omega),jd (by simp[hsz];omega),Sz];congr 1;simp[hsz];omega
    obtain ⟨r6,hF⟩:=zee (W':=W') hR hg rfl hb (fun k2 hk2=>by rw [hW']; exact setRow_other W k k2 _ hk2) (by rw [hW']; simp) (fun c2 t2 f2 mF=>by
     rw[hh]at mF;cases mF;exact ⟨_,by rw [hW']; exact setRow_heap W k c' _ ty' _ hh,by simp [hsz]; omega⟩) (by rw [hW']; rfl) (by rw [hW']; rfl) (by rw [hW']; rfl) hO rfl
    refine⟨.skip,β,W',?_,rfl,r6,hF⟩
    simp only[execOp,ho,hq,iB,Instr.storeAt,Instr.sureAddr,storeVar,jt,iC,yb hn]
    rw[bC (by simp[hsz]),hrun,←hW']
    simp only[iC]
   ·simp at he
  ·simp at he
 ·simp at he
theorem aad{el:TypeId}{z:IV}{slot:Nat}(ho:o.op=.alloc el)(hz:jl P el=some z)(hR:RS β (look d ah aa) W)(he:Bm d n0 aa z.cells slot=some (e,v,aX)):gG P d ah β W a.eval o v aX:=by
 unfold Bm at he;obtain⟨hf,rfl,rfl,rfl⟩:=yo he;obtain⟨i,zv,hi,Dz,hv⟩:=yE (β:=β) (W:=W) hz;obtain⟨r6,hF⟩:=An (ty:=el) hR hf (zQ hv) (W':=W.alloc (.cells zv.cells el)) ⟨W.drawn,rfl⟩;refine⟨.value (.pointer (some ⟨W.heap.size,0,none⟩)),_,_,?_,?_,r6,hF⟩
 ·simp[execOp,ho,Instr.alloc,zeroValue,typeInfo,hi,Dz,newVar,newRow]
 ·exact .ptrM (s:=0) (zU _ _ _ _)
theorem acz{el:TypeId}{x:Operand}{x':bG}{slot:Nat}(ho:o.op=.box el x)(hx:bI x=some x')(ht:TR β W t a.tmps)(hR:RS β (look d ah aa) W)(he:ff d n0 aa t x' slot=some (e,v,aX)):gG P d ah β W a.eval o v aX:=by
 unfold ff at he;split at he
 ·obtain⟨hf,rfl,rfl,rfl⟩:=yo he;obtain⟨r6,hF⟩:=An (ty:=el) hR hf (zQ (ht.eval hx)) (W':=W.alloc (.cells (a.eval x).cells el)) ⟨W.drawn,rfl⟩;refine⟨.value (.pointer (some ⟨W.heap.size,0,none⟩)),_,_,?_,?_,r6,hF⟩
  ·simp[execOp,ho,Instr.box,newVar,newRow]
  ·exact .ptrM (s:=0) (zU _ _ _ _)
 ·simp at he
theorem On{ty el:TypeId}{len n slot:Nat}{parts:Array (Nat×Operand)}{z:IV}{ps:List (Nat×Nat×bG)}(ho:o.op=.buildSlice ty len parts)(hu:P.underlying ty=some (.slice el))(hz:jl P el=some z)(hn:dG P el=some n)
  (h24:len*n<=2 ^ 24) (hzl:z.cells.length=n) (hn0:0<n) (hp:lT (fun i=>some (i*n,n)) parts.toList=some ps) (ht:TR β W t a.tmps) (hR:RS β (look d ah aa) W)
  (he:gW d n0 aa t z.cells n len ps slot=some (e,v,aX)):gG P d ah β W a.eval o v aX:=by
 unfold gW at he
 split at he
 rotate_left
 ·simp at he
 rename_i c' ve
 split at he
 rotate_left
 ·simp at he
 obtain⟨hf,rfl,rfl,rfl⟩:=yo he
 obtain⟨i,zv,hi,Dz,hv⟩:=yE (β:=β) (W:=W) hz
 obtain⟨ie,hie,hs⟩:=yq hn
 obtain rfl:i=ie:=by rw[hi]at hie;exact kT hie
 have Nf:=zQ hv
 have hlen:zv.cells.size=n:=by have:=Nf.1;simp at this;omega
 have e0:dV β W (rep z.cells len) (if len*n=0 then(#[]:Array Value)else(Array.range (len*n)).map (zv.cells[·%zv.cells.size]!)).toList:=by
  by_cases h0:len*n=0
  ·have hl0:len=0:=by rcases zm3.1 h0 with h|h<;>omega
   subst hl0;simp[rep];exact .nil
  ·rw[bC h0];have:=za3 (β:=β) (W:=W) Nf Ω len;rw[hzl]at this;exact this
 obtain⟨cs',e1,e2⟩:=YE _ ht hp e0 ve
 obtain⟨r6,hF⟩:=An (ty:=el) hR hf e2 (W':=W.alloc (.cells cs' el)) ⟨W.drawn,rfl⟩
 refine⟨.value (.slice (some ⟨W.heap.size,0,none⟩) len len),_,_,?_,?_,r6,hF⟩
 ·have o7:Instr.fill (fun i=>some (i*n,n)) ((Array.range (len*n)).map (((if len*n=0 then(#[]:Array Value)else zv.cells))[·%((if len*n=0 then(#[]:Array Value)else zv.cells)).size]!)) (parts.map fun p=>(p.1,a.eval p.2)).toList=some cs':=by
   rw[←e1,zms];congr 1;by_cases h0:len*n=0
   ·rw[h0];simp
   ·simp only[bC h0]
  simp only[execOp,ho,iB,Instr.buildSlice,run_underlying hu,iC,yb hn]
  rw[bC Ω]
  by_cases h0:len*n=0
  ·rw[bt h0]at o7
   simp only[h0,if_true,iB,jt,iC]
   rw[h0]at o7
   rw[o7]
   simp[newRow,run_newObj]
  ·rw[bC h0]at o7
   rw[bC h0]
   simp only[zeroValue,typeInfo,iB,run_program,iC,hie,Dz,jt]
   rw[o7]
   simp[newRow,run_newObj]
 ·have hlc:c'.length=cs'.size:=by have:=e2.1;simpa using this
  have hlr:∀{c c'':List IV}{ps},dh t c ps=some c''->c''.length=c.length:=by
   intro c c'' ps;induction ps generalizing c with
   |nil=>intro h;simp only[dh,fZ]at h;rw[h]
   |cons p ps ih =>
    obtain⟨off,m,x⟩:=p
    intro h
    simp only[dh,zi]at h
    split at h
    ·rw[ih h]
     have:∀(xs:List IV)(c:List IV)(off:Nat),(gV c off xs).length=c.length:=by
      intro xs;induction xs with
      |nil=>intro c off;rfl
      |cons x xs ih2=>intro c off;simp only[gV];rw[ih2];simp
     exact this _ _ _
    ·simp at h
  have jD:=hlr ve
  rw[ZP,hzl]at jD
  exact .slM (s:=0) (zU _ _ _ _) (.inr Ψ) (dz _) (dz _) (fun h=>by simp at h) ⟨_,_,_,Zz _ _,Ω⟩
theorem Tn{ty:TypeId}{slot:Nat}(ho:o.op=.makeMap ty none)(hR:RS β (look d ah aa) W)(he:tj d n0 aa slot=some (e,v,aX)):gG P d ah β W a.eval o v aX:=by
 unfold tj at he;obtain⟨hf,rfl,rfl,rfl⟩:=yo he;obtain⟨r6,hF⟩:=zed (s:=0) (o:=.map [] [] [] 0) (W':=W.alloc (.map #[] 0)) hR hf (fun l i s' o' hb _ _=>absurd (hR.here _ _ _ _ hb) (znj _)) (.inl (dz _)) (fun k2 _ hk2=>Below.heap_alloc _ _ k2 hk2) Ψ Ψ (fun c t f hc=>absurd (Fb.1 hc).1 (znj _)) rfl rfl rfl
  (fun e=>⟨#[],Zz _ _,rfl,rfl,rfl,fun j en hj=>by simp at hj⟩)
 refine⟨.value (.map (some W.heap.size)),_,_,?_,.mapM (s:=0) (zU _ _ _ _),r6,hF⟩;simp[execOp,ho,Instr.makeMap]
theorem ae2{isMax:Bool}{c:Go.Call}{x y:Operand}{x' y':bG}(ho:o.op=.call c)(o9:c.callee=.builtin (if isMax then .max else .min))(hargs:c.args.toList=[x,y])(hx:bI x=some x')(hy:bI y=some y')(ht:TR β W t a.tmps)
  (he:iW aa t isMax x' y'=some (e,v,aX)):e=.p/\aX=aa/\cT P β W a.eval o v:=by
 have hv:=ht.eval hx
 have hw:=ht.eval hy
 unfold iW at he
 split at he
 ·rename_i k p k' q h1 h2
  cases he
  rw[h1]at hv;rw[h2]at hw
  have pg:c.args=#[x,y]:=by rw[←znl (xs:=c.args),hargs]
  refine⟨rfl,rfl,_,?_,.int _ _⟩
  cases isMax
  ·simp only[execOp,ho,resolve,o9,pg,l7,if_false,XA,nK,BY,YD hv,YD hw,iB,jt,iC,invoke,builtin,run_min_int2]
  ·simp only[execOp,ho,resolve,o9,pg,if_true,XA,nK,BY,YD hv,YD hw,iB,jt,iC,invoke,builtin,run_max_int2]
 ·simp at he
end
theorem Z7:∀{ks:List Nat}{xs ys:List IV}{r:Bool},fM ks xs ys=some r->xs.length=ks.length/\ys.length=ks.length
 |[],[],[],_,_=>⟨rfl,rfl⟩
 |k::ks,x::xs,y::ys,r,h=>by
  simp only[fM]at h;split at h
  ·have:=Z7 h;simp[this.1,this.2]
  ·split at h
   ·rename_i z hz;have:=Z7 hz;simp[this.1,this.2]
   ·simp at h
  ·simp at h
 |[],_::_,_,_,h=>by simp[fM]at h
 |[],[],_::_,_,h=>by simp[fM]at h
 |_::_,[],_,_,h=>by simp[fM]at h
 |_::_,_::_,[],_,h=>by simp[fM]at h
theorem ZR:∀{k1 k2:List Nat}{xs ys:List IV}{r:Bool},fM (k1++k2) xs ys=some r ->
  ∃ r1 r2,fM k1 (xs.take k1.length) (ys.take k1.length)=some r1/\fM k2 (xs.drop k1.length) (ys.drop k1.length)=some r2/\r=(r1&&r2)
 |[],k2,xs,ys,r,h=>⟨true,r,rfl,h,Ψ⟩
 |k::k1,k2,xs,ys,r,h=>by
  cases xs with
  |nil=>simp[fM]at h
  |cons x xs =>
   cases ys with
   |nil=>simp[fM]at h
   |cons y ys =>
    simp only[gQ,fM]at h
    simp only[cu,zl6,List.drop_succ_cons]
    split at h
    ·rename_i hx
     obtain⟨r1,r2,h1,h2,rfl⟩:=ZR h
     exact⟨r1,r2,by simp only[fM,hx,h1],h2,rfl⟩
    ·rename_i hx
     split at h
     ·rename_i z hz
      cases h
      obtain⟨r1,r2,h1,h2,_⟩:=ZR hz
      exact⟨false,r2,by simp only[fM,hx,h1],h2,rfl⟩
     ·simp at h
    ·simp at h
def jT(u:TypeDesc)(ws:List Value):Value:=if iH u then .agg ws.toArray else ws.headD undef
section
variable {P:Program} {β:Pl} {W:World}
theorem UN{x y:IV}{a b:Value}{u:TypeDesc}{ty:TypeId}{r:Bool}{k:Nat}(hu:P.underlying ty=some u)(hx:VR β W x a)(hy:VR β W y b)(hk:(u=.bool/\k=0)∨(∃ q,u=.int q/\k=1)∨(u=.string/\k=2))(h:eqv k x y=some r)(E:Nat) :
  (Op.equalIn (E+1) ty a b).run P W=.ok r W:=by
 unfold eqv at h
 split at h
 ·rename_i q m q' n
  split at h
  ·rename_i hq
   obtain⟨rfl,rfl⟩:=hq
   cases h
   rw[YD hx,YD hy]
   rcases hk with⟨_,h⟩|⟨q2,rfl,_⟩|⟨_,h⟩
   ·simp at h
   ·exact run_equalIn_int W E ty q q2 m n hu
   ·simp at h
  ·simp at h
 ·rename_i m n
  split at h
  ·rename_i hq
   subst hq
   cases h
   rw[HO hx,HO hy]
   rcases hk with⟨_,h⟩|⟨q2,_,h⟩|⟨rfl,_⟩
   ·simp at h
   ·simp at h
   ·exact run_equalIn_string W E ty m n hu
  ·simp at h
 ·rename_i m n
  split at h
  ·rename_i hq
   subst hq
   cases h
   rw[Z6 hx,Z6 hy]
   rcases hk with⟨rfl,_⟩|⟨q2,_,h⟩|⟨_,h⟩
   ·exact run_equalIn_bool W E ty m n hu
   ·simp at h
   ·simp at h
  ·simp at h
 ·simp at h
theorem yM{D:Nat}{ty:TypeId}{ks:List Nat}(h:gw P D ty=some ks):∃ D' u,D=D'+1/\P.underlying ty=some u/\dG P ty=some ks.length /\
  ((u=.bool/\ks=[0])∨(∃ q,u=.int q/\ks=[1])∨(u=.string/\ks=[2])∨(∃ fs,u=.struct fs/\P.stoodInHeld ty=false/\Bw (gw P D') fs.toList 0=some ks) ∨
   (∃ len e l,u=.array len e/\gw P D' e=some l/\ks=p8 l len)):=by
 cases D with
 |zero=>simp[gw]at h
 |succ D =>
  simp only[gw]at h
  split at h
  ·rename_i hu
   split at h
   ·rename_i hs;cases h;exact⟨D,_,rfl,hu,hs,.inl ⟨rfl,rfl⟩⟩
   ·simp at h
  ·rename_i q hu
   split at h
   ·rename_i hs;cases h;exact⟨D,_,rfl,hu,hs,.inr (.inl ⟨q,rfl,rfl⟩)⟩
   ·simp at h
  ·rename_i hu
   split at h
   ·rename_i hs;cases h;exact⟨D,_,rfl,hu,hs,.inr (.inr (.inl ⟨rfl,rfl⟩))⟩
   ·simp at h
  ·rename_i fs hu
   split at h
   ·simp at h
   ·rename_i hst
    split at h
    ·rename_i l hl
     split at h
     ·rename_i hs;cases h;exact⟨D,_,rfl,hu,hs,.inr (.inr (.inr (.inl ⟨fs,rfl,by simpa using hst,hl⟩)))⟩
     ·simp at h
    ·simp at h
  ·rename_i len e hu
   split at h
   ·rename_i l hl
    split at h
    ·rename_i hs
     cases h
     have:∀ n,(p8 l n).length=n*l.length:=by
      intro n;induction n with
      |zero=>simp[p8]
      |succ n ih=>simp only[p8,eR,ih,BU,uP];omega
     exact⟨D,_,rfl,hu,by rw[this];exact hs,.inr (.inr (.inr (.inr ⟨len,e,l,rfl,hl,rfl⟩)))⟩
    ·simp at h
   ·simp at h
  ·simp at h
theorem Zt{D:Nat}{ty:TypeId}{ks:List Nat}{u:TypeDesc}(h:gw P D ty=some ks)(hu:P.underlying ty=some u)(ws:List Value)(off:Nat)(hl:off+ks.length<=ws.length) :
  (part ty ws.toArray off).run P W=.ok (jT u ((ws.drop off).take ks.length)) W:=by
 obtain⟨D',u',rfl,Wt,hs,hc⟩:=yM h
 rw[hu]at Wt
 obtain rfl:=kT Wt
 cases ha:iH u with
 |true =>
  simp only[part,iB,yZ hu,ha,iC,if_true,yb hs,jt,jT]
  congr 2
  apply znz
  simp[zn4]
 |false =>
  have hk1:ks.length=1:=by rcases hc with⟨_,rfl⟩|⟨_,_,rfl⟩|⟨_,rfl⟩|⟨_,rfl,_⟩|⟨_,_,_,rfl,_⟩<;>first|rfl|simp[iH]at ha
  rw[hk1]at hl ⊢
  have hw:ws.toArray[off]?=some ws[off]:=by simp
  simp only[part,iB,yZ hu,ha,iC,l7,if_false,hw,jt,jT]
  congr 1
  rw[List.headD_eq_head?_getD,List.head?_take,List.head?_drop,bC Ω,cK Ω]
  rfl
theorem Jz:∀(D:Nat)(ty:TypeId)(E:Nat)(ks:List Nat)(u:TypeDesc)(xs ys:List IV)(ws us:List Value)(r:Bool),gw P D ty=some ks->D<=E->P.underlying ty=some u->dV β W xs ws->dV β W ys us->fM ks xs ys=some r ->
  (Op.equalIn E ty (jT u ws) (jT u us)).run P W=.ok r W:=by
 intro D
 induction D with
 |zero=>intro ty E ks u xs ys ws us r h;simp[gw]at h
 |succ D ih =>
  intro ty E ks u xs ys ws us r h hE hu hx hy he
  obtain⟨E,rfl⟩:∃ E',E=E'+1:=⟨E-1,Ω⟩
  obtain⟨D',u',hD,Wt,hs,hc⟩:=yM h
  obtain rfl:D=D':=Ω
  rw[hu]at Wt
  obtain rfl:=kT Wt
  obtain⟨l1,l2⟩:=Z7 he
  have basic:∀ k,ks=[k]->iH u=false->((u=.bool/\k=0)∨(∃ q,u=.int q/\k=1)∨(u=.string/\k=2))->(Op.equalIn (E+1) ty (jT u ws) (jT u us)).run P W=.ok r W:=by
   intro k hk ha hkk;subst hk;obtain⟨x,rfl⟩:∃ x,xs=[x]:=zmb.1 l1;obtain⟨y,rfl⟩:∃ y,ys=[y]:=zmb.1 l2;obtain⟨a,rfl⟩:∃ a,ws=[a]:=zmb.1 hx.1.symm;obtain⟨b,rfl⟩:∃ b,us=[b]:=zmb.1 hy.1.symm;have h1:eqv k x y=some r:=by
    simp only[fM]at he;split at he
    ·rename_i hq;cases he;exact hq
    ·rename_i hq;cases he;exact hq
    ·simp at he
   simp only[jT,ha,l7,if_false,List.headD_cons];exact UN hu (hx.2 0 x a rfl rfl) (hy.2 0 y b rfl rfl) hkk h1 E
  rcases hc with⟨rfl,rfl⟩|⟨q,rfl,rfl⟩|⟨rfl,rfl⟩|⟨fs,rfl,hst,ad4⟩|⟨len,e,l,rfl,hl,rfl⟩
  ·exact basic 0 rfl rfl (.inl ⟨rfl,rfl⟩)
  ·exact basic 1 rfl rfl (.inr (.inl ⟨q,rfl,rfl⟩))
  ·exact basic 2 rfl rfl (.inr (.inr ⟨rfl,rfl⟩))
  ·simp only[jT,iH,if_true]
   have hf:P.fieldsOf ty=fs:=by simp[Program.fieldsOf,hu]
   rw[run_equalIn_struct W E ty ws.toArray us.toArray (by rw[hf];exact hu) hst,hf]
   have go:∀(fl:List Field)(off:Nat)(kl:List Nat)(r:Bool),Bw (gw P D) fl off=some kl->off+kl.length=ws.length->us.length=ws.length->fM kl (xs.drop off) (ys.drop off)=some r->(Op.eqFields E ws.toArray us.toArray fl).run P W=.ok r W:=by
    intro fl;induction fl with
    |nil =>
     intro off kl r hk ho hlen hr
     simp only[Bw,fZ]at hk
     subst hk
     obtain⟨m1,m2⟩:=Z7 hr
     have:r=true:=by have e1:xs.drop off=[]:=sr.1 m1;have e2:ys.drop off=[]:=sr.1 m2;rw[e1,e2]at hr;simpa[fM]using hr.symm
     subst this
     simp[Op.eqFields]
    |cons f fl ihf =>
     intro off kl r hk ho hlen hr
     simp only[Bw]at hk
     split at hk
     ·rename_i hnm
      split at hk
      ·rename_i a1 ha1
       split at hk
       ·rename_i b1 j8
        cases hk
        obtain⟨r1,r2,qm,hr2,rfl⟩:=ZR hr
        rw[XG]at hr2
        rw[XG]at hr2
        simp only[eR]at ho
        obtain⟨_,uf,_,huf,_,_⟩:=yM ha1
        have p1:=Zt (W:=W) ha1 huf ws off Ω
        have p2:=Zt (W:=W) ha1 huf us off Ω
        have q1:=ih f.type E a1 uf _ _ _ _ r1 ha1 Ω huf ((hx.drop off).take a1.length) ((hy.drop off).take a1.length) qm
        simp only[Op.eqFields,hnm.1,ne_eq,zna,if_true,hnm.2,iB,p1,p2,iC,q1]
        cases r1
        ·simp
        ·simp only[vA,l7,if_false,pX]
         exact ihf (off+a1.length) b1 r2 j8 Ω hlen hr2
       ·simp at hk
      ·simp at hk
     ·simp at hk
   exact go fs.toList 0 ks r ad4 (by rw[fO,←l1,hx.1]) (by rw[←hy.1,←hx.1,l1,l2]) (by simpa using he)
  ·simp only[jT,iH,if_true]
   obtain⟨_,ue,_,hue,hse,_⟩:=yM hl
   obtain⟨ie,hie,his⟩:=yq hse
   rw[run_equalIn_array W E ws.toArray us.toArray hu hie]
   have hce:P.cellsOf e=l.length:=by simp[Program.cellsOf,hie,his]
   rw[hce]
   have hrl:∀ n,(p8 l n).length=n*l.length:=by
    intro n;induction n with
    |zero=>simp[p8]
    |succ n ih=>simp only[p8,eR,ih,BU,uP];omega
   have go:∀(m i:Nat)(r:Bool),(i+m)*l.length=ws.length->us.length=ws.length->fM (p8 l m) (xs.drop (i*l.length)) (ys.drop (i*l.length))=some r->(Op.eqItems E e l.length ws.toArray us.toArray (List.range' i m)).run P W=.ok r W:=by
    intro m;induction m with
    |zero =>
     intro i r ho hlen hr
     simp only[p8]at hr
     obtain⟨m1,m2⟩:=Z7 hr
     have:r=true:=by rw[sr.1 m1,sr.1 m2]at hr;simpa[fM]using hr.symm
     subst this
     simp[Op.eqItems]
    |succ m ihm =>
     intro i r ho hlen hr
     simp only[p8]at hr
     obtain⟨r1,r2,qm,hr2,rfl⟩:=ZR hr
     rw[XG,XG]at hr2
     have hle:i*l.length+l.length<=ws.length:=by rw[←ho,←NB];exact HL _ Ω
     have p1:=Zt (W:=W) hl hue ws (i*l.length) hle
     have p2:=Zt (W:=W) hl hue us (i*l.length) Ω
     have q1:=ih e E l ue _ _ _ _ r1 hl Ω hue ((hx.drop (i*l.length)).take l.length) ((hy.drop (i*l.length)).take l.length) qm
     simp only[zng,Op.eqItems,iB,p1,p2,iC,q1]
     cases r1
     ·simp
     ·simp only[vA,l7,if_false,pX]
      exact ihm (i+1) r2 (by rw[←ho];congr 1;omega) hlen (by rw[BU,uP];exact hr2)
   have:=go len 0 r (by rw[fO,←hrl,←l1,hx.1]) (by rw[←hy.1,←hx.1,l1,l2]) (by simpa using he)
   rw[znm]
   exact this
end
section
variable {P:Program} {d:Nat} {ah:bR} {β:Pl} {W:World} {a:Act} {o:Oper} {t:List IV} {aa aX aK:aU} {e:eV} {v:IV} {n0:Nat}
theorem zca{u:TypeDesc}(h:iH u=true)(ws:Array Value):jT u ws.toList=.agg ws:=by simp[jT,h]
theorem Il{op:BinOp}{neg:Bool}{ty ty':TypeId}{u:TypeDesc}{ks:List Nat}{x y:Operand}{x' y':bG}(ho:o.op=.binOp op ty x y ty')(hop:op=if neg then .neq else .eql)(hu:P.underlying ty=some u)(hag:iH u=true)(hg:P.eqGuardType P.depth ty=false)
  (hk:gw P 40 ty=some ks) (ht:TR β W t a.tmps) (hx:bI x=some x') (hy:bI y=some y') (he:cO aa t neg ks x' y'=some (e,v,aX)):e=.p/\aX=aa/\cT P β W a.eval o v:=by
 have hv:=ht.eval hx
 have hw:=ht.eval hy
 unfold cO at he
 split at he
 ·rename_i xs ys h1 h2
  obtain⟨z,hz,rfl,rfl,rfl⟩:=HP he
  rw[h1]at hv;rw[h2]at hw
  obtain⟨ws,PE,q1⟩:=BO hv
  obtain⟨us,hus,q2⟩:=BO hw
  have hq:=Jz (P:=P) (W:=W) 40 ty 10000 ks u xs ys ws.toList us.toList z hk Ω hu PE hus hz
  rw[zca hag,zca hag]at hq
  refine⟨rfl,rfl,.bool (neg != z),?_,.bool _⟩
  cases neg
  ·subst hop
   simp only[execOp,ho,q1,q2,iB,run_eqGuard_agg W _ _ _ _ _ _ hg,iC,l7,if_false,run_eql_struct,hq,jt,j3]
  ·subst hop
   simp only[execOp,ho,q1,q2,iB,run_eqGuard_agg W _ _ _ _ _ _ hg,iC,if_true,run_neq_struct,hq,jt,zom]
 ·simp at he
theorem Kx{ty:TypeId}{u:TypeDesc}{D:Nat}{ks:List Nat}{v:IV}{x:Value}(hk:gw P D ty=some ks)(hu:P.underlying ty=some u)(hv:VR β W v x)(hl:v.cells.length=ks.length)(hag:iH u=true->∃ cs,v=.agg cs)(hna:iH u=false->v.scalar=true):jT u x.cells.toList=x:=by
 cases ha:iH u with
 |true =>
  obtain⟨cs,rfl⟩:=hag ha
  obtain⟨ws,_,rfl⟩:=BO hv
  exact zca ha ws
 |false =>
  have hs:=Y0 hv (hna ha)
  cases x<;>first|(simp[Value.oneCell']at hs;done)|(simp[jT,ha,Value.cells])
theorem GB(em:Bool):∀(D:Nat)(ty:TypeId)(E:Nat)(ks:List Nat)(u:TypeDesc)(ws:List Value),gw P D ty=some ks->D<=E->P.underlying ty=some u->ws.length=ks.length->(Instr.checkKey em E ty (jT u ws)).run P W=.ok () W:=by
 intro D;induction D with
 |zero=>intro ty E ks u ws h;simp[gw]at h
 |succ D ih =>
  intro ty E ks u ws h hE hu hl
  obtain⟨E,rfl⟩:∃ E',E=E'+1:=⟨E-1,Ω⟩
  obtain⟨D',u',hD,Wt,hs,hc⟩:=yM h
  obtain rfl:D=D':=Ω
  rw[hu]at Wt
  obtain rfl:=kT Wt
  rcases hc with⟨rfl,rfl⟩|⟨q,rfl,rfl⟩|⟨rfl,rfl⟩|⟨fs,rfl,hst,ad4⟩|⟨len,e,l,rfl,hl',rfl⟩
  ·simp[Instr.checkKey,run_underlying hu]
  ·simp[Instr.checkKey,run_underlying hu]
  ·simp[Instr.checkKey,run_underlying hu]
  ·simp only[jT,iH,if_true,Instr.checkKey,iB,run_underlying hu,iC]
   rw[←Array.forIn_toList]
   have go:∀(fl:List Field)(off:Nat)(kl:List Nat),Bw (gw P D) fl off=some kl->off+kl.length=ws.length ->
     (forIn fl PUnit.unit fun f _=>(do
      if f.name ≠ "_" then do
       let z←part f.type ws.toArray f.offset
       Instr.checkKey em E f.type z
       pure PUnit.unit
      else pure PUnit.unit
      pure (ForInStep.yield PUnit.unit):Sem (ForInStep PUnit))).run P W=.ok PUnit.unit W:=by
    intro fl
    induction fl with
    |nil=>intro off kl _ _;simp
    |cons f fl ihf =>
     intro off kl hk ho
     simp only[Bw]at hk
     split at hk
     ·rename_i hnm
      split at hk
      ·rename_i a1 ha1
       split at hk
       ·rename_i b1 j8
        cases hk
        simp only[eR]at ho
        obtain⟨_,uf,_,huf,_,_⟩:=yM ha1
        have p1:=Zt (W:=W) ha1 huf ws off Ω
        have q1:=ih f.type E a1 uf ((ws.drop off).take a1.length) ha1 Ω huf (by simp;omega)
        have r1:=ihf (off+a1.length) b1 j8 Ω
        simp only[List.forIn_cons,iB,hnm.1,ne_eq,zna,if_true,hnm.2,p1,iC,q1,jt]
        simpa using r1
       ·simp at hk
      ·simp at hk
     ·simp at hk
   have:=go fs.toList 0 ks ad4 Ω
   simp at this ⊢
   rw[this]
   rfl
  ·simp only[jT,iH,if_true,Instr.checkKey,iB,run_underlying hu,iC]
   obtain⟨_,ue,_,hue,hse,_⟩:=yM hl'
   simp only[Std.Legacy.Range.forIn_eq_forIn_range',Std.Legacy.Range.size,znu,Nat.add_one_sub_one,Nat.div_one]
   have hrl:∀ n,(p8 l n).length=n*l.length:=by
    intro n;induction n with
    |zero=>simp[p8]
    |succ n ih=>simp only[p8,eR,ih,BU,uP];omega
   have go:∀(m i:Nat),(i+m)*l.length=ws.length ->
     (forIn (List.range' i m) PUnit.unit fun j _=>(do
      let s←sizeOf e
      let z←part e ws.toArray (j*s)
      Instr.checkKey em E e z
      pure (ForInStep.yield PUnit.unit):Sem (ForInStep PUnit))).run P W=.ok PUnit.unit W:=by
    intro m
    induction m with
    |zero=>intro i _;simp
    |succ m ihm =>
     intro i ho
     have hle:i*l.length+l.length<=ws.length:=by rw[←ho,←NB];exact HL _ Ω
     have p1:=Zt (W:=W) hl' hue ws (i*l.length) hle
     have q1:=ih e E l ue ((ws.drop (i*l.length)).take l.length) hl' Ω hue (by simp;omega)
     have r1:=ihm (i+1) (by rw[←ho];congr 1;omega)
     simp only[zng,List.forIn_cons,iB,yb hse,p1,iC,q1,jt]
     simpa using r1
   have:=go len 0 (by rw[fO,←hrl];omega)
   simp at this ⊢
   rw[this]
   rfl
theorem A6{ty:TypeId}{u:TypeDesc}{D:Nat}{ks:List Nat}{v:IV}{x:Value}(hk:gw P D ty=some ks)(hu:P.underlying ty=some u)(hv:VR β W v x)(hl:v.cells.length=ks.length)(ho:kL (iH u) v=true):jT u x.cells.toList=x :=
 Kx hk hu hv hl (fun h=>by
  unfold kL at ho;rw[bt h]at ho;cases v <;> first | exact ⟨_,rfl⟩ | simp at ho) (fun h=>by unfold kL at ho; rw [bC (by simp [h])] at ho; exact ho)
theorem aee{kt:Bool×List Nat}{v w:IV}{r:Bool}(h:Nl kt v w=some r):kL kt.1 v=true/\kL kt.1 w=true/\fM kt.2 v.cells w.cells=some r:=by
 unfold Nl at h;split at h
 ·rename_i hk;simp only[gJ]at hk;exact⟨hk.1,hk.2,h⟩
 ·simp at h
theorem key_eq{ty:TypeId}{u:TypeDesc}{ks:List Nat}{v w:IV}{x y:Value}{r:Bool}(hk:gw P 40 ty=some ks)(hu:P.underlying ty=some u)(hv:VR β W v x)(hw:VR β W w y)(he:Nl (iH u,ks) v w=some r):(Op.equal ty x y).run P W=.ok r W:=by obtain⟨h1,h2,he⟩:=aee he;obtain⟨l1,l2⟩:=Z7 he;have:=Jz (P:=P) (W:=W) 40 ty 10000 ks u v.cells w.cells x.cells.toList y.cells.toList r hk Ω hu (zQ hv) (zQ hw) he;rw[A6 hk hu hv l1 h1,A6 hk hu hw l2 h2]at this;exact this
theorem QL{k:Nat}{x y:IV}{a b:Value}(h:eqv k x y=some true)(hx:VR β W x a)(hy:VR β W y b):a=b/\∀ n,Instr.sameBits n a b=true:=by
 unfold eqv at h;split at h
 ·split at h
  ·rename_i hq;obtain⟨rfl,rfl⟩:=hq;simp only[fZ,n9]at h;subst h;rw[YD hx,YD hy];exact⟨rfl,fun n=>by cases n<;>simp[Instr.sameBits]⟩
  ·simp at h
 ·rename_i m n;split at h
  ·simp only[fZ]at h;have hmn:m=n:=by have:=eq_of_beq h;rw[zns,zns]at this;cases m;cases n;simp only[ByteArray.mk.injEq];exact znz this
   subst hmn;rw[HO hx,HO hy];exact⟨rfl,fun n=>by cases n<;>(simp only[Instr.sameBits];rw[beq_toListBytes];exact h)⟩
  ·simp at h
 ·split at h
  ·simp only[fZ,n9]at h;subst h;rw[Z6 hx,Z6 hy];exact⟨rfl,fun n=>by cases n<;>simp[Instr.sameBits]⟩
  ·simp at h
 ·simp at h
theorem wV:∀{ks:List Nat}{xs ys:List IV}{az bs:List Value},fM ks xs ys=some true->dV β W xs az->dV β W ys bs->az=bs/\∀ n,(az.zip bs).all (fun p=>Instr.sameBits n p.1 p.2)=true
 |[],[],[],az,bs,_,hx,hy=>by rw[sr.1 hx.1.symm,sr.1 hy.1.symm];exact⟨rfl,fun _=>rfl⟩
 |k::ks,x::xs,y::ys,az,bs,h,hx,hy=>by
  cases az with
  |nil=>exact absurd hx.1 Ψ
  |cons a az =>
   cases bs with
   |nil=>exact absurd hy.1 Ψ
   |cons b bs =>
    simp only[fM]at h
    split at h
    ·rename_i h1
     obtain⟨e1,e2⟩:=QL h1 (hx.2 0 x a rfl rfl) (hy.2 0 y b rfl rfl)
     obtain⟨e3,e4⟩:=wV h ⟨by have:=hx.1;simpa using this,fun j p q hp hq=>hx.2 (j+1) p q (by simpa using hp) (by simpa using hq)⟩ ⟨by have:=hy.1;simpa using this,fun j p q hp hq=>hy.2 (j+1) p q (by simpa using hp) (by simpa using hq)⟩
     exact⟨by rw[e1,e3],fun n=>by simp only[List.zip_cons_cons,qt,e2 n,e4 n,HH]⟩
    ·split at h<;>simp at h
    ·simp at h
 |[],_::_,_,_,_,h,_,_=>by simp[fM]at h
 |[],[],_::_,_,_,h,_,_=>by simp[fM]at h
 |_::_,[],_,_,_,h,_,_=>by simp[fM]at h
 |_::_,_::_,[],_,_,h,_,_=>by simp[fM]at h
theorem QN{kt:Bool×List Nat}{v w:IV}{x y:Value}(h:Nl kt v w=some true)(hv:VR β W v x)(hw:VR β W w y):x=y/\Instr.sameBits 10000 x y=true:=by
 obtain⟨h1,h2,he⟩:=aee h;obtain⟨e1,e2⟩:=wV he (zQ hv) (zQ hw);have e3:=e2 9999;have e4:=e2 10000;have same:x.cells=y.cells:=znz e1;unfold kL at h1 h2;cases hk:kt.1 with
 |true =>
  rw[hk,bt rfl]at h1 h2
  cases v<;>simp at h1
  cases w<;>simp at h2
  obtain⟨ws,_,rfl⟩:=BO hv
  obtain⟨us,_,rfl⟩:=BO hw
  simp only[Value.cells]at same
  subst same
  refine⟨rfl,?_⟩
  show Instr.sameBits (9999+1) _ _=true
  simp only[Instr.sameBits,beq_self_eq_true,pX]
  exact e3
 |false =>
  rw[hk,bC Ψ]at h1 h2
  have s1:=Y0 hv h1
  have s2:=Y0 hw h2
  have c1:x.cells=#[x]:=by cases x<;>first|rfl|(simp[Value.oneCell']at s1)
  have c2:y.cells=#[y]:=by cases y<;>first|rfl|(simp[Value.oneCell']at s2)
  rw[c1,c2]at same e4
  have hxy:x=y:=by simpa using same
  refine⟨hxy,?_⟩
  simpa using e4
end
section
variable {P:Program} {d:Nat} {ah:bR} {β:Pl} {W:World} {a:Act} {o:Oper} {t:List IV} {aa aX aK:aU} {e:eV} {v:IV} {n0:Nat}
def found(es:List MapEntry)(i:Nat):Option Nat->Option (Nat×Value)
 |none=>none
 |some j=>(es[j-i]?).map fun en=>(j,en.val)
theorem Z8{kt:Bool×List Nat}{key:IV}:∀{ks:List IV}{i j:Nat},fL kt key ks i=some (some j)->i<=j/\j<i+ks.length
 |[],i,j,h=>by simp[fL]at h
 |k::ks,i,j,h=>by
  simp only[fL]at h;split at h
  ·cases h;simp
  ·have:=Z8 h;simp;omega
  ·simp at h
theorem zek{en:MapEntry}{es:List MapEntry}{i:Nat}{r:Option Nat}(h:∀ j,r=some j->i+1<=j):found es (i+1) r=found (en::es) i r:=by
 cases r with
 |none=>rfl
 |some j =>
  have:=h j rfl
  simp only[found]
  rw[show j-i=(j-(i+1))+1 by omega,jP]
theorem zel{ty:TypeId}{u:TypeDesc}{tR:List Nat}{key:IV}{x:Value}(hk:gw P 40 ty=some tR)(hu:P.underlying ty=some u)(hx:VR β W key x):∀{ks:List IV}{es:List MapEntry}{i:Nat}{r:Option Nat},
  dV β W ks (es.map (·.key))->fL (iH u,tR) key ks i=some r->(Instr.findAsking ty x es i).run P W=.ok (found es i r) W
 |[],es,i,r,hl,h=>by
  have:es=[]:=by have:=hl.1;simpa using this.symm
  subst this;simp only[fL,fZ]at h;subst h;rfl
 |k::ks,es,i,r,hl,h=>by
  cases es with
  |nil=>exact absurd hl.1 Ψ
  |cons en es =>
   have h0:=hl.2 0 k en.key rfl rfl
   have hs:dV β W ks (es.map (·.key)):=⟨by have:=hl.1;simpa using this,fun j p q hp hq=>hl.2 (j+1) p q (by simpa using hp) (by simpa using hq)⟩
   simp only[fL]at h
   split at h
   ·rename_i hq
    cases h
    simp[Instr.findAsking,key_eq hk hu hx h0 hq,found]
   ·rename_i hq
    have ih:=zel hk hu hx hs h
    simp only[Instr.findAsking,iB,key_eq hk hu hx h0 hq,iC,l7,if_false,ih]
    rw[zek (en:=en) (fun j hj=>by subst hj;exact(Z8 h).1)]
   ·simp at h
theorem zem{u:TypeDesc}{kt:Bool×List Nat}{key k:IV}{x y:Value}{r b:Bool}(hx:VR β W key x)(hy:VR β W k y)(h:Nl kt key k=some r)(hn:Instr.sameNow u x y=some b):b=r:=by
 obtain⟨_,_,he⟩:=aee h;have one:∀{v w:IV},v.cells=[v]->w.cells=[w]->∀{ks},fM ks v.cells w.cells=some r->∃ q,eqv q v w=some r:=fun hv hw ks he=>by
  rw[hv,hw]at he;cases ks with
  |nil=>simp[fM]at he
  |cons q ks =>
   cases ks with
   |cons _ _=>simp only[fM]at he;split at he<;>simp at he
   |nil =>
    refine⟨q,?_⟩
    simp only[fM]at he
    split at he
    ·rename_i h1;rw[h1];exact he
    ·rename_i h1;rw[h1];exact he
    ·simp at he
 unfold Instr.sameNow at hn;split at hn
 ·rename_i q m q' n;have e1:key=.int q m:=by cases hx;rfl
  have e2:k=.int q' n:=by cases hy;rfl
  subst e1;subst e2;obtain⟨z,hz⟩:=one rfl rfl he;split at hn
  ·cases hn;simp only[eqv]at hz;split at hz
   ·exact kT hz
   ·simp at hz
  ·simp at hn
 ·rename_i m n;have e1:key=.str m:=by cases hx;rfl
  have e2:k=.str n:=by cases hy;rfl
  subst e1;subst e2;obtain⟨z,hz⟩:=one rfl rfl he;cases hn;simp only[eqv]at hz;split at hz
  ·rw[beq_toListBytes];exact kT hz
  ·simp at hz
 ·rename_i m n;have e1:key=.bool m:=by cases hx;rfl
  have e2:k=.bool n:=by cases hy;rfl
  subst e1;subst e2;obtain⟨z,hz⟩:=one rfl rfl he;cases hn;simp only[eqv]at hz;split at hz
  ·exact kT hz
  ·simp at hz
 ·simp at hn
theorem IZ{u:TypeDesc}{kt:Bool×List Nat}{key:IV}{x:Value}(hx:VR β W key x):∀{ks:List IV}{es:List MapEntry}{i:Nat}{r:Option Nat}{q:Option (Nat×Value)},
  dV β W ks (es.map (·.key))->fL kt key ks i=some r->Instr.findNow u x es i=some q->q=found es i r
 |[],es,i,r,q,hl,h,hq=>by
  have:es=[]:=by have:=hl.1;simpa using this.symm
  subst this;simp only[fL,fZ]at h;subst h;simp only[Instr.findNow,fZ]at hq;exact hq.symm
 |k::ks,es,i,r,q,hl,h,hq=>by
  cases es with
  |nil=>exact absurd hl.1 Ψ
  |cons en es =>
   have h0:=hl.2 0 k en.key rfl rfl
   have hs:dV β W ks (es.map (·.key)):=⟨by have:=hl.1;simpa using this,fun j p q hp hq=>hl.2 (j+1) p q (by simpa using hp) (by simpa using hq)⟩
   simp only[fL]at h
   simp only[Instr.findNow]at hq
   split at hq
   ·rename_i hn
    cases hq
    split at h
    ·cases h;simp[found]
    ·rename_i he;exact absurd (zem hx h0 he hn) Ψ
    ·simp at h
   ·rename_i hn
    split at h
    ·rename_i he;exact absurd (zem hx h0 he hn) Ψ
    ·rw[IZ hx hs h hq,zek (en:=en) (fun j hj=>by subst hj;exact(Z8 h).1)]
    ·simp at h
   ·simp at hq
theorem za5{ty:TypeId}{u:TypeDesc}{tR:List Nat}{key:IV}{x:Value}(hk:gw P 40 ty=some tR)(hu:P.underlying ty=some u)(hx:VR β W key x){ks:List IV}{es:List MapEntry}{r:Option Nat}(hl:dV β W ks (es.map (·.key)))(h:fL (iH u,tR) key ks 0=some r) :
  (Instr.findKey ty x es).run P W=.ok (found es 0 r) W:=by
 simp only[Instr.findKey,iB,run_underlying hu,iC]
 cases hn:Instr.findNow u x es 0 with
 |none=>simp only;exact zel hk hu hx hl h
 |some q=>simp only[jt];rw[IZ hx hl h hn]
theorem xl{ty:TypeId}{u:TypeDesc}{tR:List Nat}{key:IV}{x:Value}(em:Bool)(hk:gw P 40 ty=some tR)(hu:P.underlying ty=some u)(hx:VR β W key x)(hc:(kL (iH u) key&&key.cells.length==tR.length)=true):(Instr.checkKey em 10000 ty x).run P W=.ok () W:=by simp only[gJ,n9]at hc;have hl:=(zQ hx).1;have:=GB (P:=P) (W:=W) em 40 ty 10000 tR u x.cells.toList hk Ω hu (by rw[←hl];exact hc.2);rwa [A6 hk hu hx hc.2 hc.1]at this
theorem Ge{ty kt el:TypeId}{u:TypeDesc}{tR:List Nat}{z:IV}{ok:Bool}{key:IV}{x m:Value}{ks vs:List IV}{es:Array MapEntry}{w:Option IV}(hm:P.underlying ty=some (.map kt el))(hk:gw P 40 kt=some tR)(hu:P.underlying kt=some u)(hz:jl P el=some z)
  (fU:m=.map none/\es=#[]∨∃ k clock,m=.map (some k)/\W.heap[k]?=some (.map es clock)) (hx:VR β W key x) (hks:dV β W ks (es.toList.map (·.key))) (hvs:dV β W vs (es.toList.map (·.val))) (h:mh (iH u,tR) key ks vs=some w) :
  ∃ y,(Instr.lookup ty m x ok).run P W=.ok y W/\VR β W (if ok then .tuple [w.getD z,.bool w.isSome]else w.getD z) y:=by
 obtain⟨i,zv,hi,Dz,Gm⟩:=yE (β:=β) (W:=W) hz
 unfold mh at h
 split at h
 ·rename_i hc
  have Qd:=xl (P:=P) es.isEmpty hk hu hx hc
  have hzz:(zeroValue el).run P W=.ok zv W:=by simp[zeroValue,typeInfo,hi,Dz]
  have fin:∀(WV:Option (Nat×Value))(w:Option IV),(Instr.findKey kt x es.toList).run P W=.ok WV W->(w.isSome=WV.isSome)->(∀ p q,w=some p->WV=some q->VR β W p q.2) ->
    ∃ y,(Instr.lookup ty m x ok).run P W=.ok y W/\VR β W (if ok then .tuple [w.getD z,.bool w.isSome]else w.getD z) y:=by
   intro WV w hf hs hv
   have agn:(Instr.lookup ty m x ok).run P W=.ok (match WV with|some (_,y)=>if ok then .tuple #[y,.bool true]else y|none=>if ok then .tuple #[zv,.bool false]else zv) W:=by
    unfold Instr.lookup;rcases fU with⟨rfl,rfl⟩|⟨k,clock,rfl,hh⟩
    ·simp only[iB,run_underlying hm,iC,jt,Qd,hf];cases WV with
     |none=>simp only[iB,hzz,iC,jt]
     |some q=>simp only[iB,jt,iC]
    ·have hg:(getObj k).run P W=.ok (.map es clock) W:=by simp[getObj,Sem.run,hh]
     simp only[iB,run_underlying hm,iC,jt,hg,Qd,hf];cases WV with
     |none=>simp only[iB,hzz,iC,jt]
     |some q=>simp only[iB,jt,iC]
   rw[agn]
   cases WV with
   |none =>
    cases w with
    |some _=>simp at hs
    |none =>
     refine⟨_,rfl,?_⟩
     cases ok
     ·exact Gm
     ·exact .tuple rfl (fun j p q hp hq=>by
       rcases j with _|_|j
       ·simp at hp hq;rw[←hp,←hq];exact Gm
       ·simp at hp hq;rw[←hp,←hq];exact .bool _
       ·simp at hp)
   |some q =>
    cases w with
    |none=>simp at hs
    |some p =>
     have hpq:=hv p q rfl rfl
     obtain⟨q1,q2⟩:=q
     refine⟨_,rfl,?_⟩
     cases ok
     ·exact hpq
     ·exact .tuple rfl (fun j p' q' hp hq=>by
       rcases j with _|_|j
       ·simp at hp hq;rw[←hp,←hq];exact hpq
       ·simp at hp hq;rw[←hp,←hq];exact .bool _
       ·simp at hp)
  split at h
  ·rename_i j hj
   cases hvj:vs[j]? with
   |none=>rw[hvj]at h;simp at h
   |some p =>
    rw[hvj]at h;cases h
    obtain⟨q,hq,hpq⟩:=hvs.get hvj
    rw[k9]at hq
    cases Ni:es.toList[j]? with
    |none=>rw[Ni]at hq;simp at hq
    |some en =>
     rw[Ni]at hq;cases hq
     exact fin _ (some p) (za5 hk hu hx hks hj) (by simp[found,Ni]) (fun p' q' hp hq=>by simp[found,Ni]at hq;cases hp;rw[←hq];exact hpq)
  ·rename_i hj
   cases h
   exact fin _ none (za5 hk hu hx hks hj) rfl (fun p q hp=>by simp at hp)
  ·simp at h
 ·simp at h
end
section
variable {P:Program} {d:Nat} {ah:bR} {β:Pl} {W:World} {a:Act} {o:Oper} {t:List IV} {aa aX aK:aU} {e:eV} {v:IV} {n0:Nat}
theorem F9{ks vs:List IV}{bs:List Nat}{clock k s:Nat}(h:OR β W k s (.map ks vs bs clock)):∃ es:Array MapEntry,W.heap[k]?=some (.map es clock)/\dV β W ks (es.toList.map (·.key))/\dV β W vs (es.toList.map (·.val))/\bs=es.toList.map (·.born):=by
 obtain⟨es,h1,h2,h3,h4,h5⟩:=h;refine⟨es,h1,⟨by simp[h2],fun j x y hx hy=>?_⟩,⟨by simp[h3],fun j x y hx hy=>?_⟩,?_⟩
 ·rw[k9,pP]at hy;cases he:es[j]? with
  |none=>rw[he]at hy;simp at hy
  |some en=>rw[he]at hy;cases hy;exact(h5 j en he).1 x hx
 ·rw[k9,pP]at hy;cases he:es[j]? with
  |none=>rw[he]at hy;simp at hy
  |some en=>rw[he]at hy;cases hy;exact(h5 j en he).2.1 x hx
 ·apply E8;intro j;rw[k9,pP (xs:=es)];cases he:es[j]? with
  |none =>
   have:es.size<=j:=by simpa using he
   rw[BZ Ω];rfl
  |some en =>
   have hj:j<bs.length:=by have:=(Fb.1 he).1;omega
   rw[cK hj,gH,(h5 j en he).2.2 _ (cK hj)]
theorem map_or{ks vs:List IV}{es:Array MapEntry}{clock k s:Nat}(h1:W.heap[k]?=some (.map es clock))(hk:dV β W ks (es.toList.map (·.key)))(hv:dV β W vs (es.toList.map (·.val))):OR β W k s (.map ks vs (es.toList.map (·.born)) clock):=by
 refine⟨es,h1,by have:=hk.1;simpa using this,by have:=hv.1;simpa using this,Ψ,fun j en he=>⟨fun x hx=>hk.2 j x _ hx ?_,fun x hx=>hv.2 j x _ hx ?_,fun x hx=>?_⟩⟩
 ·simp[he]
 ·simp[he]
 ·simp[he]at hx;exact hx
theorem Wj{ks vs:List IV}{x:Value}(h:VR β W (.eF ks vs) x):∃(k:Nat)(es:Array MapEntry)(clock:Nat),x=.map (some k)/\W.heap[k]?=some (.map es clock)/\dV β W ks (es.toList.map (·.key))/\dV β W vs (es.toList.map (·.val)):=by
 cases h with
 |eF en hk hm hn hn' he hkv PG =>
  refine⟨_,_,_,rfl,hm,⟨by simp[hn],fun j x y hx hy=>?_⟩,⟨by simp[hn,hn'],fun j x y hx hy=>?_⟩⟩
  ·have hj:=(cU.1 hx).1
   rw[k9,pP,he j hj]at hy
   cases hy
   exact hkv j x hx
  ·have hj:j<ks.length:=hn'▸(cU.1 hx).1
   rw[k9,pP,he j hj]at hy
   cases hy
   exact PG j x hx
theorem Oq{ty kt el:TypeId}{u:TypeDesc}{tR:List Nat}{z:IV}{ok:Bool}{x y:Operand}{x' y':bG}(ho:o.op=.lookup ty x y ok)(hm:P.underlying ty=some (.map kt el))(hk:gw P 40 kt=some tR)(hu:P.underlying kt=some u)(hz:jl P el=some z)
  (hx:bI x=some x') (hy:bI y=some y') (ht:TR β W t a.tmps) (hR:RS β (look d ah aa) W) (hV:Hy aK aa) (he:fV d ah aK aa t z (iH u,tR) ok x' y'=some (e,v,aX)):aX=aa/\cT P β W a.eval o v:=by
 have hv:=ht.eval hx
 have hw:=ht.eval hy
 unfold fV at he
 have fin:∀(m:Value)(ks vs:List IV)(es:Array MapEntry)(w:Option IV),a.eval x=m->(m=.map none/\es=#[]∨∃ k clock,m=.map (some k)/\W.heap[k]?=some (.map es clock))->dV β W ks (es.toList.map (·.key))->dV β W vs (es.toList.map (·.val)) ->
   mh (iH u,tR) (ρ t y') ks vs=some w->cT P β W a.eval o (if ok then .tuple [w.getD z,.bool w.isSome]else w.getD z):=fun m ks vs es w hq fU h1 h2 hf=>by
  obtain⟨r,hr,tT⟩:=Ge (P:=P) (ok:=ok) hm hk hu hz fU hw h1 h2 hf
  exact⟨r,by simp only[execOp,ho,hq,iB,hr,iC,jt],tT⟩
 split at he
 ·rename_i q1
  rw[q1]at hv
  have DB:=AP hv
  cases hf:mh (iH u,tR) (ρ t y') [] []with
  |none=>rw[hf]at he;simp at he
  |some w =>
   rw[hf]at he
   cases he
   exact⟨rfl,fin _ [] [] #[] w DB (.inl ⟨rfl,rfl⟩) .nil .nil hf⟩
 ·rename_i ks vs q1
  rw[q1]at hv
  obtain⟨k,es,clock,DB,hh,h1,h2⟩:=Wj hv
  cases hf:mh (iH u,tR) (ρ t y') ks vs with
  |none=>rw[hf]at he;simp at he
  |some w =>
   rw[hf]at he
   cases he
   exact⟨rfl,fin _ ks vs es w DB (.inr ⟨k,clock,rfl,hh⟩) h1 h2 hf⟩
 ·rename_i l i q1
  rw[q1]at hv
  obtain⟨k,s,hb,DB⟩:=I6 hv
  split at he
  ·rename_i ks vs bs clock hg
   obtain⟨es,hh,h1,h2,_⟩:=F9 (hR.obj _ _ _ _ _ hb (YF hV hg rfl))
   cases hf:mh (iH u,tR) (ρ t y') ks vs with
   |none=>rw[hf]at he;simp at he
   |some w =>
    rw[hf]at he
    cases he
    exact⟨rfl,fin _ ks vs es w DB (.inr ⟨k,clock,rfl,hh⟩) h1 h2 hf⟩
  ·simp at he
 ·simp at he
theorem Oo{ty kt el:TypeId}{u:TypeDesc}{tR:List Nat}{m x y:Operand}{m' x' y':bG}(ho:o.op=.mapUpdate ty m x y)(hm:P.underlying ty=some (.map kt el))(hk:gw P 40 kt=some tR)(hu:P.underlying kt=some u)
  (Uk:bI m=some m') (hx:bI x=some x') (hy:bI y=some y') (ht:TR β W t a.tmps) (hR:RS β (look d ah aa) W) (he:gF d aa t (iH u,tR) m' x' y'=some (e,v,aX)):gG P d ah β W a.eval o v aX:=by
 have hv:=ht.eval Uk
 have hw:=ht.eval hx
 have hz:=ht.eval hy
 unfold gF at he
 split at he
 ·rename_i l i q1
  rw[q1]at hv
  obtain⟨k,s,hb,DB⟩:=I6 hv
  split at he
  ·rename_i ks vs bs clock hg
   split at he
   ·rename_i hc
    obtain⟨rfl,hc⟩:=hc
    have hg':look l ah aa l i=some (.map ks vs bs clock):=by rw[yf];exact hg
    obtain⟨es,hh,h1,h2,rfl⟩:=F9 (hR.obj _ _ _ _ _ hb hg')
    have Qd:=xl (P:=P) false hk hu hw hc
    have fU:(getObj k).run P W=.ok (.map es clock) W:=by simp[getObj,Sem.run,hh]
    have sU:∀ O:Obj,(setObj k O).run P W=.ok () { W with heap:=W.heap.setIfInBounds k O }:=fun O=>by simp[setObj,Sem.run,hh]
    have nP:k<W.heap.size:=hR.here _ _ _ _ hb
    have step:∀(es':Array MapEntry)(clock':Nat)(ks' vs':List IV),(execOp a.eval o).run P W=.ok .skip { W with heap:=W.heap.setIfInBounds k (.map es' clock') }->dV β W ks' (es'.toList.map (·.key))->dV β W vs' (es'.toList.map (·.val)) ->
      gG P l ah β W a.eval o (.tuple []) (aa.set i (.map ks' vs' (es'.toList.map (·.born)) clock')):=fun es' clock' ks' vs' hrun g1 g2=>by
     have hO:Ext β W β { W with heap:=W.heap.setIfInBounds k (.map es' clock') }->OR β { W with heap:=W.heap.setIfInBounds k (.map es' clock') } k s (.map ks' vs' (es'.toList.map (·.born)) clock') :=
      fun ex=>map_or (by show(W.heap.setIfInBounds k _)[k]?=_;simp[nP]) (g1.ext ex) (g2.ext ex)
     obtain⟨r6,hF⟩:=zee (W':={ W with heap:=W.heap.setIfInBounds k (.map es' clock') }) hR hg rfl hb (fun k2 hk2=>by show(W.heap.setIfInBounds k _)[k2]?=_;rw[zne (uE hk2)]) Ψ (fun c2 t2 f2 mF=>by rw[hh]at mF;cases mF) rfl rfl rfl hO rfl
     exact⟨.skip,β,_,hrun,rfl,r6,hF⟩
    split at he
    ·rename_i j hj
     cases he
     rw[zi,zi]
     have hfind:=za5 (P:=P) hk hu hw h1 hj
     obtain⟨_,hjl⟩:=Z8 hj
     have hjs:j<es.size:=by have:=h1.1;simp at this;omega
     have Ni:es[j]?=some es[j]:=by simp[hjs]
     have same:a.eval x=es[j].key/\Instr.sameBits 10000 es[j].key (a.eval x)=true:=by
      have:∀{ks:List IV}{es:List MapEntry}{i j:Nat}{en:MapEntry},dV β W ks (es.map (·.key))->fL (iH u,tR) (ρ t x') ks i=some (some j)->es[j-i]?=some en->a.eval x=en.key/\Instr.sameBits 10000 (a.eval x) en.key=true:=by
       intro ks;induction ks with
       |nil=>intro es i j en _ h;simp[fL]at h
       |cons k0 ks ih =>
        intro es i j en hl h WK
        cases es with
        |nil=>exact absurd hl.1 Ψ
        |cons e0 es =>
         simp only[fL]at h
         split at h
         ·rename_i hq
          cases h
          rw[rM]at WK
          cases WK
          exact QN hq hw (hl.2 0 k0 _ rfl rfl)
         ·have hge:=(Z8 h).1
          refine ih ⟨by have:=hl.1;simpa using this,fun j p q hp hq=>hl.2 (j+1) p q (by simpa using hp) (by simpa using hq)⟩ h ?_
          rw[show j-i=(j-(i+1))+1 by omega,jP]at WK
          exact WK
         ·simp at h
      obtain⟨s1,s2⟩:=this (en:=es[j]) h1 hj (by rw[znu,pP];exact Ni);exact⟨s1,by rw[s1]at s2 ⊢;exact s2⟩
     have hb':es.toList.map (·.born)=(es.modify j fun e=>{ e with key:=a.eval x,val:=a.eval y }).toList.map (·.born):=by
      apply E8;intro q;simp only[k9,pP,zlp];split
      ·cases es[q]?<;>rfl
      ·rfl
     rw[hb']
     refine step _ clock ks (vs.set j (ρ t y')) ?_ ?_ ?_
     ·simp only[execOp,ho,DB,iB,Instr.mapUpdate,run_underlying hm,iC,fU,Qd,hfind,found,znu,pP,Ni,gH,tE,Instr.keyThatStays,same.2,if_true,jt,sU]
     ·refine⟨by have:=h1.1;simp at this ⊢;exact this,fun q p r hp hr=>?_⟩
      simp only[k9,pP,zlp]at hr
      split at hr
      ·rename_i hqj
       subst hqj
       rw[Ni]at hr
       cases hr
       show VR β W p (a.eval x)
       rw[same.1]
       exact h1.2 j p _ hp (by simp[hjs])
      ·exact h1.2 q p r hp (by simpa using hr)
     ·refine⟨by have:=h2.1;simp at this ⊢;exact this,fun q p r hp hr=>?_⟩
      simp only[k9,pP,zlp]at hr
      rw[SO]at hp
      split at hr
      ·rename_i hqj
       subst hqj
       rw[Ni]at hr
       cases hr
       rw[bt rfl]at hp
       split at hp
       ·cases hp;exact hz
       ·simp at hp
      ·rename_i hqj
       rw[bC hqj]at hp
       exact h2.2 q p r hp (by simpa using hr)
    ·rename_i hj
     cases he
     simp only[zi]
     have hfind:=za5 (P:=P) hk hu hw h1 hj
     have hb':es.toList.map (·.born)++[clock]=(es.push { key:=a.eval x,val:=a.eval y,born:=clock }).toList.map (·.born):=by simp
     rw[hb']
     refine step _ (clock+1) (ks++[ρ t x']) (vs++[ρ t y']) ?_ ?_ ?_
     ·simp only[execOp,ho,DB,iB,Instr.mapUpdate,run_underlying hm,iC,fU,Qd,hfind,found,jt,sU]
     ·rw[Array.toList_push,E6]
      exact h1.append (.cons hw .nil)
     ·rw[Array.toList_push,E6]
      exact h2.append (.cons hz .nil)
    ·simp at he
   ·simp at he
  ·simp at he
 ·simp at he
end
section
variable {P:Program} {d:Nat} {ah:bR} {β:Pl} {W:World} {a:Act} {o:Oper} {t:List IV} {aa aX aK:aU} {e:eV} {v:IV} {n0:Nat}
theorem AK{c:Go.Call}{x:Operand}(h:c.args.toList=[x]):c.args=#[x]:=by rw[←znl (xs:=c.args),h]
theorem Ck{c:Go.Call}{x y:Operand}(h:c.args.toList=[x,y]):c.args=#[x,y]:=by rw[←znl (xs:=c.args),h]
theorem Ot{c:Go.Call}{ty:TypeId}{u:TypeDesc}{k:Nat}{x:Operand}{x':bG}(ho:o.op=.call c)(o9:c.callee=.builtin .len)(hargs:c.args.toList=[x])(hty:c.argTypes[0]?=some ty)(hu:P.underlying ty=some u)
  (hk:(u=.string/\k=0)∨(∃ el,u=.slice el/\k=1)∨(∃ kt el,u=.map kt el/\k=2)) (hx:bI x=some x') (ht:TR β W t a.tmps) (hR:RS β (look d ah aa) W) (hV:Hy aK aa) (he:e_len d ah aK aa t k x'=some (e,v,aX)) :
  aX=aa/\cT P β W a.eval o v:=by
 have hv:=ht.eval hx
 have pg:=AK hargs
 have fin:∀(y:Value)(n:Nat),a.eval x=y->(∀ ty',(Builtin.len_ c.argTypes ty' #[y]).run P W=.ok (goInt n) W)->cT P β W a.eval o (.int .i64 n):=fun y n hq hr =>
  ⟨.int .i64 n,by simp only[execOp,ho,resolve,o9,pg,XA,nK,BY,hq,iB,jt,iC,invoke,builtin,hr];rfl,.int _ _⟩
 have h0:∀ y:Value,(#[y]:Array Value)[0]?=some y:=fun _=>rfl
 unfold e_len at he
 split at he
 ·rename_i q1
  rw[q1]at hv
  split at he
  ·rename_i hk1
   cases he
   obtain⟨el,rfl⟩:∃ el,u=.slice el:=by rcases hk with⟨_,h⟩|⟨el,h,_⟩|⟨_,_,_,h⟩<;>first|exact⟨_,h⟩|omega
   exact⟨rfl,fin _ 0 (yL hv) fun ty'=>by simp[Builtin.len_,hty,run_underlying hu]⟩
  ·simp at he
 ·rename_i l i off n cp sz tg q1
  rw[q1]at hv
  split at he
  ·rename_i hk1
   cases he
   obtain⟨el,rfl⟩:∃ el,u=.slice el:=by rcases hk with⟨_,h⟩|⟨el,h,_⟩|⟨_,_,_,h⟩<;>first|exact⟨_,h⟩|omega
   obtain⟨_,_,_,_,_,_,_,_,_,hq⟩:=FK hv
   exact⟨rfl,fin _ n hq fun ty'=>by simp[Builtin.len_,hty,run_underlying hu]⟩
  ·simp at he
 ·rename_i cs n sz tg q1
  rw[q1]at hv
  split at he
  ·rename_i hk1
   cases he
   obtain⟨el,rfl⟩:∃ el,u=.slice el:=by rcases hk with⟨_,h⟩|⟨el,h,_⟩|⟨_,_,_,h⟩<;>first|exact⟨_,h⟩|omega
   obtain⟨_,_,_,_,_,_,_,_,_,_,hq⟩:=xW hv
   exact⟨rfl,fin _ n hq fun ty'=>by simp[Builtin.len_,hty,run_underlying hu]⟩
  ·simp at he
 ·rename_i s q1
  rw[q1]at hv
  split at he
  ·rename_i hk1
   cases he
   obtain rfl:u=.string:=by rcases hk with⟨h,_⟩|⟨el,_,h⟩|⟨_,_,_,h⟩<;>first|exact h|omega
   exact⟨rfl,fin _ s.size (HO hv) fun ty'=>by simp[Builtin.len_,hty,run_underlying hu]⟩
  ·simp at he
 ·rename_i q1
  rw[q1]at hv
  split at he
  ·rename_i hk1
   cases he
   obtain⟨kt,el,rfl⟩:∃ kt el,u=.map kt el:=by rcases hk with⟨_,h⟩|⟨el,_,h⟩|⟨_,_,h,_⟩<;>first|exact⟨_,_,h⟩|omega
   exact⟨rfl,fin _ 0 (AP hv) fun ty'=>by simp[Builtin.len_,hty,run_underlying hu]⟩
  ·simp at he
 ·rename_i ks vs q1
  rw[q1]at hv
  split at he
  ·rename_i hk1
   cases he
   obtain⟨kt,el,rfl⟩:∃ kt el,u=.map kt el:=by rcases hk with⟨_,h⟩|⟨el,_,h⟩|⟨_,_,h,_⟩<;>first|exact⟨_,_,h⟩|omega
   obtain⟨k,es,clock,hq,hh,h1,_⟩:=Wj hv
   have hg:(getObj k).run P W=.ok (.map es clock) W:=by simp[getObj,Sem.run,hh]
   have hl:ks.length=es.size:=by have:=h1.1;simpa using this
   exact⟨rfl,fin _ ks.length hq fun ty'=>by simp[Builtin.len_,hty,run_underlying hu,hg,hl]⟩
  ·simp at he
 ·rename_i l i q1
  rw[q1]at hv
  split at he
  ·rename_i hk1
   split at he
   ·rename_i ks vs bs clock hgg
    cases he
    obtain⟨kt,el,rfl⟩:∃ kt el,u=.map kt el:=by rcases hk with⟨_,h⟩|⟨el,_,h⟩|⟨_,_,h,_⟩<;>first|exact⟨_,_,h⟩|omega
    obtain⟨k,s,hb,hq⟩:=I6 hv
    obtain⟨es,hh,h1,_,_⟩:=F9 (hR.obj _ _ _ _ _ hb (YF hV hgg rfl))
    have hg:(getObj k).run P W=.ok (.map es clock) W:=by simp[getObj,Sem.run,hh]
    have hl:ks.length=es.size:=by have:=h1.1;simpa using this
    exact⟨rfl,fin _ ks.length hq fun ty'=>by simp[Builtin.len_,hty,run_underlying hu,hg,hl]⟩
   ·simp at he
  ·simp at he
 ·simp at he
theorem acy{c:Go.Call}{ty el:TypeId}{x:Operand}{x':bG}(ho:o.op=.call c)(o9:c.callee=.builtin .cap)(hargs:c.args.toList=[x])(hty:c.argTypes[0]?=some ty)(hu:P.underlying ty=some (.slice el))(hx:bI x=some x')(ht:TR β W t a.tmps)
  (he:rE aa t x'=some (e,v,aX)):e=.p/\aX=aa/\cT P β W a.eval o v:=by
 have hv:=ht.eval hx
 have pg:=AK hargs
 have fin:∀(y:Value)(n:Nat),a.eval x=y->(∀ ty',(Builtin.cap_ c.argTypes ty' #[y]).run P W=.ok (goInt n) W)->cT P β W a.eval o (.int .i64 n):=fun y n hq hr =>
  ⟨.int .i64 n,by simp only[execOp,ho,resolve,o9,pg,XA,nK,BY,hq,iB,jt,iC,invoke,builtin,hr];rfl,.int _ _⟩
 unfold rE at he
 split at he
 ·rename_i q1
  cases he
  rw[q1]at hv
  exact⟨rfl,rfl,fin _ 0 (yL hv) fun ty'=>by simp[Builtin.cap_,hty,run_underlying hu]⟩
 ·rename_i l i off n cp sz q1
  cases he
  rw[q1]at hv
  obtain⟨_,_,_,cap',_,_,_,_,Fj,hq⟩:=FK hv
  obtain rfl:cap'=cp:=Fj rfl
  exact⟨rfl,rfl,fin _ cap' hq fun ty'=>by simp[Builtin.cap_,hty,run_underlying hu]⟩
 ·simp at he
end
section
variable {P:Program} {d:Nat} {ah:bR} {β:Pl} {W:World} {a:Act} {o:Oper} {t:List IV} {aa aX aK:aU} {e:eV} {v:IV} {n0:Nat}
theorem wI{need sCap b:Nat}(ru:need<=2 ^ 30)(hcap:sCap<need)(hb:b<=1024):¬ (281474976710656<Builtin.nextslicecap need sCap*b):=by have h1:=nextslicecap_le hcap;have h2:Builtin.nextslicecap need sCap<=2147483648:=Ω;have h3:Builtin.nextslicecap need sCap*b<=2147483648*1024:=XF h2 hb;omega
theorem DR(w:World)(need old:Nat)(el:TypeId):need<=grownCap w need old el:=by show need<=need+_;omega
theorem BL{el st xt Mc ty:TypeId}{n c sLen sCap:Nat}{i:TypeInfo}{zv:Value}{base p:Option Addr}{ys olds:List Value}(hu:P.underlying st=some (.slice el))(rQ:P.underlying xt=some (.slice Mc))(hi:P.info? el=some i)(hb:i.bytes<=1024)(hz:i.zero=some zv)
  (ru:sLen+n<=2 ^ 30) (hcap:sCap<sLen+n) (hf:(Builtin.firstCells i.size n (.slice p n c)).run P W.drew=.ok ys.toArray W.drew) (ho:(Builtin.firstCells i.size sLen (.slice base sLen sCap)).run P W.drew=.ok olds.toArray W.drew) :
  (Builtin.append_ #[st,xt] ty #[.slice base sLen sCap,.slice p n c]).run P W=.ok (.slice (some ⟨W.heap.size,0,none⟩) (sLen+n) (grownCap W (sLen+n) sCap el)) (W.drew.alloc (.cells (olds.toArray++ys.toArray++Builtin.zeroCells zv.cells (grownCap W (sLen+n) sCap el-(sLen+n))) el)):=by
 have hn:¬ (sLen+n<=sCap):=Ω
 have h63':¬ (9223372036854775807<((sLen:Int)+(n:Int))):=Ω
 have aea:=wI (b:=i.bytes) ru hcap hb
 simp[Builtin.append_,run_underlying hu,run_underlying rQ,sizeOf,typeInfo,zeroValue,hi,hz,Builtin.lenOf,hn,h63',aea,Question.forced,hf,ho,newRow,grownCap]
 congr 2
 apply znz
 simp[kR]
theorem BK{el st xt ty:TypeId}{n sLen sCap:Nat}{i:TypeInfo}{zv:Value}{base:Option Addr}{olds:List Value}{kq kn:IntKind}{m:Int}(hu:P.underlying st=some (.slice el))(rQ:P.underlying xt=some (.int kq))(hi:P.info? el=some i)(hb:i.bytes<=1024)(hz:i.zero=some zv)
  (hm:0<=m) (hmn:m.toNat=n) (hsz:i.size≠0) (hn0:n≠0)
  (ru:sLen+n<=2 ^ 30) (hcap:sCap<sLen+n) (ho:(Builtin.firstCells i.size sLen (.slice base sLen sCap)).run P W.drew=.ok olds.toArray W.drew) :
  (Builtin.append_ #[st,xt] ty #[.slice base sLen sCap,.int kn m]).run P W=.ok (.slice (some ⟨W.heap.size,0,none⟩) (sLen+n) (grownCap W (sLen+n) sCap el)) (W.drew.alloc (.cells (olds.toArray++Builtin.zeroCells zv.cells n++Builtin.zeroCells zv.cells (grownCap W (sLen+n) sCap el-(sLen+n))) el)):=by
 have hn:¬ (sLen+n<=sCap):=Ω
 have h63':¬ (9223372036854775807<((sLen:Int)+(n:Int))):=Ω
 have aea:=wI (b:=i.bytes) ru hcap hb
 have hw:IntKind.i64.wrap m=m:=IntWalk.i64_in m Ω
 have hl0:¬ m<0:=Ω
 have om:¬ (281474976710656<m*(i.bytes:Int)):=by have hml:m<=1073741824:=Ω;have:m*(i.bytes:Int)<=1073741824*1024:=zol hml Ω Ω Ω;omega
 have ahl:¬ (9223372036854775807<(sLen:Int)+max m 0):=Ω
 have hns:¬ (n*i.size=0):=by rw[zm3];omega
 simp[ahl,hns,Builtin.append_,run_underlying hu,run_underlying rQ,sizeOf,typeInfo,zeroValue,hi,hz,asInt,asIntOf,hw,hl0,om,hmn,hn,aea,Question.forced,ho,newRow,grownCap]
theorem ae1{c xs:List IV}{off n:Nat}(h:seg c off n=some xs):off+n<=c.length/\xs=(c.drop off).take n:=by
 unfold seg at h;split at h
 ·rename_i hh;rw[zi]at h;exact⟨hh,(kT h).symm⟩
 ·simp at h
theorem ZS{c xs:List IV}{off n:Nat}(h:seg c off n=some xs):xs.length=n/\∀ j z,xs[j]?=some z->c[off+j]?=some z:=by
 obtain⟨h1,rfl⟩:=ae1 h;refine⟨by simp;omega,fun j z hz=>?_⟩;rw[Fq]at hz;split at hz
 ·rw[Sz]at hz;exact hz
 ·simp at hz
theorem V4{l i off len cap sz:Nat}{tight:Bool}{c:List IV}{x:Value}(hR:RS β (look d ah aa) W)(h:VR β W (.slM l i off len cap sz tight) x)(hg:look d ah aa l i=some (.cells c)) :
  ∃(k s o' cap':Nat),β l i=some (k,s)/\(cap=0∨o'=off+s)/\len<=cap/\cap<=cap'/\(tight=true->cap'=cap)/\x=.slice (some ⟨k,o',none⟩) len cap'/\(cap≠0->At β W c off ⟨k,o',none⟩):=by
 obtain⟨k,s,o',cap',hb,ho,hl,hc,ht,hx⟩:=FK h
 refine⟨k,s,o',cap',hb,ho,hl,hc,ht,hx,fun h0=>?_⟩
 obtain rfl:=ho.resolve_left h0
 obtain⟨c',ty',hh,qE⟩:=hR.obj _ _ _ _ _ hb hg
 refine⟨rfl,fun j z hz=>?_⟩
 obtain⟨y,hy,hv⟩:=qE _ z hz
 refine⟨y,?_,hv⟩
 simp only[World.cell?,hh,SQ,l7,if_false]
 rw[←hy];congr 1;show off+s+j=_;omega
theorem Oa{cs:List IV}{len sz:Nat}{tight:Bool}{x:Value}(h:VR β W (.slC cs len sz tight) x):∃(ad:Addr)(cap':Nat),x=.slice (some ad) len cap'/\len<=cap'/\(tight=true->cap'=len)/\(len≠0->At β W cs 0 ad)/\cs.length=len*sz:=by obtain⟨k,s,cap',ad,_,hc,hn,hl,ht,ha,hx⟩:=xW h;refine⟨ad,cap',hx,hl,ht,fun h0=>?_,hn⟩;obtain rfl:=ha h0;exact⟨rfl,fun j z hz=>hc j z (by simpa using hz)⟩
end
section
variable {P:Program} {d:Nat} {ah:bR} {β:Pl} {W:World} {a:Act} {o:Oper} {t:List IV} {aa aX aK:aU} {e:eV} {v:IV} {n0:Nat}
structure Src(P:Program)(β:Pl)(W:World)(sz:Nat)(zv:Value)(xt:TypeId)(x:Value)(n:Nat)(new:List IV)(ys:List Value)(fq:Bool):Prop where
 rel:dV β W new ys
 len:new.length=n*sz
 gC:fq=true->n<=2 ^ 30
 z:fq=true->∃ kq k m,P.underlying xt=some (.int kq)/\x=.int k m/\0<=m/\m.toNat=n/\ys=(Builtin.zeroCells zv.cells n).toList
 s:fq=false->∃ Mc p c,P.underlying xt=some (.slice Mc)/\x=.slice p n c/\∀ V:World,V.heap=W.heap->(Builtin.firstCells sz n (.slice p n c)).run P V=.ok ys.toArray V
theorem yQ{sz len cap:Nat}{x:Value}{p:Option Addr}{c:List IV}{xs:List IV}(hx:x=.slice p len cap)(hp:(xs=[]/\len*sz=0)∨∃(ad:Addr)(off:Nat),p=some ad/\At β W c off ad/\(∀ j z,xs[j]?=some z->c[off+j]?=some z)/\xs.length=len*sz) :
  ∃ ys:List Value,(∀ V:World,V.heap=W.heap->(Builtin.firstCells sz len (.slice p len cap)).run P V=.ok ys.toArray V)/\dV β W xs ys:=by
 subst hx
 rcases hp with⟨rfl,h0⟩|⟨ad,off,rfl,hA,hr,hl⟩
 ·refine⟨[],fun V _=>?_,.nil⟩
  cases p with
  |none=>simp[Builtin.firstCells]
  |some ad=>exact run_firstCells_some V sz len ad len cap [] (by simp[h0]) fun j y hj=>by simp at hj
 ·obtain⟨ys,e1,e2,e3⟩:=hA.cells hr hl
  refine⟨ys,fun V hV=>run_firstCells_some V sz len ad len cap ys e1 fun j y hj=>?_,e2⟩
  rw[←e3 j y hj]
  unfold World.cell?
  rw[hV]
theorem NU{cs xs:List IV}{len sz:Nat}{ad:Addr}(hA:len≠0->At β W cs 0 ad)(g1:xs.length=len*sz)(g2:∀(j:Nat)(z:IV),xs[j]?=some z->cs[0+j]?=some z) :
  (xs=[]/\len*sz=0)∨∃(ad':Addr)(off:Nat),some ad=some ad'/\At β W cs off ad'/\(∀(j:Nat)(z:IV),xs[j]?=some z->cs[off+j]?=some z)/\xs.length=len*sz:=by
 by_cases h0:len=0
 ·subst h0
  exact .inl ⟨sr.1 (by rw[g1,qw]),qw _⟩
 ·exact .inr ⟨ad,0,rfl,hA h0,g2,g1⟩
theorem vG{sz n:Nat}{zv:Value}{xt Mc:TypeId}{x:Operand}{x':bG}{new:List IV}(rQ:P.underlying xt=some (.slice Mc))(hx:bI x=some x')(ht:TR β W t a.tmps)(hR:RS β (look d ah aa) W)(hV:Hy aK aa)(hsz:0<sz)(h:cB (look d ah aK) sz (ρ t x')=some (new,n)) :
  ∃ ys,Src P β W sz zv xt (a.eval x) n new ys false:=by
 have hv:=ht.eval hx
 unfold cB at h
 split at h
 ·rename_i q1
  rw[q1]at hv
  cases h
  refine⟨[],.nil,Ψ,fun h=>by simp at h,fun h=>by simp at h,fun _=>⟨Mc,none,0,rQ,yL hv,fun V _=>by simp[Builtin.firstCells]⟩⟩
 ·rename_i cs len sz0 tg q1
  rw[q1]at hv
  cases hs:seg cs 0 (len*sz)with
  |none=>rw[hs]at h;simp at h
  |some xs =>
   rw[hs]at h;cases h
   obtain⟨ad,cap',hq,hl,Fj,hA,hn⟩:=Oa hv
   obtain⟨g1,g2⟩:=ZS hs
   obtain⟨ys,f1,f2⟩:=yQ (P:=P) (W:=W) (sz:=sz) (len:=n) (cap:=cap') (x:=.slice (some ad) n cap') rfl (NU hA g1 g2)
   exact⟨ys,f2,g1,fun h=>by simp at h,fun h=>by simp at h,fun _=>⟨Mc,some ad,cap',rQ,hq,f1⟩⟩
 ·rename_i l i off len cap sz0 tg q1
  rw[q1]at hv
  split at h
  ·rename_i c hg
   cases hs:seg c off (len*sz)with
   |none=>rw[hs]at h;simp at h
   |some xs =>
    rw[hs]at h;cases h
    obtain⟨k,s,o',cap',hb,ho,hl,hc,Fj,hq,hA⟩:=V4 hR hv (YF hV hg rfl)
    obtain⟨g1,g2⟩:=ZS hs
    by_cases h0:cap=0
    ·have hn0:n=0:=Ω
     subst hn0
     have:new=[]:=sr.1 (by rw[g1];simp)
     subst this
     refine⟨[],.nil,Ψ,fun h=>by simp at h,fun h=>by simp at h,fun _=>⟨Mc,_,cap',rQ,hq,fun V _=>?_⟩⟩
     exact run_firstCells_some V sz 0 _ 0 cap' [] Ψ (fun j y hj=>by simp at hj)
    ·obtain⟨ys,f1,f2⟩:=yQ (P:=P) (W:=W) (sz:=sz) (len:=n) (cap:=cap') (x:=.slice (some ⟨k,o',none⟩) n cap') rfl (.inr ⟨_,off,rfl,hA h0,g2,g1⟩)
     exact⟨ys,f2,g1,fun h=>by simp at h,fun h=>by simp at h,fun _=>⟨Mc,_,cap',rQ,hq,f1⟩⟩
  ·simp at h
 ·simp at h
theorem KK{sz n:Nat}{z:IV}{zv:Value}{xt:TypeId}{kq:IntKind}{x:Operand}{x':bG}(rQ:P.underlying xt=some (.int kq))(hz:VR β W z zv)(hzl:z.cells.length=sz)(hsz:0<sz)(hx:bI x=some x')(ht:TR β W t a.tmps)(h:mC (ρ t x')=some n)(hn:n<=bound) :
  ∃ ys,Src P β W sz zv xt (a.eval x) n (rep z.cells n) ys true:=by
 obtain⟨k,m,h1,h2,h3⟩:=ym ht hx h
 have Ub:=zQ hz
 refine⟨(Builtin.zeroCells zv.cells n).toList,?_,by rw[ZP,hzl],fun _=>hn,fun _=>⟨kq,k,m,rQ,h1,h2,h3,rfl⟩,fun h=>by simp at h⟩
 have:=za3 (β:=β) (W:=W) Ub Ω n
 have hl:zv.cells.size=z.cells.length:=by have:=Ub.1;simp at this;omega
 unfold Builtin.zeroCells
 rw[hl]
 rw[hl]at this
 exact this
theorem EP{st xt el ty:TypeId}{sz n sLen sCap:Nat}{i:TypeInfo}{zv:Value}{base:Option Addr}{x:Value}{new:List IV}{ys olds:List Value}{fq:Bool}(hu:P.underlying st=some (.slice el))(hi:P.info? el=some i)(hs:i.size=sz)(hsz:0<sz)(hb:i.bytes<=1024)(hz:i.zero=some zv)
  (hx:Src P β W sz zv xt x n new ys fq) (hn0:n≠0) (ru:sLen+n<=2 ^ 30) (hcap:sCap<sLen+n) (ho:∀ V:World,V.heap=W.heap->(Builtin.firstCells sz sLen (.slice base sLen sCap)).run P V=.ok olds.toArray V) (Ub:zv.cells.size=sz) :
  ∃ mB rest,(Builtin.append_ #[st,xt] ty #[.slice base sLen sCap,x]).run P W=.ok (.slice (some ⟨W.heap.size,0,none⟩) (sLen+n) mB) (W.drew.alloc (.cells ((olds++ys).toArray++rest) el))/\sLen+n<=mB/\rest.size=(mB-(sLen+n))*sz:=by
 subst hs
 cases fq with
 |false =>
  obtain⟨Mc,p,c,rQ,rfl,hf⟩:=hx.s rfl
  refine⟨_,Builtin.zeroCells zv.cells (grownCap W (sLen+n) sCap el-(sLen+n)),?_,DR W (sLen+n) sCap el,by rw[Builtin.zeroCells,Array.size_map,Array.size_range,Ub]⟩
  rw[BL hu rQ hi hb hz ru hcap (hf _ rfl) (ho _ rfl)]
  congr 3
  apply znz
  simp[kR]
 |true =>
  obtain⟨kq,k,m,rQ,rfl,hm,hmn,hys⟩:=hx.z rfl
  refine⟨_,Builtin.zeroCells zv.cells (grownCap W (sLen+n) sCap el-(sLen+n)),?_,DR W (sLen+n) sCap el,by rw[Builtin.zeroCells,Array.size_map,Array.size_range,Ub]⟩
  rw[BK hu rQ hi hb hz hm hmn Ω hn0 ru hcap (ho _ rfl)]
  congr 3
  apply znz
  rw[hys]
  simp[kR]
theorem Y1{st xt el ty:TypeId}{sz n sLen sCap:Nat}{i:TypeInfo}{zv:Value}{base:Addr}{x:Value}{new:List IV}{ys:List Value}{fq:Bool}(hu:P.underlying st=some (.slice el))(hi:P.info? el=some i)(hs:i.size=sz)(hsz:0<sz)(hb:i.bytes<=1024)(hz:i.zero=some zv)
  (hx:Src P β W sz zv xt x n new ys fq) (hcap:sLen+n<=sCap):(Builtin.append_ #[st,xt] ty #[.slice (some base) sLen sCap,x]).run P W=((storeCells (base.add (sLen*sz)) ys).run P W).andThen fun _ w=>.ok (.slice (some base) (sLen+n) sCap) w:=by
 subst hs
 cases fq with
 |false =>
  obtain⟨Mc,p,c,rQ,rfl,hf⟩:=hx.s rfl
  have hf:=hf W rfl
  simp[Builtin.append_,run_underlying hu,run_underlying rQ,sizeOf,typeInfo,zeroValue,hi,hz,Builtin.lenOf,hcap,hf]
 |true =>
  obtain⟨kq,k,m,rQ,rfl,hm,hmn,hys⟩:=hx.z rfl
  have qD:=hx.gC rfl
  have hw:IntKind.i64.wrap m=m:=IntWalk.i64_in m Ω
  have hl0:¬ m<0:=Ω
  have om:¬ (281474976710656<m*(i.bytes:Int)):=by have hml:m<=1073741824:=Ω;have:m*(i.bytes:Int)<=1073741824*1024:=zol hml Ω Ω Ω;omega
  by_cases hn0:n*i.size=0
  ·have hn:n=0:=by rcases zm3.1 hn0 with h|h<;>omega
   have:ys=[]:=by have h1:=hx.rel.1;rw[hx.len,hn0]at h1;exact sr.1 h1.symm
   subst this
   simp[Builtin.append_,run_underlying hu,run_underlying rQ,sizeOf,typeInfo,zeroValue,hi,hz,asInt,asIntOf,hw,hl0,om,hmn,hcap,hn0,storeCells]
  ·rw[hys]
   simp[Builtin.append_,run_underlying hu,run_underlying rQ,sizeOf,typeInfo,zeroValue,hi,hz,asInt,asIntOf,hw,hl0,om,hmn,hcap,hn0]
end
section
variable {P:Program} {d:Nat} {ah:bR} {β:Pl} {W:World} {a:Act} {o:Oper} {t:List IV} {aa aX aK:aU} {e:eV} {v:IV} {n0:Nat}
theorem ER{ts:Array TypeId}{st xt ty:TypeId}{args:Array Value}(h0:ts[0]?=some st)(h1:ts[1]?=some xt):Builtin.append_ ts ty args=Builtin.append_ #[st,xt] ty args:=by have e0:(#[st,xt]:Array TypeId)[0]?=some st:=rfl;have e1:(#[st,xt]:Array TypeId)[1]?=some xt:=rfl;unfold Builtin.append_;rw[h0,h1,e0,e1]
theorem Tx{id:Nat}{c:List IV}{cs:Array Value}{ty:TypeId}(hR:RS β (look d ah aa) W)(hf:aa[id]?=some .free)(h:∀(j:Nat)(x:IV),c[j]?=some x->∃ y,cs[j]?=some y/\VR β W x y){W':World}(hW:∃ q,W'=({ W with drawn:=q }:World).alloc (.cells cs ty)) :
  RS (upd β d id (W.heap.size,0)) (look d ah (aa.set id (.cells c))) W'/\Fr d β W (upd β d id (W.heap.size,0)) W':=by
 obtain⟨q,rfl⟩:=hW
 refine zed hR hf (fun l i s' o' hb _ _=>absurd (hR.here _ _ _ _ hb) Ω) (.inl (dz _)) (fun k2 _ hk2=>Below.heap_alloc _ _ k2 hk2) Ψ Ψ (fun c t f hc=>absurd (Fb.1 hc).1 (znj _)) rfl rfl rfl (fun e=>?_)
 refine⟨cs,ty,Zz _ _,fun j x hx=>?_⟩
 obtain⟨y,hy,hv⟩:=h j x hx
 exact⟨y,hy,hv.ext e⟩
theorem adb{el:TypeId}{id need mB sz:Nat}{cells:List IV}{ys:List Value}{rest:Array Value}(hR:RS β (look d ah aa) W)(hf:aa[id]?=some .free)(mD:dV β W cells ys)(hlen:cells.length=need*sz)(hcap:need<=mB)(hroom:mB*sz<=(ys.toArray++rest).size) :
  ∃ β' W',W'=W.drew.alloc (.cells (ys.toArray++rest) el)/\RS β' (look d ah (aa.set id (.cells cells))) W'/\Fr d β W β' W'/\VR β' W' (.slM d id 0 need need sz false) (.slice (some ⟨W.heap.size,0,none⟩) need mB):=by
 obtain ⟨r6,hF⟩:=Tx (cs:=ys.toArray++rest) (ty:=el) (c:=cells) hR hf (fun j x hx=>by
  obtain⟨y,hy,hv⟩:=mD.get hx;exact ⟨y,by rw [zn0 (by simpa using (cU.1 hy).1)]; simpa using hy,hv⟩) (W':=W.drew.alloc (.cells (ys.toArray++rest) el)) ⟨W.drawn+1,rfl⟩
 exact⟨_,_,rfl,r6,hF,.slM (s:=0) (zU _ _ _ _) (.inr rfl) (dz _) hcap (fun h=>by simp at h) ⟨_,el,(0,0),Zz _ _,by rw[fO];exact hroom⟩⟩
theorem append_nil{st xt el ty:TypeId}{sz:Nat}{i:TypeInfo}{zv:Value}{x:Value}{new:List IV}{ys:List Value}{fq:Bool}(hu:P.underlying st=some (.slice el))(hi:P.info? el=some i)(hs:i.size=sz)(hx:Src P β W sz zv xt x 0 new ys fq) :
  (Builtin.append_ #[st,xt] ty #[.slice none 0 0,x]).run P W=.ok (.slice none 0 0) W:=by
 subst hs
 cases fq with
 |false =>
  obtain⟨Mc,p,c,rQ,rfl,hf⟩:=hx.s rfl
  have hf:=hf W rfl
  simp[Builtin.append_,run_underlying hu,run_underlying rQ,sizeOf,typeInfo,hi,Builtin.lenOf,hf]
 |true =>
  obtain⟨kq,k,m,rQ,rfl,hm,hmn,hys⟩:=hx.z rfl
  have hm0:m=0:=Ω
  subst hm0
  have hw:IntKind.i64.wrap 0=0:=IntWalk.i64_in 0 Ω
  simp[Builtin.append_,run_underlying hu,run_underlying rQ,sizeOf,typeInfo,hi,asInt,asIntOf,hw]
theorem za6{aa aX:aU}{i id:Nat}{o:aO}{u v:IV}{e:eV}(h:kW aa i id o u=some (e,v,aX)):aa[id]?=some .free/\e=.k i id/\v=u/\aX=(aa.set i .gone).set id o:=by
 unfold kW at h;split at h
 ·rename_i hf;cases h;exact⟨hf,rfl,rfl,zi _⟩
 ·simp at h
theorem Hs{st xt el ty:TypeId}{sz n slot:Nat}{i:TypeInfo}{zv:Value}{s:IV}{sv x:Value}{new:List IV}{ys:List Value}{fq:Bool}(hu:P.underlying st=some (.slice el))(hi:P.info? el=some i)(hs:i.size=sz)(hsz:0<sz)(hb:i.bytes<=1024)(hz:i.zero=some zv)(Ub:zv.cells.size=sz)
  (hx:Src P β W sz zv xt x n new ys fq) (hv:VR β W s sv) (hR:RS β (look d ah aa) W) (hV:Hy aK aa) (he:bh d n0 (look d ah aK) aa sz s new n slot=some (e,v,aX)) :
  ∃ r β' W',(Builtin.append_ #[st,xt] ty #[sv,x]).run P W=.ok r W'/\VR β' W' v r/\RS β' (look d ah aX) W'/\Fr d β W β' W':=by
 have Nb:ys.length=n*sz:=by rw[←hx.rel.1];exact hx.len
 unfold bh at he
 split at he
 ·rename_i hn
  subst hn
  have hys:ys=[]:=sr.1 (by rw[Nb,qw])
  split at he
  ·cases he
   rw[yL hv]
   exact⟨_,β,W,append_nil hu hi hs hx,.nilsl,hR,Fr.refl _ _ _⟩
  ·cases he
   obtain⟨k,s1,cap',ad,_,_,_,hl,_,_,hq⟩:=xW hv
   subst hq
   refine⟨_,β,W,?_,hv,hR,Fr.refl _ _ _⟩
   rw[Y1 hu hi hs hsz hb hz hx Ω,hys]
   rfl
  ·cases he
   obtain⟨k,s1,o',cap',oq,_,hl,hc,_,hq⟩:=FK hv
   subst hq
   refine⟨_,β,W,?_,hv,hR,Fr.refl _ _ _⟩
   rw[Y1 hu hi hs hsz hb hz hx Ω,hys]
   rfl
  ·simp at he
 ·rename_i hn
  have grow:∀{sLen sCap:Nat}{base:Option Addr}{Dd:List IV}{olds:List Value}{bO:aU}{id:Nat},sLen+n<=2 ^ 30->sCap<sLen+n->(∀ V:World,V.heap=W.heap->(Builtin.firstCells sz sLen (.slice base sLen sCap)).run P V=.ok olds.toArray V) ->
    dV β W Dd olds->Dd.length=sLen*sz->RS β (look d ah bO) W->bO[id]?=some .free ->
    ∃ r β' W',(Builtin.append_ #[st,xt] ty #[.slice base sLen sCap,x]).run P W=.ok r W'/\VR β' W' (.slM d id 0 (sLen+n) (sLen+n) sz false) r/\RS β' (look d ah (bO.set id (.cells (Dd++new)))) W'/\Fr d β W β' W':=by
   intro sLen sCap base Dd olds bO id ru hcap ho Jl hol uL hf
   obtain⟨mB,rest,hrun,hle,PN⟩:=EP (ty:=ty) hu hi hs hsz hb hz hx hn ru hcap ho Ub
   obtain ⟨β',W',hW',g1,g2,g3⟩:=adb (el:=el) (mB:=mB) (rest:=rest) (ys:=olds++ys) uL hf (Jl.append hx.rel) (by rw [eR,hol,hx.len,BU]) hle (by
    have h1:=Jl.1;simp only[Array.size_append,List.size_toArray,eR,PN,Nb,←h1,hol];rw[←BU,←BU];exact HL _ Ω)
   exact⟨_,β',W',by rw[hrun,hW'],g3,g1,g2⟩
  split at he
  ·-- nil
   split at he
   ·rename_i hle
    obtain⟨hf,rfl,rfl,rfl⟩:=yo he
    rw[yL hv]
    have:=grow (sLen:=0) (sCap:=0) (base:=none) (Dd:=[]) (olds:=[]) (bO:=aa) (by unfold bound at hle;omega) Ω (fun V _=>by simp[Builtin.firstCells]) .nil Ψ hR hf
    simpa using this
   ·simp at he
  ·-- a list
   rename_i cs len sz0 tight
   split at he
   ·rename_i hle
    obtain⟨hle,rfl⟩:=hle
    split at he
    ·rename_i old hold
     obtain⟨hf,rfl,rfl,rfl⟩:=yo he
     obtain⟨ad,cap',hq,hl,Fj,hA,hcn⟩:=Oa hv
     obtain⟨g1,g2⟩:=ZS hold
     obtain⟨olds,f1,f2⟩:=yQ (P:=P) (W:=W) (sz:=sz) (len:=len) (cap:=cap') (x:=.slice (some ad) len cap') rfl (NU hA g1 g2)
     rw[hq,zi]
     exact grow (by unfold bound at hle;omega) (by rw[Fj rfl];omega) f1 f2 g1 hR hf
    ·simp at he
   ·simp at he
  ·-- a block
   rename_i l bi off len cap sz0 tight
   split at he
   ·rename_i hle
    obtain⟨hle,rfl⟩:=hle
    split at he
    ·rename_i c hg
     have hg':=YF hV hg rfl
     obtain⟨k,s1,o',cap',oq,hoff,hl,hc,Fj,hroom,hq⟩:=XO hv
     obtain⟨_,_,_,_,_,_,_,_,_,tU,hA⟩:=V4 hR hv hg'
     rw[hq]at tU
     cases tU
     split at he
     ·-- in place
      rename_i hcap
      split at he
      ·rename_i hh
       obtain⟨rfl,hfit,hsc⟩:=hh
       cases he
       rw[zi,zi]
       have Qe:cap≠0:=Ω
       obtain rfl:=hoff.resolve_left Qe
       have hown:aa[bi]?=some (.cells c):=by rw[yf]at hg';exact hg'
       obtain⟨c',ty',hh,qE⟩:=hR.obj _ _ _ _ _ oq hg'
       obtain⟨c1,t1,f1,uI,hrm⟩:=hroom
       rw[hh]at uI
       cases uI
       have hone:=yY hx.rel hsc
       have ad0:off+s1+len*sz0+ys.length<=c'.size:=by rw[Nb,uO,←BU];refine lW (zl5 (HL sz0 (?_:len+n<=cap')) _) hrm;omega
       have hrun:=run_storeCells_at (P:=P) k (off+s1+len*sz0) ty' ys 0 c' W hh Ω hone
       obtain⟨W',hW'⟩:∃ W',W'=W.setRow k (c'.toList.take (off+s1+len*sz0+0)++ys++c'.toList.drop (off+s1+len*sz0+0+ys.length)).toArray:=⟨_,rfl⟩
       have hwl:off+len*sz0+new.length<=c.length:=by rw[hx.len,uO,←BU];exact hfit
       have hO:Ext β W β W'->OR β W' k s1 (.cells (gV c (off+len*sz0) new)):=fun ex=>by
        refine⟨_,ty',by rw[hW'];exact setRow_heap W k c' _ ty' _ hh,fun j z hz=>?_⟩;rw[ZQ _ _ _ _ hwl]at hz;simp only[sY,zk9];have hnl:new.length=ys.length:=hx.rel.1;by_cases hj:off+len*sz0<=j/\j<off+len*sz0+new.length
        ·rw[bt hj]at hz;obtain⟨r,hr,tT⟩:=hx.rel.get hz;refine⟨r,?_,tT.ext ex⟩;rw[kR,jd (by simp;omega),gT (by simp;omega)];rw[←hr];congr 1;simp;omega
        ·rw[bC hj]at hz;obtain⟨r,hr,tT⟩:=qE j z hz;refine⟨r,?_,tT.ext ex⟩;rw[←hr,kR,←pP];by_cases hjl:j<off+len*sz0
         ·rw[gT (by simp;omega),Fq,bt Ω]
         ·rw[jd (by simp;omega),jd (by simp;omega),Sz];congr 1;simp;omega
       have hrow:∀(c2:Array Value)(t2:TypeId)(f2:Nat×Nat),W.heap[k]?=some (.cells c2 t2 f2)->∃ c3,W'.heap[k]?=some (.cells c3 t2 f2)/\c3.size=c2.size:=fun c2 t2 f2 mF=>by rw[hh]at mF;cases mF;exact⟨_,by rw[hW'];exact setRow_heap W k c' _ ty' _ hh,by simp;omega⟩
       obtain⟨r6,hF⟩:=zee (W':=W') hR hown rfl oq (fun k2 hk2=>by rw[hW'];exact setRow_other W k k2 _ hk2) (by rw[hW'];simp) hrow (by rw[hW'];rfl) (by rw[hW'];rfl) (by rw[hW'];rfl) hO rfl
       refine⟨_,β,W',?_,.slM (s:=s1) (o':=off+s1) oq (.inr rfl) hcap (lW hc (dz _)) Fj (Room.ext ⟨c',ty',(0,0),hh,hrm⟩ hF.ext),r6,hF⟩
       rw[hq,Y1 hu hi hs hsz hb hz hx Ω,Zj rfl,hrun,←hW']
       rfl
      ·simp at he
     ·rename_i hcap
      split at he
      ·rename_i old hold
       obtain⟨g1,g2⟩:=ZS hold
       have hfc:∃ olds:List Value,(∀ V:World,V.heap=W.heap->(Builtin.firstCells sz0 len (.slice (some ⟨k,o',none⟩) len cap')).run P V=.ok olds.toArray V)/\dV β W old olds:=by
        by_cases hc0:cap=0
        ·have hl0:len=0:=Ω;subst hl0;have:old=[]:=sr.1 (by rw[g1,qw]);subst this;exact⟨[],fun V _=>run_firstCells_some V sz0 0 _ 0 cap' [] Ψ (fun j y hj=>by simp at hj),.nil⟩
        ·exact yQ (P:=P) (W:=W) (sz:=sz0) (len:=len) (cap:=cap') (x:=.slice (some ⟨k,o',none⟩) len cap') rfl (.inr ⟨_,off,rfl,hA hc0,g2,g1⟩)
       obtain⟨olds,f1,f2⟩:=hfc
       split at he
       ·rename_i SF
        obtain⟨hf,rfl,rfl,rfl⟩:=yo he
        rw[hq,zi]
        exact grow (by unfold bound at hle;omega) (by rw[Fj SF];omega) f1 f2 g1 hR hf
       ·split at he
        ·rename_i hld
         obtain⟨rfl,hsc⟩:=hld
         obtain⟨hf,rfl,rfl,rfl⟩:=za6 he
         rw[zi]
         have hown:aa[bi]?=some (.cells c):=by rw[yf]at hg';exact hg'
         have hne:bi≠n0+slot:=fun h=>by rw[h,hf]at hown;simp at hown
         have uL:=Ao hR hown
         have hf1:(aa.set bi .gone)[n0+slot]?=some .free:=by rw[SO,bC hne];exact hf
         by_cases hin:len+n<=cap'
         ·have hone:=yY hx.rel hsc
          obtain⟨c',ty',hh,qE⟩:=hR.obj _ _ _ _ _ oq hg'
          obtain⟨c1,t1,fz1,uI,hrm⟩:=hroom
          rw[hh]at uI
          cases uI
          have ad0:o'+len*sz0+ys.length<=c'.size:=by rw[Nb,uO,←BU];exact lW (zl5 (HL sz0 hin) _) hrm
          have hrun:=run_storeCells_at (P:=P) k (o'+len*sz0) ty' ys 0 c' W hh Ω hone
          obtain⟨W',hW'⟩:∃ W',W'=W.setRow k (c'.toList.take (o'+len*sz0+0)++ys++c'.toList.drop (o'+len*sz0+0+ys.length)).toArray:=⟨_,rfl⟩
          have hrow:∀(c2:Array Value)(t2:TypeId)(f2:Nat×Nat),W.heap[k]?=some (.cells c2 t2 f2)->∃ c3,W'.heap[k]?=some (.cells c3 t2 f2)/\c3.size=c2.size:=fun c2 t2 f2 mF=>by rw[hh]at mF;cases mF;exact⟨_,by rw[hW'];exact setRow_heap W k c' _ ty' _ hh,by simp;omega⟩
          have nP:k<W.heap.size:=hR.here _ _ _ _ oq
          obtain ⟨r6,hF⟩:=zed (id:=n0+slot) (k:=k) (s:=o') (o:=.cells (old++new)) (W':=W') uL hf1 (fun l2 i2 s' o2 hb hgl hlv=>by
            by_cases h:l2=l/\i2=bi
            ·rw[h.1,h.2,zV hown]at hgl;cases hgl;simp[aO.live]at hlv
            ·rw[zR h]at hgl;exact h (hR.one _ _ _ _ _ _ _ _ _ hb oq hgl hg' hlv rfl)) (.inr ⟨bi,s1,oq⟩) (fun k2 hk2 _=>by rw [hW']; exact setRow_other W k k2 _ hk2)
           (by rw [hW']; simp) (by rw [hW']; simpa using nP) hrow (by rw [hW']; rfl) (by rw [hW']; rfl) (by rw [hW']; rfl) (fun ex=>by
            refine⟨_,ty',by rw[hW'];exact setRow_heap W k c' _ ty' _ hh,fun j z hz=>?_⟩;simp only[sY,zk9];have hnl:new.length=ys.length:=hx.rel.1;by_cases hj:j<old.length
            ·rw[gT hj]at hz;have Qe:cap≠0:=by intro h0;have:len=0:=Ω;rw[g1,this,qw]at hj;omega
             obtain rfl:=hoff.resolve_left Qe;obtain⟨r,hr,tT⟩:=qE _ z (g2 j z hz);refine⟨r,?_,tT.ext ex⟩;rw[g1]at hj;rw[kR,gT (by simp;omega),Fq,bt Ω,←hr,←pP];congr 1;omega
            ·rw[jd Ω]at hz;obtain⟨r,hr,tT⟩:=hx.rel.get hz;have hjl:=(cU.1 hr).1;refine⟨r,?_,tT.ext ex⟩;rw[g1]at hj hr hjl;rw[kR,jd (by simp;omega),gT (by simp;omega)];rw [← hr]; congr 1; simp; omega)
          refine⟨_,_,W',?_,.slM (s:=o') (o':=o') (zU _ _ _ _) (.inr Ω) (dz _) hin (fun h=>by simp at h) (Room.ext ⟨c',ty',(0,0),hh,hrm⟩ hF.ext),r6,hF⟩
          rw[hq,Y1 hu hi hs hsz hb hz hx hin,Zj rfl,hrun,←hW']
          rfl
         ·rw[hq]
          exact grow (by unfold bound at hle;omega) Ω f1 f2 g1 uL hf1
        ·simp at he
      ·simp at he
    ·simp at he
   ·simp at he
  ·simp at he
end
section
variable {P:Program} {d:Nat} {ah:bR} {β:Pl} {W:World} {a:Act} {o:Oper} {t:List IV} {aa aX aK:aU} {e:eV} {v:IV} {n0:Nat}
theorem za7{ty:TypeId}{i:TypeInfo}(h:rV P ty=true)(hi:P.info? ty=some i):i.bytes<=1024:=by unfold rV at h;rw[hi]at h;exact of_decide_eq_true h
theorem CB{c:Go.Call}{st xt el:TypeId}{xu:TypeDesc}{sz slot:Nat}{z:IV}{fq:Bool}{s x:Operand}{s' x':bG}(ho:o.op=.call c)(o9:c.callee=.builtin .append)(hargs:c.args.toList=[s,x])(h0:c.argTypes[0]?=some st)(h1:c.argTypes[1]?=some xt)
  (hu:P.underlying st=some (.slice el)) (rQ:P.underlying xt=some xu) (hn:dG P el=some sz) (hz:jl P el=some z) (wC:rV P el=true) (hzl:z.cells.length=sz) (hsz:0<sz) (hk:(fq=true/\∃ kq,xu=.int kq)∨(fq=false/\xu=.slice el))
  (hs:bI s=some s') (hx:bI x=some x') (ht:TR β W t a.tmps) (hR:RS β (look d ah aa) W) (hV:Hy aK aa) (he:iX d ah n0 aK aa t z.cells sz fq s' x' slot=some (e,v,aX)):gG P d ah β W a.eval o v aX:=by
 have hv:=ht.eval hs
 obtain⟨i,zv,hi,Dz,Gm⟩:=yE (β:=β) (W:=W) hz
 obtain⟨i',hi',hsize⟩:=yq hn
 rw[hi]at hi'
 cases hi'
 have hb:=za7 wC hi
 have Ub:zv.cells.size=sz:=by have:=(zQ Gm).1;rw[hzl]at this;simpa using this.symm
 unfold iX at he
 have fin:∀{new:List IV}{n:Nat}{ys:List Value},Src P β W sz zv xt (a.eval x) n new ys fq->bh d n0 (look d ah aK) aa sz (ρ t s') new n slot=some (e,v,aX)->gG P d ah β W a.eval o v aX:=by intro new n ys hS hA;obtain⟨r,β',W',g1,g2,g3,g4⟩:=Hs (ty:=o.type) hu hi hsize hsz hb Dz Ub hS hv hR hV hA;refine⟨.value r,β',W',?_,g2,g3,g4⟩;rw[←ER h0 h1]at g1;have pg:=Ck hargs;simp only[execOp,ho,resolve,o9,pg,XA,nK,BY,iB,jt,iC,invoke,builtin,g1]
 rcases hk with⟨rfl,kq,rfl⟩|⟨rfl,rfl⟩
 ·rw[bt rfl]at he
  split at he
  ·rename_i new n hq
   cases hnn:mC (ρ t x')with
   |none=>rw[hnn]at hq;simp at hq
   |some m =>
    rw[hnn]at hq
    simp only[jG]at hq
    split at hq
    ·rename_i hle
     cases hq
     obtain⟨ys,hS⟩:=KK (sz:=sz) rQ Gm hzl hsz hx ht hnn hle
     exact fin hS he
    ·simp at hq
  ·simp at he
 ·rw[bC Ψ]at he
  split at he
  ·rename_i new n hq
   obtain⟨ys,hS⟩:=vG (zv:=zv) rQ hx ht hR hV hsz hq
   exact fin hS he
  ·simp at he
theorem zen{l i off k s1 o':Nat}{xs:List IV}{ys:List Value}{u:IV}(hR:RS β (look d ah aa) W)(hb:β l i=some (k,s1))(ho:o'=off+s1)(mD:dV β W xs ys)(hroom:Room W k (o'+ys.length))(he:r7 d aa l i off xs u=some (e,v,aX)) :
  v=u/\∃ W',(storeCells ⟨k,o',none⟩ ys).run P W=.ok () W'/\RS β (look d ah aX) W'/\Fr d β W β W':=by
 unfold r7 at he
 split at he
 rotate_left
 ·simp at he
 rename_i c hg
 split at he
 rotate_left
 ·simp at he
 rename_i hc
 obtain⟨rfl,hfit,hsc⟩:=hc
 cases he
 rw[zi,zi]
 subst ho
 have hg':look l ah aa l i=some (.cells c):=by rw[yf];exact hg
 obtain⟨c',ty',hh,qE⟩:=hR.obj _ _ _ _ _ hb hg'
 obtain⟨c1,t1,f1,uI,hrm⟩:=hroom
 rw[hh]at uI
 cases uI
 have hnl:xs.length=ys.length:=mD.1
 have hone:=yY mD hsc
 have hrun:=run_storeCells_at (P:=P) k (off+s1) ty' ys 0 c' W hh (by simp;omega) hone
 obtain⟨W',hW'⟩:∃ W',W'=W.setRow k (c'.toList.take (off+s1+0)++ys++c'.toList.drop (off+s1+0+ys.length)).toArray:=⟨_,rfl⟩
 have hO:Ext β W β W'->OR β W' k s1 (.cells (gV c off xs)):=fun ex=>by
  refine⟨_,ty',by rw[hW'];exact setRow_heap W k c' _ ty' _ hh,fun j z hz=>?_⟩;rw[ZQ _ _ _ _ hfit]at hz;simp only[sY,zk9];by_cases hj:off<=j/\j<off+xs.length
  ·rw[bt hj]at hz;obtain⟨r,hr,tT⟩:=mD.get hz;refine⟨r,?_,tT.ext ex⟩;rw[kR,jd (by simp;omega),gT (by simp;omega)];rw[←hr];congr 1;simp;omega
  ·rw[bC hj]at hz;obtain⟨r,hr,tT⟩:=qE j z hz;refine⟨r,?_,tT.ext ex⟩;rw[←hr,kR,←pP];by_cases hjl:j<off
   ·rw[gT (by simp;omega),Fq,bt Ω]
   ·rw[jd (by simp;omega),jd (by simp;omega),Sz];congr 1;simp;omega
 have hrow:∀(c2:Array Value)(t2:TypeId)(f2:Nat×Nat),W.heap[k]?=some (.cells c2 t2 f2)->∃ c3,W'.heap[k]?=some (.cells c3 t2 f2)/\c3.size=c2.size:=fun c2 t2 f2 mF=>by rw[hh]at mF;cases mF;exact⟨_,by rw[hW'];exact setRow_heap W k c' _ ty' _ hh,by simp;omega⟩
 obtain⟨r6,hF⟩:=zee (W':=W') hR hg rfl hb (fun k2 hk2=>by rw[hW'];exact setRow_other W k k2 _ hk2) (by rw[hW'];simp) hrow (by rw[hW'];rfl) (by rw[hW'];rfl) (by rw[hW'];rfl) hO rfl
 exact⟨rfl,W',by rw[hrun,←hW'],r6,hF⟩
theorem af2{ts:Array TypeId}{ty:TypeId}(h:ts[0]?=some ty)(r:TypeId)(args:Array Value):Builtin.clear_ ts r args=Builtin.clear_ #[ty] r args/\Builtin.copy_ ts r args=Builtin.copy_ #[ty] r args:=by have e0:(#[ty]:Array TypeId)[0]?=some ty:=rfl;unfold Builtin.clear_ Builtin.copy_;rw[h,e0];exact⟨rfl,rfl⟩
theorem acw{c:Go.Call}{ty el:TypeId}{n:Nat}{z:IV}{x:Operand}{x':bG}(ho:o.op=.call c)(o9:c.callee=.builtin .clear)(hargs:c.args.toList=[x])(h0:c.argTypes[0]?=some ty)(hu:P.underlying ty=some (.slice el))(hn:dG P el=some n)(hz:jl P el=some z)(hzl:z.cells.length=n)(hn0:0<n)
  (hx:bI x=some x') (ht:TR β W t a.tmps) (hR:RS β (look d ah aa) W) (he:wY d aa t z.cells n x'=some (e,v,aX)):gG P d ah β W a.eval o v aX:=by
 have hv:=ht.eval hx
 obtain⟨i,zv,hi,Dz,Gm⟩:=yE (β:=β) (W:=W) hz
 have hzs:=zQ Gm
 have fin:∀{W':World},(Builtin.clear_ #[ty] o.type #[a.eval x]).run P W=.ok (.tuple #[]) W'->(execOp a.eval o).run P W=.ok (.value (.tuple #[])) W':=fun h=>by simp only[execOp,ho,resolve,o9,AK hargs,XA,nK,BY,iB,jt,iC,invoke,builtin,(af2 h0 _ _).1,h]
 unfold wY at he
 split at he
 ·rename_i q1
  rw[q1]at hv
  cases he
  refine⟨.value (.tuple #[]),β,W,fin ?_,?_,hR,Fr.refl _ _ _⟩
  ·rw[yL hv]
   simp[Builtin.clear_,run_underlying hu]
  ·exact .tuple rfl (fun _ _ _ h=>by simp at h)
 ·rename_i l i1 off len cap sz0 tg q1
  rw[q1]at hv
  obtain⟨k,s1,o',cap',hb,hoff,hl,hc,Fj,hroom,hq⟩:=XO hv
  split at he
  ·rename_i SH
   subst SH
   cases he
   refine⟨.value (.tuple #[]),β,W,fin ?_,.tuple rfl (fun _ _ _ h=>by simp at h),hR,Fr.refl _ _ _⟩
   rw[hq]
   simp[Builtin.clear_,run_underlying hu]
  ·rename_i SH
   split at he
   ·rename_i hsz
    subst hsz
    have hlen:zv.cells.size=sz0:=by have:=hzs.1;simp at this;omega
    have mD:=za3 (β:=β) (W:=W) hzs Ω len
    rw[hzl]at mD
    have hys:(Builtin.zeroCells zv.cells len).toList.length=len*sz0:=by simp[Builtin.zeroCells,hlen]
    have adn:dV β W (rep z.cells len) (Builtin.zeroCells zv.cells len).toList:=by unfold Builtin.zeroCells;rw[hlen];rw[hlen]at mD;exact mD
    obtain ⟨rfl,W',hw,r6,hF⟩:=zen (P:=P) hR hb (hoff.resolve_left Ω) adn (by
     obtain⟨c1,t1,f1,hh,hrm⟩:=hroom;refine⟨c1,t1,f1,hh,?_⟩;rw[hys];exact lW (zl5 (HL _ (lW hl hc)) _) hrm) he
    refine⟨.value (.tuple #[]),β,W',fin ?_,.tuple rfl (fun _ _ _ h=>by simp at h),r6,hF⟩
    rw[hq]
    obtain⟨m,rfl⟩:∃ m,len=m+1:=⟨len-1,Ω⟩
    simp[Builtin.clear_,run_underlying hu,zeroValue,typeInfo,hi,Dz,hw]
   ·simp at he
 ·simp at he
theorem acv{c:Go.Call}{ty el:TypeId}{n:Nat}{x y:Operand}{x' y':bG}(ho:o.op=.call c)(o9:c.callee=.builtin .copy)(hargs:c.args.toList=[x,y])(h0:c.argTypes[0]?=some ty)(hu:P.underlying ty=some (.slice el))(hn:dG P el=some n)(hn0:0<n)
  (hx:bI x=some x') (hy:bI y=some y') (ht:TR β W t a.tmps) (hR:RS β (look d ah aa) W) (hV:Hy aK aa) (he:wX d ah aK aa t n x' y'=some (e,v,aX)):gG P d ah β W a.eval o v aX:=by
 have hv:=ht.eval hx
 obtain⟨i,hi,hsize⟩:=yq hn
 have fin:∀{W':World}{r:Value},(Builtin.copy_ #[ty] o.type #[a.eval x,a.eval y]).run P W=.ok r W'->(execOp a.eval o).run P W=.ok (.value r) W':=fun h=>by simp only[execOp,ho,resolve,o9,Ck hargs,XA,nK,BY,iB,jt,iC,invoke,builtin,(af2 h0 _ _).2,h]
 unfold wX at he
 split at he
 rotate_left
 ·simp at he
 rename_i l i1 off len cap sz0 tg xs m q1 lG
 rw[q1]at hv
 obtain⟨k,s1,o',cap',hb,hoff,hl,hc,Fj,hroom,hq⟩:=XO hv
 split at he
 rotate_left
 ·simp at he
 rename_i hh
 obtain⟨rfl,rfl⟩:=hh
 obtain⟨ys,hS⟩:=vG (zv:=.bool false) (xt:=ty) hu hy ht hR hV hn0 lG
 obtain⟨Mc,p,c2,_,hqy,hf⟩:=hS.s rfl
 have hf:=hf W rfl
 have Nb:ys.length=m*sz0:=by rw[←hS.rel.1];exact hS.len
 have run:∀{W':World},(storeCells ⟨k,o',none⟩ ys).run P W=.ok () W'->(Builtin.copy_ #[ty] o.type #[a.eval x,a.eval y]).run P W=.ok (.int .i64 m) W':=fun h=>by rw[hq,hqy];simp[Builtin.copy_,run_underlying hu,Builtin.lenOf,sizeOf,typeInfo,hi,hsize,hf,h,goInt]
 split at he
 ·rename_i SH
  subst SH
  cases he
  have hy0:ys=[]:=sr.1 (by rw[Nb,qw])
  subst hy0
  exact⟨_,β,W,fin (run rfl),.int _ _,hR,Fr.refl _ _ _⟩
 ·rename_i SH
  obtain ⟨rfl,W',hw,r6,hF⟩:=zen (P:=P) hR hb (hoff.resolve_left Ω) hS.rel (by
   obtain⟨c1,t1,f1,hh,hrm⟩:=hroom;refine⟨c1,t1,f1,hh,?_⟩;rw[Nb];exact lW (zl5 (HL _ (lW hl hc)) _) hrm) he
  exact⟨_,β,W',fin (run hw),.int _ _,r6,hF⟩
theorem acq{ty el:TypeId}{n slot:Nat}{z:IV}{x y:Operand}{x' y':bG}(ho:o.op=.makeSlice ty x y)(hu:P.underlying ty=some (.slice el))(hn:dG P el=some n)(hz:jl P el=some z)(wC:rV P el=true)(hzl:z.cells.length=n)(hn0:0<n)(hx:bI x=some x')(hy:bI y=some y')
  (ht:TR β W t a.tmps) (hR:RS β (look d ah aa) W) (he:ud d n0 aa t z.cells n x' y' slot=some (e,v,aX)):gG P d ah β W a.eval o v aX:=by
 unfold ud at he
 split at he
 rotate_left
 ·simp at he
 rename_i m m2 hm hm2
 split at he
 rotate_left
 ·simp at he
 rename_i hh
 obtain⟨rfl,hle⟩:=hh
 obtain⟨hf,rfl,rfl,rfl⟩:=yo he
 obtain⟨i,zv,hi,Dz,Gm⟩:=yE (β:=β) (W:=W) hz
 obtain⟨ie,hie,hs⟩:=yq hn
 obtain rfl:i=ie:=by rw[hi]at hie;exact kT hie
 have hb:=za7 wC hi
 have hzs:=zQ Gm
 have hlen:zv.cells.size=n:=by have:=hzs.1;simp at this;omega
 have e0:dV β W (rep z.cells m) (((Array.range (m*n)).map ((if m*n=0 then(#[]:Array Value)else zv.cells)[·%(if m*n=0 then(#[]:Array Value)else zv.cells).size]!)).toList):=by
  by_cases h0:m*n=0
  ·have hl0:m=0:=by rcases zm3.1 h0 with h|h<;>omega
   subst hl0;simp[rep];exact .nil
  ·simp only[bC h0];have:=za3 (β:=β) (W:=W) hzs Ω m;rw[hzl]at this;exact this
 obtain⟨r6,hF⟩:=An (ty:=el) hR hf e0 (W':=W.alloc (.cells _ el)) ⟨W.drawn,rfl⟩
 obtain⟨k1,a1,h1,h2,h3⟩:=ym ht hx hm
 obtain⟨k2,a2,g1,g2,g3⟩:=ym ht hy hm2
 rw[zi]
 refine⟨.value (.slice (some ⟨W.heap.size,0,none⟩) m m),_,_,?_,?_,r6,hF⟩
 ·have hle':m<=1073741824:=hle
  have w1:IntKind.i64.wrap a1=a1:=IntWalk.i64_in a1 Ω
  have w2:IntKind.i64.wrap a2=a2:=IntWalk.i64_in a2 Ω
  have hbig:(i.bytes:Int)*a2<=1024*1073741824:=zol Ω Ω Ω Ω
  have hbn:m*i.bytes<=1073741824*1024:=XF hle' hb
  have c1:¬ ((a2<0∨281474976710656<(i.bytes:Int)*a2)):=Ω
  have c2:¬ (a1<0):=Ω
  have c3:¬ (a2<a1):=Ω
  have hroom:¬ (m*i.bytes>roomBytes):=by unfold roomBytes;omega
  by_cases h0:m*n=0
  ·simp[execOp,ho,Instr.makeSlice,run_underlying hu,typeInfo,sizeOf,hi,hs,asInt,asIntOf,h1,g1,w1,w2,c1,c2,c3,askRoom,h3,g3,h0,newRow]
  ·simp[execOp,ho,Instr.makeSlice,run_underlying hu,typeInfo,zeroValue,sizeOf,hi,hs,Dz,asInt,asIntOf,h1,g1,w1,w2,c1,c2,c3,askRoom,h3,g3,h0,newRow]
 ·exact .slM (s:=0) (zU _ _ _ _) (.inr Ψ) (dz _) (dz _) (fun h=>by simp at h) ⟨_,_,_,Zz _ _,Ψ⟩
theorem map_some{α γ:Type}{f:α->γ}{x:Option α}{y:γ}(h:x.map f=some y):∃ z,x=some z/\y=f z:=by
 cases x with
 |none=>simp at h
 |some z=>exact⟨z,rfl,(kT h).symm⟩
theorem zx(h:e=.p/\aX=aa/\cT P β W a.eval o v)(hR:RS β (look d ah aa) W):gG P d ah β W a.eval o v aX:=by obtain⟨_,rfl,h⟩:=h;exact h.step hR
theorem ZA(h:aX=aa/\cT P β W a.eval o v)(hR:RS β (look d ah aa) W):gG P d ah β W a.eval o v aX:=by obtain⟨rfl,h⟩:=h;exact h.step hR
theorem JR{op:BinOp}{neg:Bool}{ty ty':TypeId}{u:TypeDesc}{x y:Operand}{x' y':bG}{qQ:kA}{C:Call}(ho:o.op=.binOp op ty x y ty')(hop:op=if neg then .neq else .eql)(hu:P.underlying ty=some u)(hc:Rl.cEq P ty x' y' neg u=some qQ)
  (ht:TR β W t a.tmps) (hx:bI x=some x') (hy:bI y=some y') (he:cH C d ah n0 aK aa t qQ=some (e,v,aX)):e=.p/\aX=aa/\cT P β W a.eval o v:=by
 unfold Rl.cEq at hc
 split at hc
 ·cases hc
  exact acu ho hop hu ht hx hy he
 ·cases hc
  exact acs ho hop hu ht hx hy he
 ·cases hc
  exact acr ho hop hu ht hx hy he
 ·split at hc
  ·simp at hc
  ·rename_i hg
   obtain⟨ks,hk,rfl⟩:=map_some hc
   exact Il ho hop hu rfl (by simpa using hg) hk ht hx hy he
 ·split at hc
  ·simp at hc
  ·rename_i hg
   obtain⟨ks,hk,rfl⟩:=map_some hc
   exact Il ho hop hu rfl (by simpa using hg) hk ht hx hy he
 ·simp at hc
theorem Rk{op:BinOp}{ty ty':TypeId}{x y:Operand}{x' y':bG}{qQ:kA}{C:Call}(ho:o.op=.binOp op ty x y ty')(hc:Rl P op ty x' y'=some qQ)
  (ht:TR β W t a.tmps) (hx:bI x=some x') (hy:bI y=some y') (he:cH C d ah n0 aK aa t qQ=some (e,v,aX)):e=.p/\aX=aa/\cT P β W a.eval o v:=by
 unfold Rl at hc
 split at hc
 ·cases hc
  exact V6 ho ht hx hy he
 ·split at hc
  ·simp at hc
  ·cases hc
   exact V6 ho ht hx hy he
 ·rename_i u _ _ hu
  split at hc
  ·exact JR (neg:=false) ho rfl hu hc ht hx hy he
  ·exact JR (neg:=true) ho rfl hu hc ht hx hy he
  ·simp at hc
 ·simp at hc
theorem args1{c:Go.Call}{s:bG}(h:allM bI c.args.toList=some [s]):∃ x,c.args.toList=[x]/\bI x=some s:=by
 obtain⟨h1,h2⟩:=Z5 h;match hl:c.args.toList,h1,h2 with
 |[x],_,h2=>obtain⟨y,g1,g2⟩:=h2 0 x rfl;simp at g1;subst g1;exact⟨x,rfl,g2⟩
theorem args2{c:Go.Call}{s r:bG}(h:allM bI c.args.toList=some [s,r]):∃ x y,c.args.toList=[x,y]/\bI x=some s/\bI y=some r:=by
 obtain⟨h1,h2⟩:=Z5 h;match hl:c.args.toList,h1,h2 with
 |[x,y],_,h2 =>
  obtain⟨p,g1,g2⟩:=h2 0 x rfl
  obtain⟨q,g3,g4⟩:=h2 1 y rfl
  simp at g1 g3;subst g1;subst g3;exact⟨x,y,rfl,g2,g4⟩
theorem Mw{c:Go.Call}{qQ:kA}{C:Call}{slot:Nat}(ho:o.op=.call c)(hc:JS P c slot=some qQ)(lR:∀ f y xs,c.callee=.value f->bI f=some y->allM bI c.args.toList=some xs->qQ=.call y xs slot->gG P d ah β W a.eval o v aX)
  (ht:TR β W t a.tmps) (hR:RS β (look d ah aa) W) (hV:Hy aK aa) (he:cH C d ah n0 aK aa t qQ=some (e,v,aX)):gG P d ah β W a.eval o v aX:=by
 unfold JS at hc
 split at hc
 ·rename_i f xs h1 h2
  obtain⟨y,hy,rfl⟩:=map_some hc
  exact lR f y xs h1 hy h2 rfl
 ·rename_i s x h1 h2
  obtain⟨s0,x0,hl,hs,hx⟩:=args2 h2
  split at hc
  ·rename_i st xt h3 h4
   split at hc
   ·rename_i el xu h5 h6
    split at hc
    ·rename_i n z h7 h8
     split at hc
     ·rename_i hh
      simp only[gJ,n9,jk]at hh
      obtain⟨⟨wC,hzl⟩,hn⟩:=hh
      split at hc
      ·cases hc
       exact CB ho h1 hl h3 h4 h5 h6 h7 h8 wC hzl hn (.inl ⟨rfl,_,rfl⟩) hs hx ht hR hV he
      ·split at hc
       ·rename_i hee
        cases hc
        have:=n9.1 hee
        subst this
        exact CB ho h1 hl h3 h4 h5 h6 h7 h8 wC hzl hn (.inr ⟨rfl,rfl⟩) hs hx ht hR hV he
       ·simp at hc
      ·simp at hc
     ·simp at hc
    ·simp at hc
   ·simp at hc
  ·simp at hc
 ·rename_i x h1 h2
  obtain⟨x0,hl,hx⟩:=args1 h2
  split at hc
  ·rename_i ty h3
   split at hc
   ·rename_i h4
    cases hc
    exact ZA (Ot ho h1 hl h3 h4 (.inl ⟨rfl,rfl⟩) hx ht hR hV he) hR
   ·rename_i el h4
    cases hc
    exact ZA (Ot ho h1 hl h3 h4 (.inr (.inl ⟨_,rfl,rfl⟩)) hx ht hR hV he) hR
   ·rename_i el h4
    cases hc
    exact ZA (Ot ho h1 hl h3 h4 (.inr (.inr ⟨_,_,rfl,rfl⟩)) hx ht hR hV he) hR
   ·simp at hc
  ·simp at hc
 ·rename_i x h1 h2
  obtain⟨x0,hl,hx⟩:=args1 h2
  split at hc
  ·rename_i ty h3
   split at hc
   ·rename_i el h4
    cases hc
    exact zx (acy ho h1 hl h3 h4 hx ht he) hR
   ·simp at hc
  ·simp at hc
 ·rename_i x h1 h2
  obtain⟨x0,hl,hx⟩:=args1 h2
  split at hc
  ·rename_i ty h3
   split at hc
   ·rename_i el h4
    split at hc
    ·rename_i n z h5 h6
     split at hc
     ·rename_i hh
      simp only[gJ,n9,jk]at hh
      cases hc
      exact acw ho h1 hl h3 h4 h5 h6 hh.1 hh.2 hx ht hR he
     ·simp at hc
    ·simp at hc
   ·simp at hc
  ·simp at hc
 ·rename_i x y h1 h2
  obtain⟨x0,y0,hl,hx,hy⟩:=args2 h2
  split at hc
  ·rename_i ty h3
   split at hc
   ·rename_i el h4
    split at hc
    ·rename_i n h5
     split at hc
     ·rename_i hh
      cases hc
      exact acv ho h1 hl h3 h4 h5 hh hx hy ht hR hV he
     ·simp at hc
    ·simp at hc
   ·simp at hc
  ·simp at hc
 ·rename_i x y h1 h2
  obtain⟨x0,y0,hl,hx,hy⟩:=args2 h2
  cases hc
  exact zx (ae2 (isMax:=true) ho h1 hl hx hy ht he) hR
 ·rename_i x y h1 h2
  obtain⟨x0,y0,hl,hx,hy⟩:=args2 h2
  cases hc
  exact zx (ae2 (isMax:=false) ho h1 hl hx hy ht he) hR
 ·simp at hc
theorem aax{qQ:kA}{C:Call}{slot:Nat}(hc:Rj P o.op slot=some qQ)(lR:∀ c f y xs,o.op=.call c->c.callee=.value f->bI f=some y->allM bI c.args.toList=some xs->qQ=.call y xs slot->gG P d ah β W a.eval o v aX)
  (ht:TR β W t a.tmps) (hR:RS β (look d ah aa) W) (hV:Hy aK aa) (he:cH C d ah n0 aK aa t qQ=some (e,v,aX)):gG P d ah β W a.eval o v aX:=by
 cases ho:o.op
 all_goals rw[ho]at hc;simp only[Rj]at hc
 all_goals first
  |(simp at hc;done)
  |skip
 case call c=>exact Mw ho hc (fun f y xs h1 h2 h3 h4=>lR c f y xs ho h1 h2 h3 h4) ht hR hV he
 case move x =>
  obtain⟨y,hx,rfl⟩:=map_some hc
  cases he
  exact(aae ho ht hx).step hR
 case assign x =>
  obtain⟨y,hx,rfl⟩:=map_some hc
  cases he
  exact(Ox ho ht hx).step hR
 case nilCheck x =>
  obtain⟨y,hx,rfl⟩:=map_some hc
  exact zx (Om ho ht hx he) hR
 case pick x y z =>
  split at hc
  ·rename_i h1 h2 h3
   cases hc
   exact zx (aac ho ht h1 h2 h3 he) hR
  ·simp at hc
 case alloc el =>
  obtain⟨z,hz,rfl⟩:=map_some hc
  exact aad ho hz hR he
 case box ty x =>
  obtain⟨y,hx,rfl⟩:=map_some hc
  exact acz ho hx ht hR he
 case build ty parts =>
  split at hc
  ·rename_i fs z h1 h2
   split at hc
   ·rename_i h3
    obtain⟨ps,h4,rfl⟩:=map_some hc
    exact zx (zej ho h1 h2 h3 h4 ht he) hR
   ·simp at hc
  ·rename_i h1 h2
   split at hc
   ·rename_i h3
    obtain⟨ps,h4,rfl⟩:=map_some hc
    exact zx (uS ho h1 h2 h3 h4 ht he) hR
   ·simp at hc
  ·simp at hc
 case buildSlice ty len parts =>
  split at hc
  ·rename_i el h1
   split at hc
   ·rename_i n z h2 h3
    split at hc
    ·rename_i h4
     obtain⟨ps,h5,rfl⟩:=map_some hc
     cases hol:O3 z.cells
     ·simp only[hol,l7,if_false]at he
      obtain⟨_,rfl,h⟩:=Ow (ah:=ah) (d:=d) ho h1 h3 h2 h4.1 h4.2.1 h4.2.2 h5 ht hR he
      exact h
     ·simp only[hol,if_true]at he
      exact On ho h1 h3 h2 h4.1 h4.2.1 h4.2.2 h5 ht hR he
    ·simp at hc
   ·simp at hc
  ·simp at hc
 case load ty x =>
  split at hc
  ·rename_i h1 h2
   cases hc
   exact ZA (aag ho h1 h2 ht hR hV he) hR
  ·simp at hc
 case store ty x y =>
  split at hc
  ·rename_i h1 h2 h3
   split at hc
   ·simp at hc
   ·rename_i h4
    cases hc
    exact Tl ho h1 h4 h2 h3 ht hR he
  ·simp at hc
 case binOp op ty x y ty' =>
  split at hc
  ·rename_i h1 h2
   exact zx (Rk ho hc ht h1 h2 he) hR
  ·simp at hc
 case unOp op ty x =>
  obtain⟨y,hx,rfl⟩:=map_some hc
  exact zx (agf ho ht hx he) hR
 case convert s d x =>
  split at hc
  ·rename_i h1 h2 h3
   cases hc
   exact zx (aai ho h1 h2 ht h3 he) hR
  ·rename_i h1 h2 h3
   cases hc
   exact zx (aah ho h1 h2 ht h3 he) hR
  ·simp at hc
 case makeFunc f xs ys =>
  cases f<;>simp only[Rj]at hc
  all_goals first
   |(simp at hc;done)
   |skip
  split at hc
  ·rename_i h1 h2
   cases hc
   cases he
   exact(aaf ho ht h1 h2).step hR
  ·simp at hc
 case makeMap ty n =>
  cases n<;>simp only[Rj]at hc
  ·cases hc
   exact Tn ho hR he
  ·simp at hc
 case makeSlice ty x y =>
  split at hc
  ·rename_i el x' y' h1 h2 h3
   split at hc
   ·rename_i n z h4 h5
    split at hc
    ·rename_i hh
     simp only[gJ,n9,jk]at hh
     cases hc
     exact acq ho h1 h4 h5 hh.1.1 hh.1.2 hh.2 h2 h3 ht hR he
    ·simp at hc
   ·simp at hc
  ·simp at hc
 case slice ty x lo hi mx =>
  split at hc
  ·rename_i h1 h2 h3 h4 h5
   split at hc
   ·simp at hc
   ·rename_i h6
    obtain⟨n,hn,rfl⟩:=map_some hc
    exact zx (Tm ho h1 hn ht h2 h3 h4 h5 h6 he) hR
  ·rename_i h1 h2 h3 h4 h5
   cases hc
   cases mx with
   |none=>exact zx (Ol ho h1 ht h2 h3 h4 he) hR
   |some m=>simp[lU]at h5
  ·simp at hc
 case fieldAddr s x f =>
  split at hc
  ·rename_i fs y h1 h2
   split at hc
   ·rename_i fd h3
    split at hc
    ·rename_i n h4
     split at hc
     ·simp at hc
     ·rename_i h5
      cases hc
      exact zx (Tr ho h1 h3 h4 h5 ht h2 he) hR
    ·simp at hc
   ·simp at hc
  ·simp at hc
 case field s x f =>
  split at hc
  ·rename_i fs y h1 h2
   split at hc
   ·rename_i fd h3
    obtain⟨⟨agg,n⟩,h4,rfl⟩:=map_some hc
    exact zx (Tq ho h1 h3 h4 ht h2 he) hR
   ·simp at hc
  ·simp at hc
 case indexAddr ty x ix =>
  split at hc
  ·rename_i h1 h2 h3
   obtain⟨n,hn,rfl⟩:=map_some hc
   exact zx (Tp ho h1 hn ht h2 h3 he) hR
  ·rename_i h1 h2 h3
   obtain⟨n,hn,rfl⟩:=map_some hc
   exact zx (Ov ho h1 hn ht h2 h3 he) hR
  ·simp at hc
 case index ty x ix =>
  split at hc
  ·rename_i h1 h2 h3
   split at hc
   ·rename_i h4 h5
    split at hc
    ·rename_i h6
     subst h6
     cases hc
     exact zx (To ho h1 h4 h5 ht h2 h3 he) hR
    ·simp at hc
   ·simp at hc
  ·rename_i h1 h2 h3
   cases hc
   exact zx (Ou ho h1 ht h2 h3 he) hR
  ·simp at hc
 case lookup ty x ix ok =>
  split at hc
  ·rename_i h1 h2 h3
   split at hc
   ·rename_i h4 h5
    obtain⟨z,hz,rfl⟩:=map_some hc
    exact ZA (Oq ho h1 h4 h5 hz h2 h3 ht hR hV he) hR
   ·simp at hc
  ·simp at hc
 case mapUpdate ty m k w =>
  split at hc
  ·rename_i h1 h2 h3 h4
   split at hc
   ·rename_i h5 h6
    cases hc
    exact Oo ho h1 h5 h6 h2 h3 h4 ht hR he
   ·simp at hc
  ·simp at hc
 case extract x i =>
  obtain⟨y,hx,rfl⟩:=map_some hc
  exact zx (K0 ho ht hx he) hR
 all_goals (cases hc;simp[cH]at he)
end
def Seen(aK aa:aU):Prop:=aK.length=aa.length/\∀(i:Nat)(o:aO),aK[i]?=some o->aa[i]?=some o∨o=.gone
structure nJ(B:Nat)(W0:World)(β:Pl)(W:World):Prop where
 low:∀ l i k s,β l i=some (k,s)->B<=k
 size:B<=W.heap.size
 below:Below B W0 W
theorem nJ.fr{B d:Nat}{W0 W W':World}{β β':Pl}(h:nJ B W0 β W)(f:Fr d β W β' W'):nJ B W0 β' W' where
 low l i k s hb:=by
  rcases f.fresh l i k s hb with hb|⟨_,⟨i',s',hb⟩|hk⟩
  ·exact h.low _ _ _ _ hb
  ·exact h.low _ _ _ _ hb
  ·exact lW h.size hk
 size:=lW h.size f.size
 below:=h.below.trans ⟨f.os,f.tape,f.output,f.size,fun k hk=>f.block k (XE hk h.size) fun i s hb=>absurd (h.low _ _ _ _ hb) Ω⟩
def mL(P:Program)(B:Nat)(W0:World)(C:Call):Prop:=∀(d:Nat)(ah:bR)(aK aa:aU)(id:Nat)(f:FuncId)(args:List IV)(e:eV)(v:IV)(aX:aU)(args':List Value)(β:Pl)(W:World),
 C d ah aK aa id f args=some (e,v,aX)->nJ B W0 β W->Seen aK aa->RS β (look d ah aa) W->dV β W args args' ->
  (∃ fn, P.funcs[f]? = some fn ∧ fn.name ≠ "runtime.NumGoroutine" ∧ fn.body.isSome = true) ∧ Calls P f args'.toArray W fun x W' => ∃ y β', x = .returned y ∧ VR β' W' v y ∧ RS β' (look d ah aX) W' ∧ Fr d β W β' W' ∧ (e = .r → Below W.heap.size W W')
section
variable {P:Program} {d:Nat} {ah:bR} {β:Pl} {W:World} {a:Act} {o:Oper} {t:List IV} {aa aX aK:aU} {e:eV} {v:IV} {n0:Nat}
theorem NI{ops:Array Oper}{g:Option (Nat×Bool)}(hg:qH ops o.guard=some g)(ht:TR β W t a.tmps):Region.wanted o (yielded ops a.tmps)=dB t g:=by
 unfold Region.wanted;cases hog:o.guard with
 |none=>rw[hog]at hg;simp only[qH,fZ]at hg;subst hg;rfl
 |some jb =>
  obtain⟨j,b⟩:=jb
  rw[hog]at hg
  simp only[qH]at hg
  split at hg
  ·rename_i k hk
   cases hg
   show(yielded ops a.tmps j==some b)=_
   unfold yielded dB
   rw[hk]
   simp only[jG]
   have h1:=ht.1
   cases hx:t[k]? with
   |none =>
    have:a.tmps[k]?=none:=by rw[List.getElem?_eq_none_iff]at hx;rw[Array.getElem?_eq_none_iff];simp at h1;omega
    rw[this]
    rfl
   |some x =>
    obtain⟨y,hy,hv⟩:=dV.get ht hx
    rw[pP]at hy
    rw[hy]
    cases hv<;>simp
  ·simp at hg
theorem DM{vis:List Nat}{i:Nat}{x:aO}(h:(b7 vis n0 aa)[i]?=some x):aa[i]?=some x∨x=.gone:=by
 unfold b7 at h;rw[zi,XM]at h;obtain⟨y,hy,rfl⟩:=map_some h;split
 ·exact .inl hy
 ·exact .inr rfl
theorem P8{vis:List Nat}:Hy (b7 vis n0 aa) aa:=fun i x h hl=>by
 rcases DM h with h|rfl
 ·exact h
 ·simp[aO.live]at hl
theorem XY{vis:List Nat}{drawn:Bool}:Hy (if drawn then b7 vis n0 aa else aa) aa:=by
 cases drawn
 ·exact Hy.refl _
 ·exact P8
theorem Tk{vis:List Nat}{drawn:Bool}:Seen (if drawn then b7 vis n0 aa else aa) aa:=by
 cases drawn
 ·exact⟨rfl,fun i o h=>.inl h⟩
 ·exact⟨by simp[b7,zi],fun i o h=>DM h⟩
theorem Ri{c:Go.Call}{f:Operand}{qQ:kA}{slot:Nat}(ho:o.op=.call c)(o9:c.callee=.value f)(hc:Rj P o.op slot=some qQ):∃ y xs,bI f=some y/\allM bI c.args.toList=some xs/\qQ=.call y xs slot:=by
 rw[ho]at hc;simp only[Rj]at hc;unfold JS at hc;rw[o9]at hc;split at hc
 ·rename_i f' xs h1 h2;cases h1;obtain⟨y,hy,rfl⟩:=map_some hc;exact⟨y,xs,hy,h2,rfl⟩
 all_goals first
  |(rename_i h1 _;cases h1)
  |simp at hc
theorem We{B:Nat}{W0:World}{C:Call}(hC:mL P B W0 C)(hb:nJ B W0 β W){ops:Array Oper}{i slot:Nat}{r:dc}{st st1:St}{drawn:Bool}{K:Act->World->Prop}{Q:Exit->Act->World->Prop}(hi:ops[i]?=some o)(hr:r.dst=o.dst)(hop:Rj P o.op slot=some r.op)(hg:qH ops o.guard=some r.guard)
  (ht:TR β W st.t a.tmps) (hR:RS β (look d ah st.aa) W) (hs:iM C d ah drawn n0 r st=some (e,st1))
  (hK:∀(β':Pl)(W':World)(a':Act),TR β' W' st1.t a'.tmps->RS β' (look d ah st1.aa) W'->Fr d β W β' W'->a'.defers=a.defers->K a' W'):wpOp P ops Q i K a W:=by
 unfold wpOp
 rw[hi]
 simp only[NI hg ht]
 have hput:∀(dst:Option Nat)(x:Value),(a.put dst x).defers=a.defers:=fun dst x=>by cases dst<;>rfl
 unfold iM at hs
 split at hs
 ·rename_i hw
  rw[bt hw]
  refine .inl ?_
  split at hs
  ·rename_i e' v bO he
   cases hs
   by_cases hcv:∃ c f,o.op=.call c/\c.callee=.value f
   ·obtain⟨c,f,ho,o9⟩:=hcv
    obtain⟨y,xs,hy,hxs,ahc⟩:=Ri ho o9 hop
    rw[ahc]at he
    simp only[cH,dY]at he
    split at he
    ·rename_i g first cap hq
     have hvf:=ht.eval hy
     rw[hq]at hvf
     obtain⟨first',cap',h1,h2,hfe⟩:=fnI hvf
     have h3:=zei ht hxs
     obtain⟨⟨fn,hfn,hnm,hbd⟩,lY⟩:=hC _ _ _ _ _ _ _ _ _ _ (first'.toList++(c.args.toList.map a.eval)++cap'.toList) β W he hb Tk hR ((h1.append h3).append h2)
     have hbn:fn.body.isNone=false:=by cases hb:fn.body<;>simp[hb]at hbd ⊢
     have hex:(execOp a.eval o).run P W=.ok (.enter g (first'.toList++(c.args.toList.map a.eval)++cap'.toList).toArray) W:=by
      simp only[execOp,ho,resolve,o9,Deferred.ofValue,hfe,iB,jt,iC,invoke,callFunc];have ad6:fn.body≠none:=by intro h;rw[h]at hbd;simp at hbd
      simp[hfn,hnm,ad6]
     unfold Oper.wp
     rw[hex,Oper.upon_enter]
     refine lY.mono fun x W' hx=>?_
     obtain⟨y',β',rfl,g1,g2,g3,_⟩:=hx
     refine hK β' W' _ ?_ g2 g3 (hput _ _)
     rw[←hr]
     exact(ht.ext g3.ext).put g1 _
    ·simp at he
   ·obtain⟨nx,β',W',h1,h2,h3,h4⟩:=aax (ah:=ah) hop (fun c f y xs uI hh2 _ _ _=>absurd ⟨c,f,uI,hh2⟩ hcv) ht hR (XY (drawn:=drawn)) he
    unfold Oper.wp
    rw[h1]
    cases nx with
    |value x =>
     rw[Oper.upon_value]
     refine hK β' W' _ ?_ h3 h4 (hput _ _)
     rw[←hr]
     exact(ht.ext h4.ext).put h2 _
    |skip =>
     rw[Oper.upon_skip]
     refine hK β' W' _ ?_ h3 h4 (hput _ _)
     rw[←hr,show v=.tuple []from h2]
     exact(ht.ext h4.ext).put zax _
    |_=>exact absurd h2 id
  ·simp at hs
 ·rename_i hw
  cases hs
  rw[bC hw]
  refine hK β W _ ?_ hR (Fr.refl _ _ _) (hput _ _)
  rw[←hr]
  exact ht.put zax _
end
section
variable {P:Program} {d:Nat} {ah:bR} {t t':List IV} {aa aX aK:aU} {e:eV} {v:IV} {n0:Nat}
def fD(t t':List IV)(l:List Nat):Prop:=∀ i∈l,bH (.tuple []) t i=bH (.tuple []) t' i
theorem fD.left{l l':List Nat}(h:fD t t' (l++l')):fD t t' l:=fun i hi=>h i (SA _ hi)
theorem fD.right{l l':List Nat}(h:fD t t' (l++l')):fD t t' l':=fun i hi=>h i (XI _ hi)
theorem fD.jX{x:bG}(h:fD t t' x.tmps):ρ t x=ρ t' x:=by
 cases x with
 |tmp i=>exact h i (by simp[bG.tmps])
 |const v=>rfl
theorem fD.ac8{xs:List bG}(h:fD t t' (xs.flatMap bG.tmps)):xs.map (ρ t)=xs.map (ρ t') :=
 znt fun x hx=>fD.jX fun i hi=>h i (qS.2 ⟨x,hx,hi⟩)
theorem fD.fill:∀{ps:List (Nat×Nat×bG)}{c:List IV},fD t t' (ps.flatMap (·.2.2.tmps))->dh t c ps=dh t' c ps
 |[],c,_=>rfl
 |(off,n,x)::rest,c,h=>by
  have h1:fD t t' (x.tmps++rest.flatMap (·.2.2.tmps)):=by simpa using h
  simp only[dh];rw[h1.left.jX];split
  ·exact fD.fill h1.right
  ·rfl
theorem fD.opt{x:Option bG}{n:Nat}(h:fD t t' (jI x)):lC t n x=lC t' n x:=by
 cases x with
 |none=>rfl
 |some x=>exact ep mC (fD.jX (x:=x) h)
theorem fD.sl{sz:Nat}{u:IV}{lo hi mx:Option bG}(h1:fD t t' (jI lo))(h2:fD t t' (jI hi))(h3:fD t t' (jI mx)):eS sz t u lo hi mx=eS sz t' u lo hi mx:=by unfold eS;simp only[h1.opt,h2.opt,h3.opt]
theorem fD.slS{u:IV}{lo hi:Option bG}(h1:fD t t' (jI lo))(h2:fD t t' (jI hi)):lK t u lo hi=lK t' u lo hi:=by unfold lK;simp only[h1.opt,h2.opt]
theorem fD.ev{C:Call}{qQ:kA}(h:fD t t' qQ.tmps):cH C d ah n0 aK aa t qQ=cH C d ah n0 aK aa t' qQ:=by
 cases qQ<;>simp only[kA.tmps]at h<;>simp only[cH,b8,dK,Bm,ff,cA,gW,dL,cL,cO,eP,fI,fH,pF,dM,tj,cN,cM,nH,kO,dy,lS,fV,gF,bg,dY,iX,e_len,iW,rE,wY,wX,ud];case mov=>rw[h.jX]
 case nilchk=>rw[h.jX]
 case pick=>rw[h.left.left.jX,h.left.right.jX,h.right.jX]
 case box=>rw[h.jX]
 case build=>rw[h.fill]
 case bslice=>rw[h.fill]
 case mslice=>rw[h.fill]
 case load=>rw[h.jX]
 case store=>rw[h.left.jX,h.right.jX]
 case bin=>rw[h.left.jX,h.right.jX]
 case eqagg=>rw[h.left.jX,h.right.jX]
 case eqb=>rw[h.left.jX,h.right.jX]
 case eqp=>rw[h.left.jX,h.right.jX]
 case eqs=>rw[h.left.jX,h.right.jX]
 case un=>rw[h.jX]
 case conv=>rw[h.jX]
 case cstr=>rw[h.jX]
 case mkfn=>rw[h.left.ac8,h.right.ac8]
 case slice=>rw[h.left.left.left.jX,h.left.left.right.sl h.left.right h.right]
 case sliceS=>rw[h.left.left.jX,h.left.right.slS h.right]
 case faddr=>rw[h.jX]
 case field=>rw[h.jX]
 case iaddr=>rw[h.left.jX,h.right.jX]
 case iaddrA=>rw[h.left.jX,h.right.jX]
 case index=>rw[h.left.jX,h.right.jX]
 case indexS=>rw[h.left.jX,h.right.jX]
 case lookup=>rw[h.left.jX,h.right.jX]
 case mapupd=>rw[h.left.left.jX,h.left.right.jX,h.right.jX]
 case extract=>rw[h.jX]
 case call=>rw[h.left.jX,h.right.ac8]
 case append=>rw[h.left.jX,h.right.jX]
 case len=>rw[h.jX]
 case mx=>rw[h.left.jX,h.right.jX]
 case cap=>rw[h.jX]
 case clr=>rw[h.jX]
 case cpy=>rw[h.left.jX,h.right.jX]
 case mks=>rw[h.left.jX,h.right.jX]
end
end
end Go.Proofs.YtdacpmgnhkmnkaaGreatDoor
