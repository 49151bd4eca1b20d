/-
  A part of the proof: the small machine, its simulation and its walks.
-/
import Derived.Test.YtgmifgfbnnbgjaaGreatDoorZg
import Derived.Test.YtgmifgfbnnbgjaaGreatDoorZh
import Derived.Test.YtgmifgfbnnbgjaaGreatDoorZi
import Derived.Test.YtgmifgfbnnbgjaaGreatDoorZj
import Derived.Test.YtgmifgfbnnbgjaaGreatDoorZk
set_option linter.unusedVariables false
set_option linter.unusedSimpArgs false
set_option maxRecDepth 1000000
set_option maxHeartbeats 3200000
section
namespace Go.Proofs.YtgmifgfbnnbgjaaGreatDoor
section
def insI (n:Int):List Int->List Int
 | []=>[n]
 | x::l=>if x<n then x::insI n l else if x=n then x::l else n::x::l
def nrm (l:List Int):List Int:=l.foldl (fun o n=>insI n o) []
theorem mem_ins {n y:Int}:∀ {l:List Int},y∈insI n l↔y=n∨y∈l
 | []=>by simp [insI]
 | x::l=>by
  unfold insI
  split
  ·rw [za4,mem_ins,za4]
   constructor
   ·rintro (h | h | h)
    ·exact .inr (.inl h)
    ·exact .inl h
    ·exact .inr (.inr h)
   ·rintro (h | h | h)
    ·exact .inr (.inl h)
    ·exact .inl h
    ·exact .inr (.inr h)
  ·split
   ·rename_i h
    subst h
    rw [za4]
    constructor
    ·exact fun h=>.inr h
    ·rintro (h | h)
     ·exact .inl h
     ·exact h
   ·rw [za4]
theorem asc_ins {n:Int}:∀ {l:List Int},l.Pairwise (·<·)->(insI n l).Pairwise (·<·)
 | [],_=>by simp [insI]
 | x::l,h=>by
  have h2:=zbx.1 h
  unfold insI
  split
  ·rw [zbx]
   refine ⟨fun y hy=>?_,asc_ins h2.2⟩
   rcases mem_ins.1 hy with rfl | hy
   ·assumption
   ·exact h2.1 y hy
  ·split
   ·exact h
   ·rw [zbx]
    refine ⟨fun y hy=>?_,h⟩
    rcases za4.1 hy with rfl | hy
    ·omega
    ·have:=h2.1 y hy
     omega
theorem nrm_fold {l:List Int}:∀ {o:List Int},o.Pairwise (·<·)->(l.foldl (fun o n=>insI n o) o).Pairwise (·<·)/\∀ y,y∈l.foldl (fun o n=>insI n o) o↔y∈o∨y∈l:=by
 induction l with
 | nil=>exact fun h=>⟨h,fun y=>by simp⟩
 | cons x l ih =>
  intro o h
  obtain ⟨h1,h2⟩:=ih (asc_ins (n:=x) h)
  refine ⟨h1,fun y=>?_⟩
  rw [List.foldl_cons,h2,mem_ins,za4]
  constructor
  ·rintro ((h | h) | h)
   ·exact .inr (.inl h)
   ·exact .inl h
   ·exact .inr (.inr h)
  ·rintro (h | h | h)
   ·exact .inl (.inr h)
   ·exact .inl (.inl h)
   ·exact .inr h
theorem Ya (l:List Int):(nrm l).Pairwise (·<·):=(nrm_fold .nil).1
theorem yU {l:List Int} {y:Int}:y∈nrm l↔y∈l:=by
 have:=(nrm_fold (l:=l) .nil).2 y
 simpa [nrm] using this
theorem asc_ext:∀ {l l':List Int},l.Pairwise (·<·)->l'.Pairwise (·<·)->(∀ y,y∈l↔y∈l')->l=l'
 | [],[],_,_,_=>rfl
 | [],y::l',_,_,h=>by have:=(h y).2 (zbn ..); simp at this
 | x::l,[],_,_,h=>by have:=(h x).1 (zbn ..); simp at this
 | x::l,y::l',h1,h2,h=>by
  have g1:=zbx.1 h1
  have g2:=zbx.1 h2
  have hxy:x=y:=by
   rcases za4.1 ((h x).1 (zbn ..)) with e | e
   ·exact e
   ·rcases za4.1 ((h y).2 (zbn ..)) with e2 | e2
    ·exact e2.symm
    ·have a1:=g1.1 y e2
     have a2:=g2.1 x e
     omega
  subst hxy
  congr 1
  refine asc_ext g1.2 g2.2 fun z=>?_
  constructor
  ·intro hz
   rcases za4.1 ((h z).1 (List.mem_cons_of_mem _ hz)) with rfl | e
   ·have:=g1.1 z hz
    omega
   ·exact e
  ·intro hz
   rcases za4.1 ((h z).2 (List.mem_cons_of_mem _ hz)) with rfl | e
   ·have:=g2.1 z hz
    omega
   ·exact e
def cmpct:List Int->List Int
 | x::y::l=>if x=y then cmpct (y::l) else x::cmpct (y::l)
 | l=>l
theorem Zt {y:Int}:∀ {l:List Int},y∈cmpct l↔y∈l
 | []=>by simp [cmpct]
 | [a]=>by simp [cmpct]
 | a::b::l=>by
  unfold cmpct
  split
  ·rename_i h
   subst h
   rw [Zt (l:=a::l),za4,za4,za4]
   constructor
   ·exact fun h=>.inr h
   ·rintro (h | h)
    ·exact .inl h
    ·exact h
  ·rw [za4,Zt (l:=b::l),za4 (a:=y) (b:=a)]
theorem Yo:∀ {l:List Int},l.Pairwise (·<=·)->(cmpct l).Pairwise (·<·)
 | [],_=>by simp [cmpct]
 | [a],_=>by simp [cmpct]
 | a::b::l,h=>by
  have g:=zbx.1 h
  unfold cmpct
  split
  ·exact Yo g.2
  ·rw [zbx]
   refine ⟨fun z hz=>?_,Yo g.2⟩
   have hz:=Zt.1 hz
   have g3:=g.1 b (zbn ..)
   have g2:=zbx.1 g.2
   rcases za4.1 hz with rfl | hz
   ·omega
   ·have:=g2.1 z hz
    omega
theorem cmpct_nrm {l l':List Int} (hp:l'.Perm l) (hs:l'.Pairwise (·<=·)):cmpct l'=nrm l:=asc_ext (Yo hs) (Ya l) fun y=>by rw [Zt,yU,hp.mem_iff]
end
end Go.Proofs.YtgmifgfbnnbgjaaGreatDoor
end
section
namespace Go.Proofs.YtgmifgfbnnbgjaaGreatDoor
open Go Go.RowKit
section
section
variable {F:FuncId->Option IFn} {S:ySM}
theorem own_ofN {f:FuncId} {i:IFn} {args:List IV} {c:List IV} {len cap sz k:Nat} {tight:Bool} (hS:S f args=none) (hi:F f=some i) (hm:i.mode=1) (N:Nat) (hfz:∀ x∈c,Fz k x) (hk:k<=N) (hc:c.length=cap*sz)
  (h:∀ m,N<=m->∀ d out,Ex (callN F S m) d out m i.body (FinO d out i.res c len cap sz tight) ⟨args++List.replicate (i.ntmps - args.length) (.tuple []),[]⟩) :
  ∀ m,N+1<=m->∀ d out ownV own id,own[id]?=some .free->callN F S m d out ownV own id f args=some (.a,.slM d id 0 len cap sz tight,own.set id (.cells c)):=by
 intro m hN d out ownV own id hf
 obtain ⟨m,rfl⟩:∃ q,m=q+1:=⟨m - 1,by omega⟩
 obtain ⟨o,st,h1,h2,j,h3,h4⟩:=h m (by omega) (d+1) (fun l=>if l=d then ownV else out l)
 have hm2:¬ i.mode=2:=by omega
 have hm3:¬ i.mode=3:=by omega
 have hseg:seg c 0 (cap*sz)=some c:=by
  unfold seg
  rw [if_pos (by omega),zf,List.drop_zero,za0 (by omega)]
 have hmap:c.mapM (freeze m (d+1) (st.own.set j .gone))=some c:=zV fun x hx=>hfz x hx m (by omega) _ _
 simp only [callN,hS,hi,if_neg hm2,if_neg hm3,zf,h1]
 rcases h2 with rfl | rfl <;> simp only [ended,h3,za7,leave,hm,if_true,handed,h4,hseg,hmap,mkAt,hf,zf]
end
section
variable {S:ySM}
theorem grow_int (hS:NoS S) (n:Nat) (h0:0<n) (hn:n<=1073741824):∀ m,3<=m->∀ d out ownV own id,own[id]?=some .free->callN Ftab S m d out ownV own id 182 [.nilsl,iv n]=some (.a,.slM d id 0 0 n 1 false,own.set id (.cells (rep [.int .i64 0] n))):=by
 refine own_ofN (i:=i182) (hS _ _ (by decide) (by decide) (by decide) (by decide)) rfl rfl 2 (k:=1) (rep_fz fun x hx=>?_) (by omega) ?_ fun m hm d out=>?_
 ·simp only [za4,zbp,or_false] at hx
  rcases hx with rfl
  exact yE
 ·rw [yu]
  rfl
 ·have d1:decide ((n:Int)<0)=false:=by simp
  have d2:decide ((n:Int) > 0)=true:=by simp; omega
  have hb:n<=bound:=by unfold bound; omega
  have hb2:0+n<=bound:=by unfold bound; omega
  have hne:n≠0:=by omega
  simp only [i182,W0,e_nilchk,e_pick,e_box,e_bslice,e_load,e_store,e_eqb,e_eqp,e_eqs,e_eqagg,e_conv,e_faddr,e_field,e_extract,e_call,e_mx,mkAt,List.replicate,look,mkv,binI,intBin,isShift,unI,fillI,cellV,Nat.reduceAdd,Nat.reduceMul,Nat.reduceLeDiff,reduceCtorEq,Nat.reduceEqDiff,d1,ev_cap,e_cap,wrap_lit0,wrap_sub0 hn,d2,yP,sliceI,optI,natI_0,zM,zp,app_src0,if_pos hb,zH,app_nil hne hb,Nat.zero_le,Nat.zero_mul,Nat.sub_zero,Nat.sub_self,Option.isSome_none,Bool.or_self,FinO_ret]
  exact ⟨0,rfl,rfl⟩
theorem concat_int (hS:NoS S) (xs:List Int) (h0:0<xs.length) (hn:xs.length<=1000000) {l b cap d:Nat} {tg tt:Bool} {out:yLM} {ownV own:yLO} {id:Nat} (hl:l<=d) (hb:(if l=d then ownV else out l)[b]?=some (.cells (xs.flatMap intc))) (hid:own[id]?=some .free) :
  ∀ m,8<=m->callN Ftab S m d out ownV own id 150 [.slC [.slM l b 0 xs.length cap 1 tg] 1 1 tt]=some (.a,.slM d id 0 xs.length xs.length 1 false,own.set id (.cells (xs.flatMap intc))):=by
 intro m hm
 obtain ⟨m,rfl⟩:∃ q,m=q+1:=⟨m - 1,by omega⟩
 have hg:=fun d out ownV=>grow_int hS xs.length h0 (by omega) m (by omega) d out ownV [.free] 0 rfl
 have hR:(rep [.int .i64 0] xs.length).length=xs.length:=by rw [yu]; simp
 have hfz:∀ (o:yLO),(xs.flatMap intc).mapM (freeze m (d+1) o)=some (xs.flatMap intc):=fun o=>by
  obtain ⟨q,rfl⟩:∃ q,m=q+1:=⟨m - 1,by omega⟩
  exact Z8 xs
 have hsc:(xs.flatMap intc).all IV.scalar=true:=zbu.2 fun x hx=>by
  obtain ⟨a,_,h⟩:=List.mem_flatMap.1 hx
  simp only [intc,za4,zbp,or_false] at h
  rcases h with rfl
  rfl
 have hfl:(xs.flatMap intc).length=xs.length:=by rw [zn zi]; omega
 generalize hRR:rep [.int .i64 0] xs.length=R at hg hR
 have hw:wrN R 0 (xs.flatMap intc)=xs.flatMap intc:=by
  have:=zab (B:=xs.flatMap intc) (A:=[]) (R:=R) (k:=0) rfl (by omega)
  rw [zbk,zbk,List.drop_eq_nil_of_le (by omega),zbv] at this
  exact this
 have hseg:seg (xs.flatMap intc) 0 (xs.length*1)=some (xs.flatMap intc):=by
  unfold seg
  rw [zf,hfl,if_pos (by omega),List.drop_zero,za0 (by omega)]
 have main:∃ r,callN Ftab S (m+1) d out ownV own id 150 [.slC [.slM l b 0 xs.length cap 1 tg] 1 1 tt]=some r/\r=(.a,.slM d id 0 xs.length xs.length 1 false,own.set id (.cells (xs.flatMap intc))):=by
  refine zT (i:=i150) (hS _ _ (by decide) (by decide) (by decide) (by decide)) rfl (by decide) (zam rfl) fun t hfr=>?_
  simp only [slotsOf,za,zb,zap,Nat.reduceAdd,i150] at hfr
  have hl1:¬ l=d+1:=by omega
  have hl2:l<d+1:=by omega
  have hb':((fun l=>if l=d then ownV else out l:yLM) l)[b]?=some (.cells (xs.flatMap intc)):=hb
  clear hb
  generalize (fun l=>if l=d then ownV else out l:yLM)=out2 at hb' ⊢
  have a1:=fun n0 slot=>app_in0 (d:=d+1) (n0:=n0) (sz:=1) (len:=0) (cap:=xs.length) (n:=xs.length) (slot:=slot) (out:=out2) (c:=R) (new:=xs.flatMap intc) (J:=[.free]) (tight:=false) (by omega) (by omega) (by omega) (by omega) hsc
  have hlook:∀ own,look (d+1) out2 own l b=some (.cells (xs.flatMap intc)):=fun own=>by
   unfold look
   rw [if_neg hl1,if_pos hl2]
   exact hb'
  have lt01:decide ((0:Int)<((1:Nat):Int))=true:=by decide
  have lt11:decide ((1:Int)<((1:Nat):Int))=false:=by decide
  have w1:wrapI .i64 1=1:=Z5 rfl (by omega) (by omega)
  have l01:decide ((0:Int)<1)=true:=by decide
  have l11:decide ((1:Int)<1)=false:=by decide
  have wz:wrapI .i64 (0+((xs.length:Nat):Int))=((xs.length:Nat):Int):=zk (by omega) (by omega)
  obtain ⟨k,rfl⟩:∃ k,m=k+1+1+1+1:=⟨m - 4,by omega⟩
  simp only [zg] at hg
  simp only [zap,Nat.add_zero,Nat.zero_mul,hw] at a1
  simp only [i150,V0,sevalprocAttr,hfr,Ex_loop,Lp_succ,lt01,lt11,w1,l01,l11,iaddr0 (show 0<1 by omega),wrap_0_1,wz,nlt,hg,zp,zy,zH,cellsI,hl1,hl2,hb',hseg,a1,Nat.zero_mul]
  refine ⟨.inr trivial,_,_,rfl,?_,rfl⟩
  simp only [leave,if_true,handed,za8,hseg,hfz,mkAt,hid,zf]
 obtain ⟨r,h1,rfl⟩:=main
 exact h1
end
end
section
theorem b_neq (x y:Int):(x != y)=!(x==y):=rfl
theorem ZJ:∀ (l:List Int) (y x:Int),cmpct (l++[y,x])=if y=x then cmpct (l++[y]) else cmpct (l++[y])++[x]
 | [],y,x=>by
  simp only [zbk,cmpct]
  split <;> simp_all
 | [a],y,x=>by
  have ih:=ZJ [] y x
  simp only [zbk] at ih
  simp only [zbd,zbk]
  rw [cmpct]
  rw [ih]
  simp only [cmpct]
  split <;> split <;> simp
 | a::b::l,y,x=>by
  have ih:=ZJ (b::l) y x
  simp only [zbd] at ih ⊢
  rw [cmpct,ih,cmpct]
  split <;> split <;> simp
theorem zac {xs:List Int} {j:Nat} {y x:Int} (hj:0<j) (hy:xs[j - 1]?=some y) (hx:xs[j]?=some x):cmpct (xs.take (j+1))=if y=x then cmpct (xs.take j) else cmpct (xs.take j)++[x]:=by
 have h1:xs.take (j+1)=xs.take (j - 1)++[y,x]:=by
  rw [List.take_add_one,hx,show j=(j - 1)+1 by omega,List.take_add_one,hy]
  simp
 have h2:xs.take j=xs.take (j - 1)++[y]:=by
  conv=>lhs; rw [show j=(j - 1)+1 by omega,List.take_add_one,hy]
  simp
 rw [h1,h2,ZJ]
noncomputable def clrV (d:Nat) (own:yLO) (z:List IV) (sz:Nat) (v:IV):Res :=
 match v with
  | .nilsl=>some (.x,.tuple [],own)
  | .slM l i off len _ sz0 _=>if len=0 then some (.x,.tuple [],own) else if sz0=sz then fillAt d own l i off (rep z len) (.tuple []) else none
  | _=>none
theorem ev_clrV {C:Call} {d:Nat} {out:yLM} {n0:Nat} {own ownV:yLO} {t:List IV} (z:List IV) (sz:Nat) (x:Opd):evOp C d out n0 ownV own t (.clr z sz x)=clrV d own z sz (ρ t x):=zax rfl rfl
theorem rep_scal:∀ n,(rep [IV.int .i64 0] n).all IV.scalar=true
 | 0=>rfl
 | n+1=>by
  simp only [rep,zbd,zbk,List.all_cons,rep_scal n,Bool.and_true]
  rfl
theorem rep_flat:∀ n,rep [IV.int .i64 0] n=(List.replicate n (0:Int)).flatMap intc
 | 0=>rfl
 | n+1=>by
  rw [List.replicate_succ,zbg,← rep_flat n]
  rfl
theorem clr_bk {own0 R:yLO} {b d n q cap:Nat} {ys:List Int} {tg:Bool} (hb:b<own0.length) (hl:ys.length=n) (hq:q<n):clrV d (Bk own0 b (ys.flatMap intc)++R) [.int .i64 0] 1 (.slM d b q (n - q) cap 1 tg)=some (.x,.tuple [],Bk own0 b ((ys.take q++List.replicate (n - q) 0).flatMap intc)++R):=by
 have h0:¬ n - q=0:=by omega
 have hfl:(ys.flatMap intc).length=n:=by rw [zn zi]; omega
 have hw:wrN (ys.flatMap intc) q (rep [.int .i64 0] (n - q))=(ys.take q++List.replicate (n - q) 0).flatMap intc:=by
  have h1:ys.flatMap intc=(ys.take q).flatMap intc++(ys.drop q).flatMap intc:=by rw [← List.flatMap_append,List.take_append_drop]
  have h2:((ys.take q).flatMap intc).length=q:=by rw [zn zi,zbl]; omega
  rw [h1,zab h2.symm (by rw [yu,zn zi,List.length_drop]; simp; omega),rep_flat,List.drop_eq_nil_of_le (by rw [zn zi,zn zi,List.length_drop,List.length_replicate]; omega),zbv,← List.flatMap_append]
 simp only [clrV,if_neg h0,if_true,fillAt,bk_get hb]
 rw [if_pos ⟨trivial,by rw [yu,hfl]; simp; omega,rep_scal _⟩]
 simp only [zf,bk_set hb,hw]
section
variable {S:ySM}
theorem compact_int (hS:NoS S) {own0:yLO} {b:Nat} (hb:b<own0.length) (xs:List Int) {n cap:Nat} {tg:Bool} (hl0:xs.length=n) (h0:0<n) (hn:n<65536) (hcap:n<=cap):∀ m,n+10<=m->∀ d out ownV J,∃ c:List Int,c.length=n/\c.take (cmpct xs).length=cmpct xs/\∀ id,callN Ftab S m d out ownV (Bk own0 b (xs.flatMap intc)++J) id 152 [.slM d b 0 n cap 1 tg]=some (.x,.slM d b 0 (cmpct xs).length cap 1 tg,Bk own0 b (c.flatMap intc)++J):=by
 intro m hm d out ownV J
 obtain ⟨m,rfl⟩:∃ q,m=q+1:=⟨m - 1,by omega⟩
 have main:∃ v own',(∀ id,callN Ftab S (m+1) d out ownV (Bk own0 b (xs.flatMap intc)++J) id 152 [.slM d b 0 n cap 1 tg]=some (.x,v,own'))/\(∃ c:List Int,c.length=n/\c.take (cmpct xs).length=cmpct xs/\v=.slM d b 0 (cmpct xs).length cap 1 tg/\own'=Bk own0 b (c.flatMap intc)++J):=by
  refine zD (i:=i152) (hS _ _ (by decide) (by decide) (by decide) (by decide)) rfl rfl (zam rfl) fun t hfr=>?_
  simp only [slotsOf,za,zb,zap,Nat.reduceAdd,i152] at hfr
  have hE:=int_elt
  cases hs:decide ((n:Int)<2)
  rotate_left
  ·have h1:n=1:=by have:=of_decide_eq_true hs; omega
   have hc:cmpct xs=xs:=by
    match xs,hl0 with
    | [a],_=>rfl
    | [],h=>simp at h; omega
    | _::_::_,h=>simp at h; omega
   simp only [i152,V0,sevalprocAttr,hfr,hs,zj,y6]
   exact ⟨_,rfl,xs,hl0,by rw [hc,za0 (zaq _)],by rw [hc,hl0],rfl⟩
  simp only [i152,V0,sevalprocAttr,hfr,hs]
  refine zd (fun jj st=>∃ (k:Nat),jj=n - k/\1<=k/\k<=n/\cmpct (xs.take k)=xs.take k/\st.own=Bk own0 b (xs.flatMap intc)++J/\Slots 61 st.t [(0,.slM d b 0 n cap 1 tg),(3,iv k)]) (n - 1) (by omega) ⟨1,rfl,by omega,by omega,?_,rfl,by simp only [V0,sevalprocAttr,hfr,Int.natCast_one]⟩ ?_
  ·match xs,hl0 with
   | [],h=>simp at h; omega
   | a::_,_=>rfl
  clear hfr
  rintro jj ⟨t,own⟩ KA ⟨k,hjj,hk1,hkn,hck,ho,hfr⟩ hnA heA hrA
  dsimp only at ho hfr
  subst ho
  simp only [za,zb,zg] at hfr
  by_cases h:k<n
  rotate_left
  ·have hk:k=n:=by omega
   simp only [V0,sevalprocAttr,hfr,h]
   refine heA _ _ ?_
   simp only [V0,sevalprocAttr,hfr,zx,zj,y6]
   have hc:cmpct xs=xs:=by rwa [hk,← hl0,za0 (zaq _)] at hck
   exact ⟨_,rfl,xs,hl0,by rw [hc,za0 (zaq _)],by rw [hc,hl0],rfl⟩
  have hwk:wrapI .i64 ((k:Int) - 1)=((k - 1:Nat):Int):=zk (by omega) (by omega)
  have hwk2:wrapI .i64 ((k:Int)+1)=((k+1:Nat):Int):=zk (by omega) (by omega)
  have hkn1:k - 1<n:=by omega
  have hx:xs[k]?=some xs[k]:=zak (by omega)
  generalize xs[k]=x at hx
  have lx:=hE.ld hx
  have hy:xs[k - 1]?=some xs[k - 1]:=zak (by omega)
  generalize xs[k - 1]=y at hy
  have ly:=hE.ld hy
  have hst:=zac (by omega) hy hx
  cases hxy:(x==y)
  ·have hne:¬ y=x:=fun e=>by rw [e] at hxy; simp at hxy
   simp only [V0,sevalprocAttr,hfr,L1,L2 hb hE,h,hkn1,hwk,lx,ly,hxy]
   refine ⟨by simp [comm],?_⟩
   simp only [V0,sevalprocAttr,hfr,hxy,hwk2]
   refine hnA _ (n - (k+1)) (by omega) ⟨k+1,rfl,by omega,by omega,?_,rfl,by simp only [V0,sevalprocAttr,hfr,hwk2]⟩
   rw [hst,if_neg hne,hck,List.take_add_one,hx]
   rfl
  ·have hne:y=x:=by simpa using (beq_iff_eq.1 hxy).symm
   rw [if_pos hne,hck] at hst
   have hkc:k<=cap:=by omega
   simp only [V0,sevalprocAttr,hfr,L1,L2 hb hE,h,hkn1,hwk,lx,ly,hxy]
   refine ⟨by simp [comm],?_⟩
   simp only [V0,sevalprocAttr,hfr,hxy,yP,sliceI,optI,zM,hkn,hcap,hkc,zaq,and_self,zap,Option.isSome_none,Bool.false_or]
   refine zd (fun jj st=>∃ (q k2:Nat) (ys:List Int),jj=n - (k+k2)/\1<=k2/\k+k2<=n/\q<k+k2/\ys.length=n/\ys.take q=cmpct (xs.take (k+k2))/\(∀ j,k+k2<=j+1->ys[j]?=xs[j]?)/\st.own=Bk own0 b (ys.flatMap intc)++J/\Slots 61 st.t [(0,.slM d b 0 n cap 1 tg),(3,iv q),(4,.slM d b (k*1) (n - k) (cap - k) 1 tg),(5,iv k2)]) (n - (k+1)) (by omega) ⟨k,1,xs,by omega,by omega,by omega,by omega,hl0,hst.symm,fun _ _=>rfl,rfl,by simp only [V0,sevalprocAttr,hfr,Int.natCast_one]⟩ ?_
   clear hfr
   rintro jj ⟨t,own⟩ KB ⟨q,k2,ys,hjj,hk2,hkk,hqk,hly,hcm,hel,ho,hfr⟩ hnB heB hrB
   dsimp only at ho hfr
   subst ho
   simp only [za,zb,zg] at hfr
   by_cases h2:k2<n - k
   ·have hwj:wrapI .i64 ((k2:Int) - 1)=((k2 - 1:Nat):Int):=zk (by omega) (by omega)
    have hwj2:wrapI .i64 ((k2:Int)+1)=((k2+1:Nat):Int):=zk (by omega) (by omega)
    have hwq:wrapI .i64 ((q:Int)+1)=((q+1:Nat):Int):=zk (by omega) (by omega)
    have hj1:k2 - 1<n - k:=by omega
    have hqn:q<n:=by omega
    have e1:k*1+k2*1=(k+k2)*1:=by omega
    have e2:k*1+(k2 - 1)*1=(k+k2 - 1)*1:=by omega
    have hu:ys[k+k2]?=some ys[k+k2]:=zak (by omega)
    generalize ys[k+k2]=u at hu
    have lu:=hE.ld hu
    have hv:ys[k+k2 - 1]?=some ys[k+k2 - 1]:=zak (by omega)
    generalize ys[k+k2 - 1]=v at hv
    have lv:=hE.ld hv
    have hst2:=zac (xs:=xs) (j:=k+k2) (by omega) (by rw [← hel _ (by omega)]; exact hv) (by rw [← hel _ (by omega)]; exact hu)
    cases huv:(u==v)
    ·have hne:¬ v=u:=fun e=>by rw [e] at huv; simp at huv
     rw [if_neg hne] at hst2
     simp only [V0,sevalprocAttr,hfr,L1,L2 hb hE,h2,hj1,hwj,e1,e2,lu,lv,b_neq,huv,zbj]
     refine ⟨by simp [comm],?_⟩
     simp only [V0,sevalprocAttr,hfr,L1,L2 hb hE,h2,hqn,e1,lu,hwq,hwj2,hly]
     refine hnB _ (n - (k+(k2+1))) (by omega) ⟨q+1,k2+1,ys.set q u,rfl,by omega,by omega,by omega,by rw [List.length_set]; exact hly,?_,fun j hj=>?_,rfl,by simp only [V0,sevalprocAttr,hfr,hwj2,hwq]⟩
     ·rw [← Nat.add_assoc,hst2,List.take_add_one,zbw (by omega),List.take_set_of_le (zaq _),hcm]
      rfl
     ·rw [zbq (by omega)]
      exact hel j (by omega)
    ·have hne:v=u:=by simpa using (beq_iff_eq.1 huv).symm
     rw [if_pos hne] at hst2
     simp only [V0,sevalprocAttr,hfr,L1,L2 hb hE,h2,hj1,hwj,e1,e2,lu,lv,b_neq,huv,zbm]
     refine ⟨by simp [comm],?_⟩
     simp only [V0,sevalprocAttr,hfr,hwj2]
     exact hnB _ (n - (k+(k2+1))) (by omega) ⟨q,k2+1,ys,rfl,by omega,by omega,by omega,hly,by rw [← Nat.add_assoc,hst2]; exact hcm,fun j hj=>hel j (by omega),rfl,by simp only [V0,sevalprocAttr,hfr,hwj2]⟩
   ·have hkk2:k+k2=n:=by omega
    have hqn:q<n:=by omega
    have hqc:q<=n:=by omega
    have hqcap:q<=cap:=by omega
    have hcl:=clr_bk (own0:=own0) (R:=J) (d:=d) (cap:=cap - q) (tg:=tg) hb hly hqn
    have hcx:ys.take q=cmpct xs:=by rw [hcm,hkk2,← hl0,za0 (zaq _)]
    have hcl2:(cmpct xs).length=q:=by rw [← hcx,zbl]; omega
    simp only [V0,sevalprocAttr,hfr,h2]
    refine heB _ _ ?_
    simp only [V0,sevalprocAttr,hfr,yP,sliceI,optI,zM,hqc,hcap,hqcap,zaq,and_self,zap,Option.isSome_none,Bool.false_or,ev_clrV,Nat.mul_one,hcl,Nat.zero_le,zj,y6,Nat.sub_zero,Nat.zero_mul]
    refine hrA _ ?_
    simp only [V0,sevalprocAttr,hfr,zj,y6]
    exact ⟨_,rfl,_,by rw [zaw,zbl,List.length_replicate]; omega,by rw [hcl2,hcx,List.take_left' hcl2],by rw [hcl2],rfl⟩
 obtain ⟨v,own',h1,c,hc1,hc2,rfl,rfl⟩:=main
 exact ⟨c,hc1,hc2,h1⟩
end
end
section
def OwnL (d:Nat) (out:yLM) (ownV:yLO) (lv:IV) (xs:List Int):Prop:=(xs=[]/\lv=.nilsl)∨∃ l b cap tg,xs≠[]/\xs.length<=cap/\l<=d/\lv=.slM l b 0 xs.length cap 1 tg/\(if l=d then ownV else out l)[b]?=some (.cells (xs.flatMap intc))
theorem lt_orders:Orders (bi fun x y:Int=>decide (x<y)):=by
 have h:∀ x y:Int,up (bi fun x y:Int=>decide (x<y)) x y↔x<=y:=fun x y=>by
  unfold up bi
  by_cases hh:y<x
  ·simp [hh]
  ·simp [hh]; omega
 exact ⟨fun x y=>by rw [h,h]; omega,fun x y z=>by rw [h,h,h]; omega⟩
theorem srt_le {xs:List Int} {n:Nat} (hl:xs.length=n) (h:Srt (bi fun x y:Int=>decide (x<y)) xs 0 n):xs.Pairwise (·<=·):=by
 rw [List.pairwise_iff_getElem]
 intro i j hi hj hij
 have:=h i j xs[i] xs[j] (Nat.zero_le _) hij (by omega) (zak hi) (zak hj)
 unfold up bi at this
 by_cases hh:xs[j]<xs[i]
 ·simp [hh] at this
 ·omega
section
variable {S:ySM}
theorem grow_nil (hS:NoS S) {m d:Nat} {out:yLM} {ownV own:yLO} {id:Nat} (hm:3<=m):callN Ftab S m d out ownV own id 182 [.nilsl,.int .i64 0]=some (.r,.nilsl,own):=by
 obtain ⟨m,rfl⟩:∃ q,m=q+2:=⟨m - 2,by omega⟩
 have main:∃ r,callN Ftab S (m+2) d out ownV own id 182 [.nilsl,.int .i64 0]=some r/\r=(.r,.nilsl,own):=by
  refine zT (i:=i182) (hS _ _ (by decide) (by decide) (by decide) (by decide)) rfl (by decide) (zam rfl) fun t hfr=>?_
  simp only [slotsOf,za,zb,zap,Nat.reduceAdd,i182] at hfr
  have w0:wrapI .i64 0=0:=rfl
  have w00:wrapI .i64 (0 - 0)=0:=rfl
  have d1:decide ((0:Int)<0)=false:=by decide
  have d2:decide ((0:Int) > 0)=false:=by decide
  simp only [i182,V0,sevalprocAttr,hfr,d1,d2,w0,w00,ev_cap,e_cap]
  exact ⟨.inr trivial,_,_,rfl,rfl,rfl⟩
 obtain ⟨r,h1,rfl⟩:=main
 exact h1
theorem concat_nil (hS:NoS S) {m d:Nat} {out:yLM} {ownV own:yLO} {id:Nat} {tt:Bool} (hm:8<=m):callN Ftab S m d out ownV own id 150 [.slC [.nilsl] 1 1 tt]=some (.r,.nilsl,own):=by
 obtain ⟨m,rfl⟩:∃ q,m=q+1:=⟨m - 1,by omega⟩
 have hg:=fun d out ownV own id=>grow_nil hS (m:=m) (d:=d) (out:=out) (ownV:=ownV) (own:=own) (id:=id) (by omega)
 have main:∃ r,callN Ftab S (m+1) d out ownV own id 150 [.slC [.nilsl] 1 1 tt]=some r/\r=(.r,.nilsl,own):=by
  refine zT (i:=i150) (hS _ _ (by decide) (by decide) (by decide) (by decide)) rfl (by decide) (zam rfl) fun t hfr=>?_
  simp only [slotsOf,za,zb,zap,Nat.reduceAdd,i150] at hfr
  generalize (fun l=>if l=d then ownV else out l:yLM)=out2
  have l01:decide ((0:Int)<1)=true:=by decide
  have l11:decide ((1:Int)<1)=false:=by decide
  have d1:decide ((0:Int)<0)=false:=by decide
  have w0:wrapI .i64 0=0:=rfl
  have w00:wrapI .i64 (0+0)=0:=rfl
  have w1:wrapI .i64 1=1:=Z5 rfl (by omega) (by omega)
  have a0:∀ {d n0 slot own} {lk:Nat->Nat->Option IObj} {new:List IV},appendI d n0 lk own 1 .nilsl new 0 slot=some (.r,.nilsl,own):=fun {d n0 slot own lk new}=>rfl
  obtain ⟨k,rfl⟩:∃ k,m=k+1+1+1+1:=⟨m - 4,by omega⟩
  simp only [i150,V0,sevalprocAttr,hfr,Ex_loop,Lp_succ,l01,l11,d1,w0,w00,w1,iaddr0 (show 0<1 by omega),wrap_0_1,nlt,hg,zp,zy,zH,cellsI,a0,Nat.zero_mul]
  refine ⟨.inr trivial,_,_,rfl,rfl,rfl⟩
 obtain ⟨r,h1,rfl⟩:=main
 exact h1
theorem compact_nil (hS:NoS S) {m d:Nat} {out:yLM} {ownV own:yLO} {id:Nat} (hm:3<=m):callN Ftab S m d out ownV own id 152 [.nilsl]=some (.x,.nilsl,own):=by
 obtain ⟨m,rfl⟩:∃ q,m=q+1:=⟨m - 1,by omega⟩
 have main:∃ v own',(∀ id,callN Ftab S (m+1) d out ownV own id 152 [.nilsl]=some (.x,v,own'))/\(v=.nilsl/\own'=own):=by
  refine zD (i:=i152) (hS _ _ (by decide) (by decide) (by decide) (by decide)) rfl rfl (zam rfl) fun t hfr=>?_
  simp only [slotsOf,za,zb,zap,Nat.reduceAdd,i152] at hfr
  have d1:decide ((0:Int)<2)=true:=by decide
  simp only [i152,V0,sevalprocAttr,hfr,d1,zj,y6]
  exact ⟨_,rfl,rfl⟩
 obtain ⟨v,own',h1,rfl,rfl⟩:=main
 exact h1 id
theorem collect_int (hS:NoS S) {Nc:Nat} (hP:PowOK S Nc) (hL:LenOK S Nc) (h4:4<=Nc) (xs:List Int) (h0:0<xs.length) (hn:xs.length<65536) {l b cap d:Nat} {tg tt:Bool} {out:yLM} {ownV own:yLO} {id:Nat} (hl:l<=d) (hb:(if l=d then ownV else out l)[b]?=some (.cells (xs.flatMap intc))) (hid:own[id]?=some .free) :
  ∀ m,Nc+2*xs.length+30<=m->∃ c:List Int,c.length=xs.length/\c.take (nrm xs).length=nrm xs/\callN Ftab S m d out ownV own id 119 [.slC [.slM l b 0 xs.length cap 1 tg] 1 1 tt]=some (.a,.slM d id 0 (nrm xs).length xs.length 1 false,own.set id (.cells (c.flatMap intc))):=by
 intro m hm
 obtain ⟨m,rfl⟩:∃ q,m=q+2:=⟨m - 2,by omega⟩
 have main:∃ r,callN Ftab S (m+2) d out ownV own id 119 [.slC [.slM l b 0 xs.length cap 1 tg] 1 1 tt]=some r/\∃ c:List Int,c.length=xs.length/\c.take (nrm xs).length=nrm xs/\r=(.a,.slM d id 0 (nrm xs).length xs.length 1 false,own.set id (.cells (c.flatMap intc))):=by
  refine zT (i:=i119) (hS _ _ (by decide) (by decide) (by decide) (by decide)) rfl (by decide) (zam rfl) fun t hfr=>?_
  simp only [slotsOf,za,zb,zap,Nat.reduceAdd,i119] at hfr
  have hl1:¬ l=d+1:=by omega
  have hb':((fun l=>if l=d then ownV else out l:yLM) l)[b]?=some (.cells (xs.flatMap intc)):=hb
  clear hb
  generalize (fun l=>if l=d then ownV else out l:yLM)=out2 at hb' ⊢
  have c1:=fun ownV=>concat_int hS xs h0 (by omega) (l:=l) (b:=b) (cap:=cap) (tg:=tg) (tt:=tt) (d:=d+1) (out:=out2) (ownV:=ownV) (own:=[.free]) (id:=0) (by omega) (by rw [if_neg hl1]; exact hb') rfl (m+1) (by omega)
  obtain ⟨xs',J',hs,hp,hsr⟩:=o_sortS (d:=d+1) (out:=out2) (cp:=xs.length) (tg:=false) (own0:=[.cells []]) (b:=0) lt_orders hS (by simp) int_elt (fun m hm=>less_ok hS m (by omega)) (n:=xs.length) hn (m+1) (Nc:=Nc) (by omega) [.cells (xs.flatMap intc),.free] xs [.free] rfl hP hL
  have hn':=hp.length_eq
  obtain ⟨c,hc1,hc2,hc3⟩:=compact_int hS (own0:=[.cells []]) (b:=0) (by simp) xs' (n:=xs.length) (cap:=xs.length) (tg:=false) hn' h0 hn (zaq _) (m+1) (by omega) (d+1) out2 (Bk [.cells []] 0 (xs'.flatMap intc)++(J'++[.free])) (J'++[.free])
  have hcn:cmpct xs'=nrm xs:=cmpct_nrm hp (srt_le hn' hsr)
  rw [hcn] at hc2 hc3
  have hfl:(c.flatMap intc).length=xs.length:=by rw [zn zi]; omega
  have hseg:seg (c.flatMap intc) 0 (xs.length*1)=some (c.flatMap intc):=by
   unfold seg
   rw [zf,hfl,if_pos (by omega),List.drop_zero,za0 (by omega)]
  have e1:∀ (c:List IV) (J:yLO),Bk [.cells []] 0 c++J=.cells c::J:=fun c J=>rfl
  simp only [e1] at hs hc3
  simp only [i119,V0,sevalprocAttr,hfr,c1,hs,hc3]
  have hfz:∀ (o:yLO),(c.flatMap intc).mapM (freeze (m+1) (d+1) o)=some (c.flatMap intc):=fun o=>Z8 c
  refine ⟨.inr trivial,_,_,rfl,?_,c,hc1,hc2,rfl⟩
  simp only [leave,if_true,handed,za8,hseg,hfz,mkAt,hid,zf]
 obtain ⟨r,h1,c,hc1,hc2,rfl⟩:=main
 exact ⟨c,hc1,hc2,h1⟩
theorem fill1 (a b:IV):(if 1<=(rep [a] 1).length then some (wrN (rep [a] 1) 0 [b]) else none)=some [b]:=rfl
theorem collect_nil (hS:NoS S) {Nc:Nat} (hP:PowOK S Nc) (hL:LenOK S Nc) {m d:Nat} {out:yLM} {ownV own:yLO} {id:Nat} {tt:Bool} (hm:Nc+60<=m):callN Ftab S m d out ownV own id 119 [.slC [.nilsl] 1 1 tt]=some (.r,.nilsl,own):=by
 obtain ⟨m,rfl⟩:∃ q,m=q+2:=⟨m - 2,by omega⟩
 have main:∃ r,callN Ftab S (m+2) d out ownV own id 119 [.slC [.nilsl] 1 1 tt]=some r/\r=(.r,.nilsl,own):=by
  refine zT (i:=i119) (hS _ _ (by decide) (by decide) (by decide) (by decide)) rfl (by decide) (zam rfl) fun t hfr=>?_
  simp only [slotsOf,za,zb,zap,Nat.reduceAdd,i119] at hfr
  generalize (fun l=>if l=d then ownV else out l:yLM)=out2
  have c1:=fun d out ownV own id=>concat_nil hS (tt:=tt) (d:=d) (out:=out) (ownV:=ownV) (own:=own) (id:=id) (m:=m+1) (by omega)
  obtain ⟨J',c2⟩:=osort_nil hS hL (d:=d+1) (out:=out2) (ownV:=[.free,.free]) (own:=[.free,.free]) (m:=m+1) (by omega)
  have c3:=fun d out ownV own id=>compact_nil hS (d:=d) (out:=out) (ownV:=ownV) (own:=own) (id:=id) (m:=m+1) (by omega)
  simp only [i119,V0,sevalprocAttr,hfr,c1,c2,c3]
  exact ⟨.inr trivial,_,_,rfl,rfl,rfl⟩
 obtain ⟨r,h1,rfl⟩:=main
 exact h1
def slN (xs:List Int) (h:xs.length<9223372036854775808):SlOf 1 intc:=if xs=[] then nilS 1 intc else mkRow zi xs xs.length false rfl h
theorem slN_l (xs:List Int) (h:xs.length<9223372036854775808):(slN xs h).l=xs:=by
 unfold slN
 split
 ·rename_i e
  exact e.symm
 ·rfl
theorem yv (xs:List Int):(nrm xs).length<=xs.length:=by
 have h:∀ (xs o:List Int),(xs.foldl (fun o n=>insI n o) o).length<=o.length+xs.length:=fun xs=>by
  induction xs with
  | nil=>intro o; simp
  | cons x xs ih =>
   intro o
   have h1:=ih (insI x o)
   have h2:∀ o:List Int,(insI x o).length<=o.length+1:=fun o=>by
    induction o with
    | nil=>simp [insI]
    | cons y o ih2 =>
     unfold insI
     split
     ·simp only [zau]; omega
     ·split <;> simp only [zau] <;> omega
   have h3:=h2 o
   simp only [List.foldl_cons,zau]
   omega
 have:=h xs []
 simpa [nrm] using this
theorem Zm {xs:List Int} (h:xs.length<65536):(nrm xs).length<9223372036854775808:=by
 have:=yv xs
 omega
theorem nrm_nil {xs:List Int}:nrm xs=[]↔xs=[]:=by
 constructor
 ·intro h
  cases xs with
  | nil=>rfl
  | cons x xs =>
   have:x∈nrm (x::xs):=yU.2 (zbn ..)
   rw [h] at this
   cases this
 ·rintro rfl
  rfl
theorem normal_run (hS:NoS S) {Nc:Nat} (hP:PowOK S Nc) (hL:LenOK S Nc) (h4:4<=Nc) (xs:List Int) (hn:xs.length<65536) {d:Nat} {out:yLM} {ownV own:yLO} {id:Nat} {lv:IV} (h:OwnL d out ownV lv xs) :
  ∀ m,Nc+2*xs.length+70<=m->callN Ftab S m d out ownV own id 95 [lv]=some (.r,(slN (nrm xs) (Zm hn)).v,own):=by
 intro m hm
 obtain ⟨m,rfl⟩:∃ q,m=q+3:=⟨m - 3,by omega⟩
 have main:∃ r,callN Ftab S (m+3) d out ownV own id 95 [lv]=some r/\r=(.r,(slN (nrm xs) (Zm hn)).v,own):=by
  refine zT (i:=i95) (hS _ _ (by decide) (by decide) (by decide) (by decide)) rfl (by decide) (zam rfl) fun t hfr=>?_
  simp only [slotsOf,za,zb,zap,Nat.reduceAdd,i95] at hfr
  rcases h with ⟨rfl,rfl⟩ | ⟨l,b,cap,tg,hne,hcap,hl,rfl,hb⟩
  ·generalize (fun l=>if l=d then ownV else out l:yLM)=out2
   have c1:=fun d out ownV own id tt=>collect_nil hS hP hL (tt:=tt) (d:=d) (out:=out) (ownV:=ownV) (own:=own) (id:=id) (m:=m+2) (by omega)
   simp only [i95,V0,sevalprocAttr,hfr,fill1,c1]
   exact ⟨.inr trivial,_,_,rfl,rfl,rfl⟩
  ·have hl1:¬ l=d+1:=by omega
   have hb':((fun l=>if l=d then ownV else out l:yLM) l)[b]?=some (.cells (xs.flatMap intc)):=hb
   clear hb
   have h0:0<xs.length:=List.length_pos_iff.2 hne
   generalize (fun l=>if l=d then ownV else out l:yLM)=out2 at hb' ⊢
   obtain ⟨c,hc1,hc2,hc3⟩:=collect_int hS hP hL h4 xs h0 hn (l:=l) (b:=b) (cap:=cap) (tg:=tg) (tt:=true) (d:=d+1) (out:=out2) (ownV:=[.free]) (own:=[.free]) (id:=0) (by omega) (by rw [if_neg hl1]; exact hb') rfl (m+2) (by omega)
   simp only [i95,V0,sevalprocAttr,hfr,fill1,hc3]
   refine ⟨.inr trivial,_,_,rfl,?_,rfl⟩
   have hne2:¬ nrm xs=[]:=fun h=>hne (nrm_nil.1 h)
   have hseg:seg (c.flatMap intc) 0 ((nrm xs).length*1)=some ((nrm xs).flatMap intc):=by
    have h1:=zn zi (l:=c)
    have h2:=yv xs
    unfold seg
    rw [zf,if_pos (by omega),List.drop_zero,flat_take zi (by omega),hc2]
   have hfz:∀ (o:yLO),((nrm xs).flatMap intc).mapM (freeze (m+1) (d+1) o)=some ((nrm xs).flatMap intc):=fun o=>Z8 _
   have hf2:freeze (m+2) (d+1) [IObj.cells (c.flatMap intc)] (.slM (d+1) 0 0 (nrm xs).length xs.length 1 false)=some (mkRow zi (nrm xs) (nrm xs).length false rfl (Zm hn)).v:=by
    show (if d+1=d+1 then ((seg (c.flatMap intc) 0 ((nrm xs).length*1)).bind fun s=>s.mapM (freeze (m+1) (d+1) [IObj.cells (c.flatMap intc)])).map (IV.slC · (nrm xs).length 1 (false&&xs.length==(nrm xs).length)) else some _)=_
    rw [if_pos rfl,hseg,za7,hfz]
    rfl
   unfold slN
   rw [if_neg hne2]
   show (freeze (m+2) (d+1) [IObj.cells (c.flatMap intc)] (.slM (d+1) 0 0 (nrm xs).length xs.length 1 false)).map (fun v'=>(Eff.r,v',own))=_
   rw [hf2]
   rfl
 obtain ⟨r,h1,rfl⟩:=main
 exact h1
end
end
section
structure DK where
 sz:Nat
 z:List IV
 idx:FuncId
 ids:FuncId
 eqn:FuncId
 dif:FuncId
def cIdx (X:DK):IFn:=⟨32,[(.tmp 4)],(.seq (.region false 1 [⟨(.some 2),(.box (.tmp 0) 0),.none,[]⟩,⟨(.some 4),(.mov (.const .nilmap)),.none,[]⟩] []) (.seq (.region false 1 [⟨(.some 8),(.mkmap 0),.none,[]⟩,⟨(.some 5),(.mov (.tmp 8)),.none,[]⟩] []) (.seq (.seq (.region false 0 [⟨(.some 9),(.mov (.tmp 1)),.none,[]⟩,⟨(.some 10),(.len 1 (.tmp 9)),.none,[]⟩,⟨(.some 11),(.mov (.const (.int .i64 0))),.none,[]⟩] []) (.block 0 (.loop (.seq (.region false 0 [⟨(.some 12),(.bin .lss (.tmp 11) (.tmp 10)),.none,[]⟩] []) (.seq (.cond (.tmp 12) .skip (.exit 0)) (.seq (.block 1 (.seq (.region false 0 [⟨(.some 13),(.mov (.tmp 11)),.none,[]⟩,⟨(.some 6),(.mov (.tmp 13)),.none,[]⟩] []) (.seq (.region true 1 [⟨(.some 14),(.faddr 1 (.tmp 2)),.none,[]⟩,⟨(.some 15),(.load false 1 (.tmp 14)),.none,[]⟩,⟨(.some 16),(.mov (.tmp 1)),.none,[]⟩,⟨(.some 17),(.mov (.tmp 6)),.none,[]⟩,⟨(.some 18),(.iaddr X.sz (.tmp 16) (.tmp 17)),.none,[]⟩,⟨(.some 19),(.load true X.sz (.tmp 18)),.none,[]⟩,⟨(.some 20),(.call (.tmp 15) [(.tmp 19)] 0),.none,[]⟩,⟨(.some 7),(.mov (.tmp 20)),.none,[0]⟩] [(1,5)]) (.seq (.region false 0 [⟨(.some 21),(.mov (.tmp 5)),.none,[]⟩,⟨(.some 22),(.mov (.tmp 7)),.none,[]⟩,⟨(.some 23),(.lookup .nilptr (false,[1]) false (.tmp 21) (.tmp 22)),.none,[]⟩,⟨(.some 24),(.eqp false (.tmp 23) (.const .nilptr)),.none,[]⟩] []) (.cond (.tmp 24) (.region false 0 [⟨(.some 25),(.mov (.tmp 5)),.none,[]⟩,⟨(.some 26),(.mov (.tmp 7)),.none,[]⟩,⟨(.some 27),(.mov (.tmp 1)),.none,[]⟩,⟨(.some 28),(.mov (.tmp 6)),.none,[]⟩,⟨(.some 29),(.iaddr X.sz (.tmp 27) (.tmp 28)),.none,[]⟩,⟨.none,(.mapupd (false,[1]) (.tmp 25) (.tmp 26) (.tmp 29)),.none,[]⟩] []) .skip))))) (.region false 0 [⟨(.some 30),(.bin .add (.tmp 11) (.const (.int .i64 1))),.none,[]⟩,⟨(.some 11),(.mov (.tmp 30)),.none,[]⟩] []))))))) (.seq (.region false 0 [⟨(.some 31),(.mov (.tmp 5)),.none,[]⟩,⟨(.some 4),(.mov (.tmp 31)),.none,[]⟩] []) .ret)))),0⟩
def cIds (X:DK):IFn:=⟨33,[(.tmp 4)],(.seq (.region false 1 [⟨(.some 2),(.box (.tmp 0) 0),.none,[]⟩,⟨(.some 4),(.mov (.const .nilsl)),.none,[]⟩] []) (.seq (.region false 0 [⟨(.some 5),(.mov (.const .nilsl)),.none,[]⟩] []) (.seq (.seq (.region false 0 [⟨(.some 10),(.mov (.tmp 1)),.none,[]⟩,⟨(.some 11),(.len 1 (.tmp 10)),.none,[]⟩,⟨(.some 12),(.mov (.const (.int .i64 0))),.none,[]⟩] []) (.block 0 (.loop (.seq (.region false 0 [⟨(.some 13),(.bin .lss (.tmp 12) (.tmp 11)),.none,[]⟩] []) (.seq (.cond (.tmp 13) .skip (.exit 0)) (.seq (.block 1 (.seq (.region false 0 [⟨(.some 14),(.iaddr 1 (.tmp 10) (.tmp 12)),.none,[]⟩,⟨(.some 15),(.load false 1 (.tmp 14)),.none,[]⟩,⟨(.some 7),(.mov (.tmp 15)),.none,[]⟩] []) (.seq (.region false 0 [⟨(.some 16),(.mov (.tmp 7)),.none,[]⟩,⟨(.some 17),(.len 1 (.tmp 16)),.none,[]⟩,⟨(.some 18),(.mov (.const (.int .i64 0))),.none,[]⟩] []) (.block 2 (.loop (.seq (.region false 0 [⟨(.some 19),(.bin .lss (.tmp 18) (.tmp 17)),.none,[]⟩] []) (.seq (.cond (.tmp 19) .skip (.exit 2)) (.seq (.block 3 (.seq (.region false 1 [⟨(.some 20),(.iaddr X.sz (.tmp 16) (.tmp 18)),.none,[]⟩,⟨(.some 21),(.load true X.sz (.tmp 20)),.none,[]⟩,⟨(.some 9),(.newv X.z 0),.none,[]⟩,⟨.none,(.store X.sz (.tmp 9) (.tmp 21)),.none,[]⟩] []) (.region false 2 [⟨(.some 22),(.mov (.tmp 5)),.none,[]⟩,⟨(.some 23),(.faddr 1 (.tmp 2)),.none,[]⟩,⟨(.some 24),(.load false 1 (.tmp 23)),.none,[]⟩,⟨(.some 25),(.load true X.sz (.tmp 9)),.none,[]⟩,⟨(.some 26),(.call (.tmp 24) [(.tmp 25)] 0),.none,[]⟩,⟨(.some 27),(.bslice [(.int .i64 0)] 1 1 [(0,(1,(.tmp 26)))]),.none,[]⟩,⟨(.some 28),(.append [(.int .i64 0)] 1 false (.tmp 22) (.tmp 27) 1),.none,[]⟩,⟨(.some 5),(.mov (.tmp 28)),.none,[]⟩] []))) (.region false 0 [⟨(.some 29),(.bin .add (.tmp 18) (.const (.int .i64 1))),.none,[]⟩,⟨(.some 18),(.mov (.tmp 29)),.none,[]⟩] []))))))))) (.region false 0 [⟨(.some 30),(.bin .add (.tmp 12) (.const (.int .i64 1))),.none,[]⟩,⟨(.some 12),(.mov (.tmp 30)),.none,[]⟩] []))))))) (.seq (.region false 1 [⟨(.some 31),(.mov (.tmp 5)),.none,[]⟩,⟨(.some 32),(.call (.const (.fn 95 [] [])) [(.tmp 31)] 0),.none,[]⟩,⟨(.some 4),(.mov (.tmp 32)),.none,[]⟩] []) .ret)))),0⟩
def cEqn (X:DK):IFn:=⟨23,[(.tmp 6)],(.seq (.region false 3 [⟨(.some 3),(.box (.tmp 0) 0),.none,[]⟩,⟨(.some 4),(.box (.tmp 1) 1),.none,[]⟩,⟨(.some 5),(.box (.tmp 2) 2),.none,[]⟩,⟨(.some 6),(.mov (.const (.bool false))),.none,[]⟩] []) (.seq (.seq (.region false 0 [⟨(.some 9),(.faddr 2 (.tmp 3)),.none,[]⟩,⟨(.some 10),(.load false 1 (.tmp 9)),.none,[]⟩,⟨(.some 11),(.len 1 (.tmp 10)),.none,[]⟩,⟨(.some 12),(.mov (.const (.int .i64 0))),.none,[]⟩] []) (.block 0 (.loop (.seq (.region false 0 [⟨(.some 13),(.bin .lss (.tmp 12) (.tmp 11)),.none,[]⟩] []) (.seq (.cond (.tmp 13) .skip (.exit 0)) (.seq (.block 1 (.seq (.region false 1 [⟨(.some 14),(.iaddr 2 (.tmp 10) (.tmp 12)),.none,[]⟩,⟨(.some 15),(.load true 2 (.tmp 14)),.none,[]⟩,⟨(.some 8),(.newv [.nilfn,.nilfn] 0),.none,[]⟩,⟨.none,(.store 2 (.tmp 8) (.tmp 15)),.none,[]⟩] []) (.seq (.region false 1 [⟨(.some 16),(.faddr 0 (.tmp 8)),.none,[]⟩,⟨(.some 17),(.load false 1 (.tmp 16)),.none,[]⟩,⟨(.some 18),(.load true X.sz (.tmp 4)),.none,[]⟩,⟨(.some 19),(.load true X.sz (.tmp 5)),.none,[]⟩,⟨(.some 20),(.call (.tmp 17) [(.tmp 18),(.tmp 19)] 0),.none,[]⟩,⟨(.some 21),(.un .not (.tmp 20)),.none,[]⟩] []) (.cond (.tmp 21) (.seq (.region false 0 [⟨(.some 6),(.mov (.const (.bool false))),.none,[]⟩] []) .ret) .skip)))) (.region false 0 [⟨(.some 22),(.bin .add (.tmp 12) (.const (.int .i64 1))),.none,[]⟩,⟨(.some 12),(.mov (.tmp 22)),.none,[]⟩] []))))))) (.seq (.region false 0 [⟨(.some 6),(.mov (.const (.bool true))),.none,[]⟩] []) .ret))),0⟩
def cDif (X:DK):IFn:=⟨61,[(.tmp 6)],(.seq (.region false 1 [⟨(.some 3),(.box (.tmp 0) 0),.none,[]⟩,⟨(.some 6),(.mov (.const .nilsl)),.none,[]⟩] []) (.seq (.region true 2 [⟨(.some 13),(.load true 3 (.tmp 3)),.none,[]⟩,⟨(.some 14),(.mov (.tmp 1)),.none,[]⟩,⟨(.some 15),(.call (.const (.fn X.idx [] [])) [(.tmp 13),(.tmp 14)] 0),.none,[]⟩,⟨(.some 16),(.load true 3 (.tmp 3)),.none,[]⟩,⟨(.some 17),(.mov (.tmp 2)),.none,[]⟩,⟨(.some 18),(.call (.const (.fn X.idx [] [])) [(.tmp 16),(.tmp 17)] 1),.none,[0]⟩,⟨(.some 7),(.mov (.tmp 15)),.none,[0,1]⟩,⟨(.some 8),(.mov (.tmp 18)),.none,[0,1]⟩] [(0,3),(2,3)]) (.seq (.seq (.region false 1 [⟨(.some 19),(.load true 3 (.tmp 3)),.none,[]⟩,⟨(.some 20),(.mov (.tmp 1)),.none,[]⟩,⟨(.some 21),(.mov (.tmp 2)),.none,[]⟩,⟨(.some 22),(.bslice [.nilsl] 1 2 [(0,(1,(.tmp 20))),(1,(1,(.tmp 21)))]),.none,[]⟩,⟨(.some 23),(.call (.const (.fn X.ids [] [])) [(.tmp 19),(.tmp 22)] 0),.none,[]⟩,⟨(.some 24),(.len 1 (.tmp 23)),.none,[]⟩,⟨(.some 25),(.mov (.const (.int .i64 0))),.none,[]⟩] []) (.block 0 (.loop (.seq (.region false 0 [⟨(.some 26),(.bin .lss (.tmp 25) (.tmp 24)),.none,[]⟩] []) (.seq (.cond (.tmp 26) .skip (.exit 0)) (.seq (.block 1 (.seq (.region false 0 [⟨(.some 27),(.iaddr 1 (.tmp 23) (.tmp 25)),.none,[]⟩,⟨(.some 28),(.load false 1 (.tmp 27)),.none,[]⟩,⟨(.some 10),(.mov (.tmp 28)),.none,[]⟩] []) (.seq (.region true 0 [⟨(.some 29),(.mov (.tmp 7)),.none,[]⟩,⟨(.some 30),(.mov (.tmp 10)),.none,[]⟩,⟨(.some 31),(.lookup .nilptr (false,[1]) false (.tmp 29) (.tmp 30)),.none,[]⟩,⟨(.some 32),(.mov (.tmp 8)),.none,[]⟩,⟨(.some 33),(.mov (.tmp 10)),.none,[]⟩,⟨(.some 34),(.lookup .nilptr (false,[1]) false (.tmp 32) (.tmp 33)),.none,[]⟩,⟨(.some 11),(.mov (.tmp 31)),.none,[]⟩,⟨(.some 12),(.mov (.tmp 34)),.none,[]⟩] [(2,5)]) (.seq (.region true 1 [⟨(.some 35),(.mov (.tmp 11)),.none,[]⟩,⟨(.some 36),(.eqp false (.tmp 35) (.const .nilptr)),.none,[]⟩,⟨(.some 37),(.mov (.tmp 36)),.none,[]⟩,⟨(.some 38),(.mov (.tmp 12)),(.some (37,false)),[]⟩,⟨(.some 39),(.eqp false (.tmp 38) (.const .nilptr)),(.some (37,false)),[]⟩,⟨(.some 40),(.pick (.tmp 37) (.const (.bool true)) (.tmp 39)),.none,[]⟩,⟨(.some 41),(.mov (.tmp 40)),.none,[]⟩,⟨(.some 42),(.load true 3 (.tmp 3)),(.some (41,false)),[]⟩,⟨(.some 43),(.mov (.tmp 11)),(.some (41,false)),[]⟩,⟨(.some 44),(.nilchk (.tmp 43)),(.some (41,false)),[]⟩,⟨(.some 45),(.load true X.sz (.tmp 44)),(.some (41,false)),[]⟩,⟨(.some 46),(.mov (.tmp 12)),(.some (41,false)),[]⟩,⟨(.some 47),(.nilchk (.tmp 46)),(.some (41,false)),[]⟩,⟨(.some 48),(.load true X.sz (.tmp 47)),(.some (41,false)),[]⟩,⟨(.some 49),(.call (.const (.fn X.eqn [] [])) [(.tmp 42),(.tmp 45),(.tmp 48)] 0),(.some (41,false)),[]⟩,⟨(.some 50),(.un .not (.tmp 49)),(.some (41,false)),[0]⟩,⟨(.some 51),(.pick (.tmp 41) (.const (.bool true)) (.tmp 50)),.none,[0]⟩] [(7,10),(7,13),(10,13)]) (.cond (.tmp 51) (.region false 1 [⟨(.some 52),(.mov (.tmp 6)),.none,[]⟩,⟨(.some 53),(.faddr 0 (.tmp 3)),.none,[]⟩,⟨(.some 54),(.load false 1 (.tmp 53)),.none,[]⟩,⟨(.some 55),(.mov (.tmp 10)),.none,[]⟩,⟨(.some 56),(.build [(.int .i64 0),(.int .i64 0)] [(0,(1,(.tmp 54))),(1,(1,(.tmp 55)))]),.none,[]⟩,⟨(.some 57),(.bslice [(.int .i64 0),(.int .i64 0)] 2 1 [(0,(2,(.tmp 56)))]),.none,[]⟩,⟨(.some 58),(.append [(.int .i64 0),(.int .i64 0)] 2 false (.tmp 52) (.tmp 57) 0),.none,[]⟩,⟨(.some 6),(.mov (.tmp 58)),.none,[]⟩] []) .skip))))) (.region false 0 [⟨(.some 59),(.bin .add (.tmp 25) (.const (.int .i64 1))),.none,[]⟩,⟨(.some 25),(.mov (.tmp 59)),.none,[]⟩] []))))))) (.seq (.region false 0 [⟨(.some 60),(.mov (.tmp 6)),.none,[]⟩,⟨(.some 6),(.mov (.tmp 60)),.none,[]⟩] []) .ret)))),1⟩
structure DkOK (S:ySM) (X:DK):Prop where
 idx:(∀ args,S X.idx args=none)/\Ftab X.idx=some (cIdx X)
 ids:(∀ args,S X.ids args=none)/\Ftab X.ids=some (cIds X)
 eqn:(∀ args,S X.eqn args=none)/\Ftab X.eqn=some (cEqn X)
 dif:(∀ args,S X.dif args=none)/\Ftab X.dif=some (cDif X)
def pxV (c:List IV) (sz:Nat):Option Nat->IV
 | none=>.nilptr
 | some k=>.ptrC c (k*sz)
def idxTo (ids:List Int):Nat->List (Int × Option Nat)
 | 0=>[]
 | n+1=>match ids[n]? with
  | none=>idxTo ids n
  | some a=>if (lkM none (idxTo ids n) a).isNone then putM (idxTo ids n) a (some n) else idxTo ids n
theorem lk_idx (ids:List Int) (a:Int):∀ n,lkM none (idxTo ids n) a=(ids.take n).findIdx? fun b=>b==a
 | 0=>rfl
 | n+1=>by
  have ih:=lk_idx ids a n
  unfold idxTo
  cases h:ids[n]? with
  | none =>
   have:ids.length<=n:=by simpa using h
   simp only [ih]
   rw [za0 this,za0 (by omega)]
  | some b =>
   have hlt:n<ids.length:=(zal.1 h).1
   have hl:(ids.take n).length=n:=by rw [zbl]; omega
   have ihb:=lk_idx ids b n
   rw [List.take_add_one,h,List.findIdx?_append,← ih,hl]
   simp only [Option.toList_some,List.findIdx?_cons,List.findIdx?_nil]
   cases hb:lkM none (idxTo ids n) b with
   | none =>
    simp only [Option.isNone_none,if_true,lkM_put]
    by_cases e:a=b
    ·subst e
     simp [hb]
    ·have e2:(b==a)=false:=by simpa using fun h=>e h.symm
     rw [if_neg e,e2]
     cases lkM none (idxTo ids n) a <;> simp
   | some k =>
    simp only [Option.isNone_some,zaz,if_false]
    by_cases e:a=b
    ·subst e
     simp [hb]
    ·have e2:(b==a)=false:=by simpa using fun h=>e h.symm
     rw [e2]
     cases lkM none (idxTo ids n) a <;> simp
theorem fz_ptrC {k:Nat} {cs:List IV} {off:Nat} (h:∀ x∈cs,Fz k x):Fz (k+1) (.ptrC cs off):=fun m hm lv own=>by
 obtain ⟨m,rfl⟩:∃ q,m=q+1:=⟨m - 1,by omega⟩
 simp only [freeze,zV fun x hx=>h x hx m (by omega) lv own,za5]
theorem map_fzK {β:Type} {u:β->IV} {n D k:Nat} {own:yLO} (hn:k+2<=n) {i:Nat} {L:List (Int × β)} {bs:List Nat} {ck:Nat} (h:own[i]?=some (.map (mKs L) (mVs u L) bs ck)) (hu:∀ x,Fz k (u x)):freeze n D own (.mapM D i)=some (.mapC (mKs L) (mVs u L)):=by
 obtain ⟨n,rfl⟩:∃ q,n=q+1:=⟨n - 1,by omega⟩
 have h1:(mKs L).mapM (freeze n D own)=some (mKs L):=zV fun x hx=>by
  obtain ⟨a,_,rfl⟩:=List.mem_map.1 hx
  exact yE n (by omega) _ _
 have h2:(mVs u L).mapM (freeze n D own)=some (mVs u L):=zV fun x hx=>by
  obtain ⟨a,_,rfl⟩:=List.mem_map.1 hx
  exact hu _ n (by omega) _ _
 simp only [freeze,if_true,h,h1,h2]
section
variable {S:ySM} {X:DK} {α:Type} {g:α->List IV} {idOf:α->Int} {idf:FuncId} {nn:Int} {fs:List IV} {nf:Nat} {tf:Bool}
def kindV (nn:Int) (idf:FuncId) (fs:List IV) (nf:Nat) (tf:Bool):IV:=.agg [.int .i64 nn,.fn idf [] [],.slC fs nf 2 tf]
theorem idx_run (hX:DkOK S X) (hg:∀ a,(g a).length=X.sz) (hgs:∀ a,(g a).all IV.scalar=true) (hgf:∀ a,∀ x∈g a,Fz 6 x) (hid:∀ x,GivesN S 4 idf [.agg (g x)] (.int .i64 (idOf x))) (l:SlOf X.sz g):GivesN S (l.l.length+20) X.idx [kindV nn idf fs nf tf,l.v] (.mapC (mKs (idxTo (l.l.map idOf) l.l.length)) (mVs (pxV (l.l.flatMap g) X.sz) (idxTo (l.l.map idOf) l.l.length))):=by
 refine yl (i:=cIdx X) (hX.idx.1 _) hX.idx.2 rfl (zam rfl) (l.l.length+19) fun m hm d out t hfr=>?_
 simp only [slotsOf,za,zb,zap,Nat.reduceAdd,cIdx,kindV] at hfr
 have hlf:=l.few
 have hu:∀ o,Fz 7 (pxV (l.l.flatMap g) X.sz o):=fun o=>by
  cases o with
  | none =>
   intro m hm _ _
   obtain ⟨m,rfl⟩:∃ q,m=q+1:=⟨m - 1,by omega⟩
   rfl
  | some k =>
   refine fz_ptrC fun x hx=>?_
   obtain ⟨b,_,hb⟩:=List.mem_flatMap.1 hx
   exact hgf b x hb
 have fin:∀ (t':List IV) (J:yLO) (O0:IObj) (bs:List Nat) (ck:Nat) (n:Nat),n=l.l.length->Slots 32 t' [(4,.mapM d 1)]->FinF d out (cIdx X).res m (.mapC (mKs (idxTo (l.l.map idOf) l.l.length)) (mVs (pxV (l.l.flatMap g) X.sz) (idxTo (l.l.map idOf) l.l.length))) .ret ⟨t',O0::.map (mKs (idxTo (l.l.map idOf) n)) (mVs (pxV (l.l.flatMap g) X.sz) (idxTo (l.l.map idOf) n)) bs ck::J⟩:=by
  intro t' J O0 bs ck n hn ht
  subst hn
  simp only [za,zb] at ht
  rw [zL]
  refine ⟨.mapM d 1,?_,map_fzK (by omega) rfl hu⟩
  simp only [cIdx,V0,sevalprocAttr,ht]
 suffices hsuf:∀ K:yKM,(∀ (t':List IV) (J:yLO) (O0:IObj) (bs:List Nat) (ck:Nat) (n:Nat),n=l.l.length->Slots 32 t' [(4,.mapM d 1)]->K .ret ⟨t',O0::.map (mKs (idxTo (l.l.map idOf) n)) (mVs (pxV (l.l.flatMap g) X.sz) (idxTo (l.l.map idOf) n)) bs ck::J⟩)->Ex (callN Ftab S m) d out m (cIdx X).body K ⟨t,[]⟩ from hsuf _ fin
 clear fin
 intro K fin
 simp only [cIdx,V0,sevalprocAttr,hfr]
 refine zd (fun jj st=>∃ (i:Nat) (bs:List Nat) (ck:Nat) (J:yLO),l.l.length - i<=jj/\i<=l.l.length/\st.own=.cells [.int .i64 nn,.fn idf [] [],.slC fs nf 2 tf]::.map (mKs (idxTo (l.l.map idOf) i)) (mVs (pxV (l.l.flatMap g) X.sz) (idxTo (l.l.map idOf) i)) bs ck::J/\Slots 32 st.t [(1,l.v),(2,.ptrM d 0 0),(5,.mapM d 1),(10,iv (l.l.length:Nat)),(11,iv i)]) l.l.length (by omega) ⟨0,[],0,[],by omega,by omega,rfl,by simp only [V0,sevalprocAttr,hfr,zbe]⟩ ?_
 clear hfr
 rintro jj ⟨t,own⟩ KA ⟨i,bs,ck,J,hjj,hi,ho,hfr⟩ hnA heA hrA
 dsimp only at ho hfr
 subst ho
 simp only [za,zb,zg] at hfr
 by_cases h:i<l.l.length
 ·have hx:l.l[i]?=some l.l[i]:=zak h
  generalize l.l[i]=x at hx
  have hrd:rdN (l.l.flatMap g) (i*X.sz) X.sz=some (g x):=by
   have h1:=ze hg 0 X.sz hx (by omega)
   have h2:=yK (l:=g x)
   rw [hg] at h2
   rwa [Nat.add_zero,h2] at h1
  have hw:wrapI .i64 ((i:Int)+1)=((i+1:Nat):Int):=zk (by omega) (by omega)
  have cid:=fun d out ownV own id=>hid x m (by omega) d out ownV own id
  have hxi:(l.l.map idOf)[i]?=some (idOf x):=by rw [zbs,hx]; rfl
  have evL:∀ (O0:IObj) (J:yLO) (C:Call) (n0:Nat) (own:yLO) (t:List IV) (a b:Opd),ρ t a=.mapM d 1->ρ t b=.int .i64 (idOf x)->evOp C d out n0 (O0::.map (mKs (idxTo (l.l.map idOf) i)) (mVs (pxV (l.l.flatMap g) X.sz) (idxTo (l.l.map idOf) i)) bs ck::J) own t (.lookup .nilptr (false,[1]) false a b)=some (.r,pxV (l.l.flatMap g) X.sz (lkM none (idxTo (l.l.map idOf) i) (idOf x)),own):=fun O0 J C n0 own t a b h1 h2=>ev_lookM (u:=pxV (l.l.flatMap g) X.sz) (bs:=bs) (ck:=ck) none (idOf x) rfl h1 h2 (by unfold look; rw [if_pos rfl]; rfl)
  have hstep:idxTo (l.l.map idOf) (i+1)=if (lkM none (idxTo (l.l.map idOf) i) (idOf x)).isNone then putM (idxTo (l.l.map idOf) i) (idOf x) (some i) else idxTo (l.l.map idOf) i:=by
   conv=>lhs; unfold idxTo
   rw [hxi]
  obtain ⟨bs',ck',hup⟩:=upd_m (u:=pxV (l.l.flatMap g) X.sz) (idxTo (l.l.map idOf) i) bs ck (idOf x) (some i)
  have hup2:=fun C n0 ownV own t a b c=>hup C d out n0 1 ownV own t a b c
  simp only [show pxV (l.l.flatMap g) X.sz (some i)=.ptrC (l.l.flatMap g) (i*X.sz) from rfl] at hup2
  have ft:(false != true)=true:=rfl
  cases hk:lkM none (idxTo (l.l.map idOf) i) (idOf x) with
  | none =>
   rw [hk,Option.isNone_none,if_pos rfl] at hstep
   simp only [hk] at evL
   simp only [V0,sevalprocAttr,hfr,h,zc l h,hrd,cid]
   refine ⟨by simp [comm],?_⟩
   simp only [V0,sevalprocAttr,hfr,evL,pxV,eqpI,bne_self_eq_false,ft,zc l h,h,hup2,hw]
   refine hnA _ (l.l.length - (i+1)) (by omega) ⟨i+1,bs',ck',_,by omega,by omega,by rw [hstep],by simp only [V0,sevalprocAttr,hfr,hw]⟩
  | some k =>
   rw [hk,Option.isNone_some,if_neg (by decide)] at hstep
   simp only [hk] at evL
   simp only [V0,sevalprocAttr,hfr,h,zc l h,hrd,cid]
   refine ⟨by simp [comm],?_⟩
   simp only [V0,sevalprocAttr,hfr,evL,pxV,eqpI,bne_self_eq_false,ft,hw]
   refine hnA _ (l.l.length - (i+1)) (by omega) ⟨i+1,bs,ck,_,by omega,by omega,by rw [hstep],by simp only [V0,sevalprocAttr,hfr,hw]⟩
 ·simp only [V0,sevalprocAttr,hfr,h]
  refine heA _ _ ?_
  simp only [V0,sevalprocAttr,hfr]
  obtain rfl:i=l.l.length:=by omega
  exact fin _ _ _ _ _ _ rfl (by simp only [V0,sevalprocAttr,hfr])
theorem eqn_run (hX:DkOK S X) (hgs:∀ a,(g a).all IV.scalar=true) (hg:∀ a,(g a).length=X.sz) (F:List (FuncId × FuncId × (α->α->Bool))) (hF:F.length<=10) (x y:α) (hs:∀ f∈F,GivesN S 60000 f.1 [.agg (g x),.agg (g y)] (.bool (f.2.2 x y))):GivesN S 60020 X.eqn [kindV nn idf (F.flatMap fun f=>[.fn f.1 [] [],.fn f.2.1 [] []]) F.length tf,.agg (g x),.agg (g y)] (.bool (F.all fun f=>f.2.2 x y)):=by
 refine zh (i:=cEqn X) (hX.eqn.1 _) hX.eqn.2 rfl (zam rfl) 60019 (by omega) zm fun m hm d out t hfr=>?_
 simp only [slotsOf,za,zb,zap,Nat.reduceAdd,cEqn,kindV] at hfr
 have hwx:∀ x,rdN (g x) 0 X.sz=some (g x):=fun x=>by
  have h2:=yK (l:=g x)
  rwa [hg] at h2
 have hcx:∀ x:α,(IV.agg (g x)).cells=g x:=fun x=>rfl
 simp only [cEqn,V0,sevalprocAttr,hfr,hcx,hgs]
 refine zd (fun jj st=>∃ (i:Nat) (J:yLO),F.length - i<=jj/\i<=F.length/\(F.take i).all (fun f=>f.2.2 x y)=true/\st.own=.cells [.int .i64 nn,.fn idf [] [],.slC (F.flatMap fun f=>[.fn f.1 [] [],.fn f.2.1 [] []]) F.length 2 tf]::.cells (g x)::.cells (g y)::J/\Slots 23 st.t [(3,.ptrM d 0 0),(4,.ptrM d 1 0),(5,.ptrM d 2 0),(10,.slC (F.flatMap fun f=>[.fn f.1 [] [],.fn f.2.1 [] []]) F.length 2 tf),(11,iv (F.length:Nat)),(12,iv i)]) F.length (by omega) ⟨0,[],by omega,by omega,rfl,rfl,by simp only [V0,sevalprocAttr,hfr,hcx,hgs,zbe]⟩ ?_
 clear hfr
 rintro jj ⟨t,own⟩ KA ⟨i,J,hjj,hi,hall,ho,hfr⟩ hnA heA hrA
 dsimp only at ho hfr
 subst ho
 simp only [za,zb,zg] at hfr
 by_cases h:i<F.length
 ·have hx:F[i]?=some F[i]:=zak h
  have hmem:F[i]∈F:=List.getElem_mem h
  generalize F[i]=f at hx hmem
  have hrd:rdN (F.flatMap fun f=>[IV.fn f.1 [] [],.fn f.2.1 [] []]) (i*2) 2=some [.fn f.1 [] [],.fn f.2.1 [] []]:=(ze (sz:=2) (g:=fun f:FuncId × FuncId × (α->α->Bool)=>[IV.fn f.1 [] [],.fn f.2.1 [] []]) (fun _=>rfl) 0 2 hx (by omega)).trans rfl
  have hia:∀ own,iaddrV own 2 (.slC (F.flatMap fun f=>[IV.fn f.1 [] [],.fn f.2.1 [] []]) F.length 2 tf) (.int .i64 (i:Int))=some (.p,.ptrC (F.flatMap fun f=>[IV.fn f.1 [] [],.fn f.2.1 [] []]) (i*2),own):=fun own=>ZH h
  have hw:wrapI .i64 ((i:Int)+1)=((i+1:Nat):Int):=zk (by omega) (by omega)
  have cs:=fun d out ownV own id=>hs f hmem m (by omega) d out ownV own id
  have htk:(F.take (i+1)).all (fun f=>f.2.2 x y)=f.2.2 x y:=by
   rw [List.take_add_one,hx,Option.toList_some,List.all_append,hall,Bool.true_and]
   simp
  cases hq:f.2.2 x y
  ·simp only [V0,sevalprocAttr,hfr,h,hia,hrd,hwx,cs,hq]
   refine hrA _ ?_
   have hf:F.all (fun f=>f.2.2 x y)=false:=by
    rw [← Bool.not_eq_true]
    intro hc
    rw [zbu.1 hc f hmem] at hq
    cases hq
   simp only [V0,sevalprocAttr,hfr,cEqn,hf]
  ·simp only [V0,sevalprocAttr,hfr,h,hia,hrd,hwx,cs,hq,hw]
   exact hnA _ (F.length - (i+1)) (by omega) ⟨i+1,_,by omega,by omega,by rw [htk,hq],rfl,by simp only [V0,sevalprocAttr,hfr,hwx,hw]⟩
 ·simp only [V0,sevalprocAttr,hfr,h]
  refine heA _ _ ?_
  obtain rfl:i=F.length:=by omega
  rw [List.take_length] at hall
  simp only [V0,sevalprocAttr,hfr,cEqn,hall]
theorem ids_run (hS:NoS S) {Nc:Nat} (hP:PowOK S Nc) (hL:LenOK S Nc) (h4:4<=Nc) (hX:DkOK S X) (hz:X.z.length=X.sz) (hg:∀ a,(g a).length=X.sz) (hgs:∀ a,(g a).all IV.scalar=true) (hzs:X.z.all IV.scalar=true) (hid:∀ x,GivesN S 4 idf [.agg (g x)] (.int .i64 (idOf x))) (ls:List (SlOf X.sz g)) (tt:Bool)
  (hn:(ls.flatMap fun l=>l.l.map idOf).length<65536) (hls:ls.length<=10):GivesN S (Nc+200000) X.ids [kindV nn idf fs nf tf,.slC (ls.map fun l=>l.v) ls.length 1 tt] (slN (nrm (ls.flatMap fun l=>l.l.map idOf)) (Zm hn)).v:=by
 refine yl (i:=cIds X) (hX.ids.1 _) hX.ids.2 rfl (zam rfl) (Nc+199999) fun m hm d out t hfr=>?_
 simp only [slotsOf,za,zb,zap,Nat.reduceAdd,cIds,kindV] at hfr
 have fin:∀ (t':List IV) (Pre J:yLO) (lv:IV),OwnJ intc 1 d Pre.length J lv (ls.flatMap fun l=>l.l.map idOf)->Slots 33 t' [(5,lv)]->Ex (callN Ftab S m) d out m ((cIds X).body.sub [1,1,1]) (FinF d out (cIds X).res m (slN (nrm (ls.flatMap fun l=>l.l.map idOf)) (Zm hn)).v) ⟨t',Pre++J⟩:=by
  intro t' Pre J lv hO ht
  simp only [za,zb] at ht
  have hw:OwnL d out (Pre++J++[.free]) lv (ls.flatMap fun l=>l.l.map idOf):=by
   rcases hO with ⟨h1,h2⟩ | ⟨b,hne,rfl,hb⟩
   ·exact .inl ⟨h1,h2⟩
   ·refine .inr ⟨d,_,_,_,hne,zaq _,zaq _,rfl,?_⟩
    rw [if_pos rfl,za9,Zl]
    rw [zar (zal.1 hb).1]
    exact hb
  have cn:=fun own id=>normal_run hS hP hL h4 _ hn (own:=own) (id:=id) hw m (by omega)
  simp only [za9] at cn
  simp only [cIds,IC.sub,V0,sevalprocAttr,ht,cn,zL]
  exact ⟨_,rfl,Zk yH _ _ (by omega) _ _⟩
 show Ex (callN Ftab S m) d out m (.seq ((cIds X).body.sub [0]) (.seq ((cIds X).body.sub [1,0]) (.seq ((cIds X).body.sub [1,1,0]) ((cIds X).body.sub [1,1,1])))) _ _
 have hB:(cIds X).body.sub [1,1,1]=(cIds X).body.sub [1,1,1]:=rfl
 generalize hBB:(cIds X).body.sub [1,1,1]=BB at fin ⊢
 clear hBB hB
 simp only [cIds,IC.sub,V0,sevalprocAttr,hfr]
 refine zd (fun jj st=>∃ (i:Nat) (J:yLO) (lv:IV),ls.length - i<=jj/\i<=ls.length/\OwnJ intc 1 d 1 J lv ((ls.take i).flatMap fun l=>l.l.map idOf)/\st.own=.cells [.int .i64 nn,.fn idf [] [],.slC fs nf 2 tf]::J/\Slots 33 st.t [(2,.ptrM d 0 0),(5,lv),(10,.slC (ls.map fun l=>l.v) ls.length 1 tt),(11,iv (ls.length:Nat)),(12,iv i)]) ls.length (by omega) ⟨0,[],.nilsl,by omega,by omega,.inl ⟨rfl,rfl⟩,rfl,by simp only [V0,sevalprocAttr,hfr,zbe]⟩ ?_
 clear hfr
 rintro jj ⟨t,own⟩ KA ⟨i,J,lv,hjj,hi,hO,ho,hfr⟩ hnA heA hrA
 dsimp only at ho hfr
 subst ho
 simp only [za,zb,zg] at hfr
 by_cases h:i<ls.length
 ·have hx:ls[i]?=some ls[i]:=zak h
  generalize ls[i]=l at hx
  have hsum:((ls.take i).flatMap fun l=>l.l.map idOf).length+l.l.length<=(ls.flatMap fun l=>l.l.map idOf).length:=by
   have e:ls=ls.take i++l::ls.drop (i+1):=by
    conv=>lhs; rw [← List.take_append_drop i ls,List.drop_eq_getElem_cons h]
    rw [zak h] at hx
    cases hx
    rfl
   conv=>rhs; rw [e,List.flatMap_append,zbg,zaw,zaw,zbi]
   omega
  have hrd:rdN (ls.map fun l=>l.v) i 1=some [l.v]:=by
   simp only [rdN,zbs,hx,za5]
  have hia:∀ own,iaddrV own 1 (.slC (ls.map fun l=>l.v) ls.length 1 tt) (.int .i64 (i:Int))=some (.p,.ptrC (ls.map fun l=>l.v) i,own):=fun own=>by
   have:=ZH (own:=own) (cs:=ls.map fun l=>l.v) (z:=1) (sz:=1) (tight:=tt) (k:=.i64) h
   rwa [Nat.mul_one] at this
  have hw:wrapI .i64 ((i:Int)+1)=((i+1:Nat):Int):=zk (by omega) (by omega)
  have hlf:=l.few
  have htk:(ls.take (i+1)).flatMap (fun l=>l.l.map idOf)=(ls.take i).flatMap (fun l=>l.l.map idOf)++l.l.map idOf:=by
   rw [List.take_add_one,hx,Option.toList_some,List.flatMap_append]
   simp
  simp only [V0,sevalprocAttr,hfr,h,hia,hrd]
  refine zd (fun jj st=>∃ (k:Nat) (J:yLO) (lv:IV),l.l.length - k<=jj/\k<=l.l.length/\OwnJ intc 1 d 1 J lv ((ls.take i).flatMap (fun l=>l.l.map idOf)++(l.l.take k).map idOf)/\st.own=.cells [.int .i64 nn,.fn idf [] [],.slC fs nf 2 tf]::J/\Slots 33 st.t [(2,.ptrM d 0 0),(5,lv),(10,.slC (ls.map fun l=>l.v) ls.length 1 tt),(11,iv (ls.length:Nat)),(12,iv i),(16,l.v),(17,iv (l.l.length:Nat)),(18,iv k)]) l.l.length (by omega) ⟨0,J,lv,by omega,by omega,by simpa using hO,rfl,by simp only [V0,sevalprocAttr,hfr,zbe]⟩ ?_
  clear hfr hO lv J t
  rintro jj2 ⟨t,own⟩ KB ⟨k,J,lv,hjj2,hk,hO,ho,hfr⟩ hnB heB hrB
  dsimp only at ho hfr
  subst ho
  simp only [za,zb,zg] at hfr
  by_cases hkl:k<l.l.length
  ·have hy:l.l[k]?=some l.l[k]:=zak hkl
   generalize l.l[k]=x at hy
   have hr2:rdN (l.l.flatMap g) (k*X.sz) X.sz=some (g x):=by
    have h1:=ze hg 0 X.sz hy (by omega)
    have h2:=yK (l:=g x)
    rw [hg] at h2
    rwa [Nat.add_zero,h2] at h1
   have hr3:rdN (g x) 0 X.sz=some (g x):=by
    have h2:=yK (l:=g x)
    rwa [hg] at h2
   have hwz:wrN X.z 0 (g x)=g x:=by
    have:=zab (B:=g x) (A:=[]) (R:=X.z) (k:=0) rfl (by rw [hg,hz]; omega)
    rw [zbk,zbk,List.drop_eq_nil_of_le (by rw [hg,hz]; omega),zbv] at this
    exact this
   have hwk:wrapI .i64 ((k:Int)+1)=((k+1:Nat):Int):=zk (by omega) (by omega)
   have cid:=fun d out ownV own id=>hid x m (by omega) d out ownV own id
   have hcx:(IV.agg (g x)).cells=g x:=rfl
   have hgx:=hgs x
   have hgl:=hg x
   have hfit:0+X.sz<=X.z.length:=by omega
   have hlt:((ls.take i).flatMap (fun l=>l.l.map idOf)++(l.l.take k).map idOf).length=((ls.take i).flatMap (fun l=>l.l.map idOf)).length+k:=by rw [zaw,zbi,zbl,Nat.min_eq_left (by omega)]
   obtain ⟨e,lv',J2,happ,hO2⟩:=y5 (Pre:=[.cells [.int .i64 nn,.fn idf [] [],.slC fs nf 2 tf]]) (n0:=J.length+1+1) (slot:=1) (k:=2) (out:=out) (R:=[.cells (g x),.free,.free]) zi hO (ys:=[idOf x]) (by simp) (by simp only [hlt,zau,zbc]; omega) (by simp only [zau,zbc]; omega) rfl rfl
   simp only [zbd,zbk,zbg,List.flatMap_nil,intc,zg,zau,zbc,zbv,zap] at happ
   have hO3:OwnJ intc 1 d 1 J2 lv' ((ls.take i).flatMap (fun l=>l.l.map idOf)++(l.l.take (k+1)).map idOf):=by
    rw [Z7 (f:=idOf) hy,← za9]
    exact hO2
   simp only [V0,sevalprocAttr,hfr,hkl,zc l hkl,hr2,hr3,hcx,hgx,hgl,hz,hwz,cid,rep,zp,zy,zH,zN,happ,hwk]
   exact hnB _ (l.l.length - (k+1)) (by omega) ⟨k+1,J2,lv',by omega,by omega,hO3,rfl,by simp only [V0,sevalprocAttr,hfr,hkl,zc l hkl,hr2,hr3,hcx,hgx,hgl,hz,hwz,cid,happ,hwk]⟩
  ·simp only [V0,sevalprocAttr,hfr,hkl]
   refine heB _ _ ?_
   simp only [V0,sevalprocAttr,hfr,hw]
   have e:l.l.take k=l.l:=za0 (by omega)
   rw [e,← htk] at hO
   exact hnA _ (ls.length - (i+1)) (by omega) ⟨i+1,J,lv,by omega,by omega,hO,rfl,by simp only [V0,sevalprocAttr,hfr,hw]⟩
 ·simp only [V0,sevalprocAttr,hfr,h]
  refine heA _ _ ?_
  rw [za0 (by omega)] at hO
  simp only [V0,sevalprocAttr,hfr]
  exact fin _ [_] J lv hO (by simp only [V0,sevalprocAttr,hfr])
end
end
section
def OwnRes {α:Type} (g:α->List IV) (sz:Nat) (xs:List α) (d id:Nat) (own:yLO) (r:Eff × IV × yLO):Prop:=(xs=[]/\r=(.r,.nilsl,own))∨(xs≠[]/\r=(.a,.slM d id 0 xs.length xs.length sz false,own.set id (.cells (xs.flatMap g))))
theorem leave_own {α:Type} {g:α->List IV} {sz:Nat} (hs:∀ a,(g a).length=sz) (hf:∀ a,∀ x∈g a,Fz 1 x) {n d id:Nat} {Pre J own:yLO} {lv:IV} {xs:List α} (h:OwnJ g sz (d+1) Pre.length J lv xs) (hid:own[id]?=some .free):∃ r,leave (n+1) d (Pre++J) own id 1 lv=some r/\OwnRes g sz xs d id own r:=by
 rcases h with ⟨rfl,rfl⟩ | ⟨b,hne,rfl,h2⟩
 ·exact ⟨_,rfl,.inl ⟨rfl,rfl⟩⟩
 ·have hseg:seg (xs.flatMap g) 0 (xs.length*sz)=some (xs.flatMap g):=by
   unfold seg
   rw [zf,zn hs,if_pos (by omega),List.drop_zero,za0 (by rw [zn hs]; exact zaq _)]
  have hfz:∀ o,(xs.flatMap g).mapM (freeze (n+1) (d+1) o)=some (xs.flatMap g):=fun o=>zV fun x hx=>by
   obtain ⟨a,_,ha⟩:=List.mem_flatMap.1 hx
   exact hf a x ha _ (by omega) _ _
  refine ⟨_,?_,.inr ⟨hne,rfl⟩⟩
  unfold leave
  simp only [if_true,handed,Zl,h2,hseg,hfz,mkAt,hid,zf]
def cfc (c:Int × Int):List IV:=[.int .i64 c.1,.int .i64 c.2]
theorem ym (c:Int × Int):(cfc c).length=2:=rfl
theorem cfc_fz:∀ a,∀ x∈cfc a,Fz 1 x:=fun a x hx=>by
 simp only [cfc,za4,zbp,or_false] at hx
 rcases hx with rfl | rfl <;> exact yE
section
variable {α:Type} (idOf:α->Int) (eqv:α->α->Bool)
def difB (la lb:List α) (id:Int):Bool:=match la.find? (fun x=>idOf x==id),lb.find? (fun x=>idOf x==id) with
 | some x,some y=>!(eqv x y)
 | _,_=>true
def difL (nn:Int) (la lb:List α):List (Int × Int):=((nrm (la.map idOf++lb.map idOf)).filter (difB idOf eqv la lb)).map fun id=>(nn,id)
theorem find_ix {idOf:α->Int} {la:List α} {id:Int}:(la.find? fun x=>idOf x==id)=((la.map idOf).findIdx? fun b=>b==id).bind fun k=>la[k]?:=by
 induction la with
 | nil=>rfl
 | cons a la ih =>
  rw [List.find?_cons,List.map_cons,List.findIdx?_cons]
  cases h:idOf a==id
  ·simp only [ih,zaz,if_false]
   cases (la.map idOf).findIdx? fun b=>b==id <;> simp
  ·simp
end
section
variable {S:ySM} {X:DK} {α:Type} {g:α->List IV} {idOf:α->Int} {eqv:α->α->Bool} {idf:FuncId} {nn:Int} {fs:List IV} {nf:Nat} {tf:Bool}
theorem ZD {p:Int->Bool} {l:List Int} {i:Nat} {x:Int} (hx:l[i]?=some x):((l.take (i+1)).filter p).map (fun id=>(nn,id))=((l.take i).filter p).map (fun id=>(nn,id))++(if p x then [(nn,x)] else []):=by
 rw [List.take_add_one,hx,Option.toList_some,List.filter_append,List.map_append]
 congr 1
 cases h:p x <;> simp [h]
theorem dif_run (hS:NoS S) {Nc:Nat} (hP:PowOK S Nc) (hL:LenOK S Nc) (h4:4<=Nc) (hX:DkOK S X) (hz:X.z.length=X.sz) (hg:∀ a,(g a).length=X.sz) (hgs:∀ a,(g a).all IV.scalar=true) (hgf:∀ a,∀ x∈g a,Fz 6 x) (hzs:X.z.all IV.scalar=true) (hid:∀ x,GivesN S 4 idf [.agg (g x)] (.int .i64 (idOf x)))
  (la lb:SlOf X.sz g) (heq:∀ x∈la.l,∀ y∈lb.l,GivesN S 60020 X.eqn [kindV nn idf fs nf tf,.agg (g x),.agg (g y)] (.bool (eqv x y))) (ha:la.l.length<=1000) (hb:lb.l.length<=1000) {m d id:Nat} {out:yLM} {ownV own:yLO} (hm:Nc+300000<=m) (hid0:own[id]?=some .free) :
  ∃ r,callN Ftab S m d out ownV own id X.dif [kindV nn idf fs nf tf,la.v,lb.v]=some r/\OwnRes cfc 2 (difL idOf eqv nn la.l lb.l) d id own r:=by
 obtain ⟨m,rfl⟩:∃ q,m=q+2:=⟨m - 2,by omega⟩
 refine zT (i:=cDif X) (hX.dif.1 _) hX.dif.2 (show (1:Nat)≠2/\(1:Nat)≠3 by decide) (zam rfl) fun t hfr=>?_
 simp only [slotsOf,za,zb,zap,Nat.reduceAdd,cDif,kindV] at hfr
 generalize (fun l=>if l=d then ownV else out l:yLM)=out2
 have fin:∀ (t':List IV) (Pre J:yLO) (lv:IV),OwnJ cfc 2 (d+1) Pre.length J lv (difL idOf eqv nn la.l lb.l)->Slots 61 t' [(6,lv)]->(Out.ret=.normal∨Out.ret=.ret)/\∃ v r,resultI (d+1) out2 ⟨t',Pre++J⟩ (cDif X).res=some v/\leave (m+1) d (Pre++J) own id (cDif X).mode v=some r/\OwnRes cfc 2 (difL idOf eqv nn la.l lb.l) d id own r:=fun t' Pre J lv hO ht=>by
  simp only [za,zb] at ht
  obtain ⟨r,hr1,hr2⟩:=leave_own (n:=m) ym cfc_fz hO hid0
  refine ⟨.inr rfl,lv,r,?_,hr1,hr2⟩
  simp only [cDif,V0,sevalprocAttr,ht]
 suffices hsuf:∀ K:yKM,(∀ (t':List IV) (Pre J:yLO) (lv:IV),OwnJ cfc 2 (d+1) Pre.length J lv (difL idOf eqv nn la.l lb.l)->Slots 61 t' [(6,lv)]->K .ret ⟨t',Pre++J⟩)->Ex (callN Ftab S (m+1)) (d+1) out2 (m+1) (cDif X).body K ⟨t,[]⟩ from hsuf _ fin
 clear fin
 intro K fin
 have hlen:([la,lb].flatMap fun l=>l.l.map idOf).length<65536:=by
  simp only [zbg,List.flatMap_nil,zaw,zbi,zbc]
  omega
 have ca:=fun d out ownV own id=>idx_run (nn:=nn) (fs:=fs) (nf:=nf) (tf:=tf) hX hg hgs hgf hid la (m+1) (by omega) d out ownV own id
 have cb:=fun d out ownV own id=>idx_run (nn:=nn) (fs:=fs) (nf:=nf) (tf:=tf) hX hg hgs hgf hid lb (m+1) (by omega) d out ownV own id
 have ci:=fun d out ownV own id=>ids_run (nn:=nn) (fs:=fs) (nf:=nf) (tf:=tf) hS hP hL h4 hX hz hg hgs hzs hid [la,lb] true hlen (zam rfl) (m+1) (by omega) d out ownV own id
 have hIA:idxTo (la.l.map idOf) la.l.length=idxTo (la.l.map idOf) la.l.length:=rfl
 have lka:∀ id,lkM none (idxTo (la.l.map idOf) la.l.length) id=(la.l.map idOf).findIdx? fun b=>b==id:=fun id=>by
  rw [lk_idx,za0 (by rw [zbi]; exact zaq _)]
 have lkb:∀ id,lkM none (idxTo (lb.l.map idOf) lb.l.length) id=(lb.l.map idOf).findIdx? fun b=>b==id:=fun id=>by
  rw [lk_idx,za0 (by rw [zbi]; exact zaq _)]
 generalize idxTo (la.l.map idOf) la.l.length=IA at ca lka
 generalize idxTo (lb.l.map idOf) lb.l.length=IB at cb lkb
 have hq0:=slN_l (nrm ([la,lb].flatMap fun l=>l.l.map idOf)) (Zm hlen)
 generalize slN (nrm ([la,lb].flatMap fun l=>l.l.map idOf)) (Zm hlen)=q at ci hq0
 have hq:q.l=nrm (la.l.map idOf++lb.l.map idOf):=by rw [hq0]; simp
 have hql:q.l.length<=2000:=by
  rw [hq]
  have:=yv (la.l.map idOf++lb.l.map idOf)
  rw [zaw,zbi,zbi] at this
  omega
 have hD:difL idOf eqv nn la.l lb.l=((q.l.take q.l.length).filter (difB idOf eqv la.l lb.l)).map fun id=>(nn,id):=by
  rw [List.take_length,hq]
  rfl
 simp only [kindV,List.map_cons,List.map_nil,zau,zbc] at ca cb ci
 simp only [cDif,V0,sevalprocAttr,hfr,ca,cb]
 refine ⟨by simp [comm],?_⟩
 simp only [V0,sevalprocAttr,hfr]
 have fillL2:∀ z a b:IV,(if 1<=(rep [z] 2).length then if 2<=(wrN (rep [z] 2) 0 [a]).length then some (wrN (wrN (rep [z] 2) 0 [a]) 1 [b]) else none else none)=some [a,b]:=fun z a b=>rfl
 simp only [fillL2,V0,sevalprocAttr,hfr,ci]
 refine zd (fun jj st=>∃ (i:Nat) (J:yLO) (lv:IV),q.l.length - i<=jj/\i<=q.l.length/\OwnJ cfc 2 (d+1) 1 J lv (((q.l.take i).filter (difB idOf eqv la.l lb.l)).map fun id=>(nn,id))/\st.own=.cells [.int .i64 nn,.fn idf [] [],.slC fs nf 2 tf]::J/\Slots 61 st.t [(3,.ptrM (d+1) 0 0),(6,lv),(7,.mapC (mKs IA) (mVs (pxV (la.l.flatMap g) X.sz) IA)),(8,.mapC (mKs IB) (mVs (pxV (lb.l.flatMap g) X.sz) IB)),(23,q.v),(24,iv (q.l.length:Nat)),(25,iv i)]) q.l.length (by omega) ⟨0,_,.nilsl,by omega,by omega,.inl ⟨rfl,rfl⟩,rfl,by simp only [V0,sevalprocAttr,hfr,ci,zbe]⟩ ?_
 clear hfr
 rintro jj ⟨t,own1⟩ KA ⟨i,J,lv,hjj,hi,hO,ho,hfr⟩ hnA heA hrA
 dsimp only at ho hfr
 subst ho
 simp only [za,zb,zg] at hfr
 by_cases h:i<q.l.length
 rotate_left
 ·simp only [V0,sevalprocAttr,hfr,h]
  refine heA _ _ ?_
  obtain rfl:i=q.l.length:=by omega
  rw [← hD] at hO
  simp only [V0,sevalprocAttr,hfr]
  exact fin _ [_] J lv hO (by simp only [V0,sevalprocAttr,hfr])
 have hx:q.l[i]?=some q.l[i]:=zak h
 generalize q.l[i]=z at hx
 have hrx:rdN (q.l.flatMap intc) (i*1) 1=some [.int .i64 z]:=ze zi 0 1 hx (by omega)
 have hw:wrapI .i64 ((i:Int)+1)=((i+1:Nat):Int):=zk (by omega) (by omega)
 have hst:=ZD (nn:=nn) (p:=difB idOf eqv la.l lb.l) hx
 have evA:∀ (C:Call) (n0:Nat) (ownV own:yLO) (t:List IV) (a b:Opd),ρ t a=.mapC (mKs IA) (mVs (pxV (la.l.flatMap g) X.sz) IA)->ρ t b=.int .i64 z->evOp C (d+1) out2 n0 ownV own t (.lookup .nilptr (false,[1]) false a b)=some (.p,pxV (la.l.flatMap g) X.sz (lkM none IA z),own):=fun C n0 ownV own t a b h1 h2=>ev_lookC (u:=pxV (la.l.flatMap g) X.sz) none z rfl h1 h2
 have evB:∀ (C:Call) (n0:Nat) (ownV own:yLO) (t:List IV) (a b:Opd),ρ t a=.mapC (mKs IB) (mVs (pxV (lb.l.flatMap g) X.sz) IB)->ρ t b=.int .i64 z->evOp C (d+1) out2 n0 ownV own t (.lookup .nilptr (false,[1]) false a b)=some (.p,pxV (lb.l.flatMap g) X.sz (lkM none IB z),own):=fun C n0 ownV own t a b h1 h2=>ev_lookC (u:=pxV (lb.l.flatMap g) X.sz) none z rfl h1 h2
 have fa:=find_ix (idOf:=idOf) (la:=la.l) (id:=z)
 have fb:=find_ix (idOf:=idOf) (la:=lb.l) (id:=z)
 rw [← lka] at fa
 rw [← lkb] at fb
 have ft:(false != true)=true:=rfl
 have ff:(false != false)=false:=rfl
 have hlt:(((q.l.take i).filter (difB idOf eqv la.l lb.l)).map fun id=>(nn,id)).length<=i:=by
  rw [zbi]
  have h1:=List.length_filter_le (difB idOf eqv la.l lb.l) (q.l.take i)
  rw [zbl] at h1
  omega
 obtain ⟨e,lv',J2,happ,hO2⟩:=y5 (Pre:=[.cells [.int .i64 nn,.fn idf [] [],.slC fs nf 2 tf]]) (n0:=J.length+1+1) (slot:=0) (k:=1) (out:=out2) (R:=[.free,.free]) ym hO (ys:=[(nn,z)]) (by simp) (by simp only [zau,zbc]; omega) (by simp only [zau,zbc]; omega) rfl rfl
 simp only [zbd,zbk,zbg,List.flatMap_nil,cfc,zau,zbc,zbv,zap] at happ
 have hrd:∀ (l:SlOf X.sz g) (k:Nat) (x:α),l.l[k]?=some x->rdN (l.l.flatMap g) (k*X.sz) X.sz=some (g x):=fun l k x hx=>by
  have h1:=ze hg 0 X.sz hx (by omega)
  have h2:=yK (l:=g x)
  rw [hg] at h2
  rwa [Nat.add_zero,h2] at h1
 have cI2:∀ (lk:Nat->Nat->Option IObj) (a b:IV),cellsI lk 2 (.slC [a,b] 1 2 true)=some ([a,b],1):=fun lk a b=>rfl
 cases hA:lkM none IA z with
 | none =>
  have hd:difB idOf eqv la.l lb.l z=true:=by simp only [difB,fa,hA,Option.bind_none]
  rw [hd,if_pos rfl] at hst
  rw [← hst] at hO2
  simp only [hA,pxV] at evA
  simp only [V0,sevalprocAttr,hfr,h,zc q h,hrx,evA,evB]
  refine ⟨by simp [comm],?_⟩
  simp only [V0,sevalprocAttr,hfr,eqpI,ft,bne_self_eq_false]
  refine ⟨by simp [comm],?_⟩
  simp only [V0,sevalprocAttr,hfr,rep,zp,zy,zH,cI2,happ,hw]
  exact hnA _ (q.l.length - (i+1)) (by omega) ⟨i+1,J2,lv',by omega,by omega,hO2,rfl,by simp only [V0,sevalprocAttr,hfr,h,evA,evB,eqpI,ft,cI2,happ,hw]⟩
 | some k1 =>
  have hk1:k1<la.l.length:=by
   rw [lka] at hA
   obtain ⟨hlt,_,_⟩:=List.findIdx?_eq_some_iff_getElem.1 hA
   rwa [zbi] at hlt
  have hy1:la.l[k1]?=some la.l[k1]:=zak hk1
  generalize la.l[k1]=y1 at hy1
  have hr1:=hrd la k1 y1 hy1
  simp only [hA,pxV] at evA
  cases hB:lkM none IB z with
  | none =>
   have hd:difB idOf eqv la.l lb.l z=true:=by simp only [difB,fa,fb,hA,hB,Option.bind_none,za7,hy1]
   rw [hd,if_pos rfl] at hst
   rw [← hst] at hO2
   simp only [hB,pxV] at evB
   simp only [V0,sevalprocAttr,hfr,h,zc q h,hrx,evA,evB]
   refine ⟨by simp [comm],?_⟩
   simp only [V0,sevalprocAttr,hfr,eqpI,ft,bne_self_eq_false]
   refine ⟨by simp [comm],?_⟩
   simp only [V0,sevalprocAttr,hfr,rep,zp,zy,zH,cI2,happ,hw]
   exact hnA _ (q.l.length - (i+1)) (by omega) ⟨i+1,J2,lv',by omega,by omega,hO2,rfl,by simp only [V0,sevalprocAttr,hfr,h,evA,evB,eqpI,ft,cI2,happ,hw]⟩
  | some k2 =>
   have hk2:k2<lb.l.length:=by
    rw [lkb] at hB
    obtain ⟨hlt,_,_⟩:=List.findIdx?_eq_some_iff_getElem.1 hB
    rwa [zbi] at hlt
   have hy2:lb.l[k2]?=some lb.l[k2]:=zak hk2
   generalize lb.l[k2]=y2 at hy2
   have hr2:=hrd lb k2 y2 hy2
   simp only [hB,pxV] at evB
   have hd:difB idOf eqv la.l lb.l z=!(eqv y1 y2):=by simp only [difB,fa,fb,hA,hB,za7,hy1,hy2]
   rw [hd] at hst
   have ce:=fun d out ownV own id=>heq y1 (List.mem_of_getElem? hy1) y2 (List.mem_of_getElem? hy2) (m+1) (by omega) d out ownV own id
   simp only [kindV] at ce
   cases hq:eqv y1 y2
   ·rw [hq,zbj,if_pos rfl] at hst
    rw [← hst] at hO2
    simp only [V0,sevalprocAttr,hfr,h,zc q h,hrx,evA,evB]
    refine ⟨by simp [comm],?_⟩
    simp only [V0,sevalprocAttr,hfr,eqpI,ft,bne_self_eq_false,hr1,hr2,ce,hq]
    refine ⟨by simp [comm],?_⟩
    simp only [V0,sevalprocAttr,hfr,rep,zp,zy,zH,cI2,happ,hw]
    exact hnA _ (q.l.length - (i+1)) (by omega) ⟨i+1,J2,lv',by omega,by omega,hO2,rfl,by simp only [V0,sevalprocAttr,hfr,h,evA,evB,eqpI,ft,cI2,happ,hw]⟩
   ·rw [hq,zbm,if_neg (by decide),zbv] at hst
    rw [← hst] at hO
    simp only [V0,sevalprocAttr,hfr,h,zc q h,hrx,evA,evB]
    refine ⟨by simp [comm],?_⟩
    simp only [V0,sevalprocAttr,hfr,eqpI,ft,bne_self_eq_false,hr1,hr2,ce,hq]
    refine ⟨by simp [comm],?_⟩
    simp only [V0,sevalprocAttr,hfr,hw]
    exact hnA _ (q.l.length - (i+1)) (by omega) ⟨i+1,_,lv,by omega,by omega,hO.more _,rfl,by simp only [V0,sevalprocAttr,hfr,h,evA,evB,eqpI,ft,hw]⟩
end
end
section
def dkN:DK:=⟨3,[.int .i64 0,.int .i64 0,.int .i64 0],40,41,42,19⟩
def dkA:DK:=⟨6,[.int .i64 0,.int .i64 0,.int .i64 0,.nilsl,.int .i64 0,.int .i64 0],51,52,53,21⟩
def dkF:DK:=⟨5,[.int .i64 0,.int .i64 0,.int .i64 0,.str (bs []),.nilsl],64,65,66,23⟩
section
variable {S:ySM}
theorem dkN_ok (hS:NoS S):DkOK S dkN:=by
 constructor <;> exact ⟨fun _=>hS _ _ (by decide) (by decide) (by decide) (by decide),rfl⟩
theorem dkA_ok (hS:NoS S):DkOK S dkA:=by
 constructor <;> exact ⟨fun _=>hS _ _ (by decide) (by decide) (by decide) (by decide),rfl⟩
theorem dkF_ok (hS:NoS S):DkOK S dkF:=by
 constructor <;> exact ⟨fun _=>hS _ _ (by decide) (by decide) (by decide) (by decide),rfl⟩
def fdN:List (FuncId × FuncId × (Nd->Nd->Bool)):=[(38,39,fun x y=>(x.at'.x==y.at'.x)&&(x.at'.y==y.at'.y))]
def fdA:List (FuncId × FuncId × (Ac->Ac->Bool)):=[(44,46,fun x y=>(x.fr==y.fr)&&((x.to==y.to)&&eqL ptE x.via.l y.via.l)),(47,48,fun x y=>x.l==y.l),(49,50,fun x y=>x.r==y.r)]
def fdF:List (FuncId × FuncId × (Ft->Ft->Bool)):=[(55,56,fun x y=>x.kind==y.kind),(57,58,fun x y=>x.cls==y.cls),(59,60,fun x y=>x.name.1.toList==y.name.1.toList),(61,63,fun x y=>eqL intE x.parts.l y.parts.l)]
def kdV (n:Int) (idf:FuncId) {α:Type} (F:List (FuncId × FuncId × (α->α->Bool))):IV:=kindV n idf (F.flatMap fun f=>[.fn f.1 [] [],.fn f.2.1 [] []]) F.length true
theorem zad {f:FuncId} {a b:List IV}:(IV.fn f a b).cells=[.fn f a b]:=zax rfl rfl
theorem repf1 (a b:IV):rep [a,b] 1=[a,b]:=rfl
theorem repf3 (a b:IV):rep [a,b] 3=[a,b,a,b,a,b]:=rfl
theorem repf4 (a b:IV):rep [a,b] 4=[a,b,a,b,a,b,a,b]:=rfl
theorem fne (b:Bool):(false != b)=b:=by cases b <;> rfl
theorem fnc_fz {f:FuncId}:Fz 1 (.fn f [] []):=fun m hm lv own=>by
 obtain ⟨m,rfl⟩:∃ q,m=q+1:=⟨m - 1,by omega⟩
 rfl
theorem kdV_fz {n:Int} {idf:FuncId} {α:Type} {F:List (FuncId × FuncId × (α->α->Bool))}:Fz 3 (kdV n idf F):=by
 refine fz_agg fun x hx=>?_
 simp only [za4,zbp,or_false] at hx
 rcases hx with rfl | rfl | rfl
 ·exact fun m hm lv own=>yE m (by omega) lv own
 ·exact fun m hm lv own=>fnc_fz m (by omega) lv own
 ·refine fz_slC fun x hx=>?_
  obtain ⟨a,_,h⟩:=List.mem_flatMap.1 hx
  simp only [za4,zbp,or_false] at h
  rcases h with rfl | rfl <;> exact fnc_fz
theorem nodes_run (hS:NoS S):GivesN S 10 18 [] (kdV 1 37 fdN):=by
 refine yl (i:=i18) (hS _ _ (by decide) (by decide) (by decide) (by decide)) rfl rfl (zam rfl) 9 fun m hm d out t hfr=>?_
 simp only [slotsOf,za,zb,zap,Nat.reduceAdd,i18] at hfr
 simp only [i18,V0,sevalprocAttr,hfr,zad,zq,repf1,zL]
 exact ⟨_,rfl,kdV_fz (n:=1) (idf:=37) (F:=fdN) m (by omega) _ _⟩
theorem arcs_run (hS:NoS S):GivesN S 10 20 [] (kdV 2 43 fdA):=by
 refine yl (i:=i20) (hS _ _ (by decide) (by decide) (by decide) (by decide)) rfl rfl (zam rfl) 9 fun m hm d out t hfr=>?_
 simp only [slotsOf,za,zb,zap,Nat.reduceAdd,i20] at hfr
 simp only [i20,V0,sevalprocAttr,hfr,zad,zq,repf3,zL]
 exact ⟨_,rfl,kdV_fz (n:=2) (idf:=43) (F:=fdA) m (by omega) _ _⟩
theorem feats_run (hS:NoS S):GivesN S 10 22 [] (kdV 3 54 fdF):=by
 refine yl (i:=i22) (hS _ _ (by decide) (by decide) (by decide) (by decide)) rfl rfl (zam rfl) 9 fun m hm d out t hfr=>?_
 simp only [slotsOf,za,zb,zap,Nat.reduceAdd,i22] at hfr
 simp only [i22,V0,sevalprocAttr,hfr,zad,zq,repf4,zL]
 exact ⟨_,rfl,kdV_fz (n:=3) (idf:=54) (F:=fdF) m (by omega) _ _⟩
theorem idN_run (hS:NoS S) (x:Nd):GivesN S 4 37 [.agg x.c] (.int .i64 x.id):=by
 refine zh (i:=i37) (hS _ _ (by decide) (by decide) (by decide) (by decide)) rfl rfl (zam rfl) 3 (by omega) yE fun m hm d out t hfr=>?_
 simp only [slotsOf,za,zb,zap,Nat.reduceAdd,i37,Nd.c,zg] at hfr
 simp only [i37,V0,sevalprocAttr,hfr]
theorem idA_run (hS:NoS S) (x:Ac):GivesN S 4 43 [.agg x.c] (.int .i64 x.id):=by
 refine zh (i:=i43) (hS _ _ (by decide) (by decide) (by decide) (by decide)) rfl rfl (zam rfl) 3 (by omega) yE fun m hm d out t hfr=>?_
 simp only [slotsOf,za,zb,zap,Nat.reduceAdd,i43,Ac.c,zg] at hfr
 simp only [i43,V0,sevalprocAttr,hfr]
theorem idF_run (hS:NoS S) (x:Ft):GivesN S 4 54 [.agg x.c] (.int .i64 x.id):=by
 refine zh (i:=i54) (hS _ _ (by decide) (by decide) (by decide) (by decide)) rfl rfl (zam rfl) 3 (by omega) yE fun m hm d out t hfr=>?_
 simp only [slotsOf,za,zb,zap,Nat.reduceAdd,i54,Ft.c,zg] at hfr
 simp only [i54,V0,sevalprocAttr,hfr]
theorem yo (a b c e:Int):eqvs [1,1] [.int .i64 a,.int .i64 b] [.int .i64 c,.int .i64 e]=some ((a==c)&&(b==e)):=by
 simp only [eqvs,eqv]
 cases h1:a==c <;> cases h2:b==e <;> simp [h1,h2]
theorem atN_run (hS:NoS S) (x y:Nd):GivesN S 60000 38 [.agg x.c,.agg y.c] (.bool ((x.at'.x==y.at'.x)&&(x.at'.y==y.at'.y))):=by
 refine zh (i:=i38) (hS _ _ (by decide) (by decide) (by decide) (by decide)) rfl rfl (zam rfl) 59999 (by omega) zm fun m hm d out t hfr=>?_
 simp only [slotsOf,za,zb,zap,Nat.reduceAdd,i38,Nd.c,zg] at hfr
 simp only [i38,V0,sevalprocAttr,hfr,yo,fne]
theorem endsA_run (hS:NoS S) (x y:Ac) (hv:x.via.l.length<=50000):GivesN S 60000 44 [.agg x.c,.agg y.c] (.bool ((x.fr==y.fr)&&((x.to==y.to)&&eqL ptE x.via.l y.via.l))):=by
 refine zh (i:=i44) (hS _ _ (by decide) (by decide) (by decide) (by decide)) rfl rfl (zam rfl) 59999 (by omega) zm fun m hm d out t hfr=>?_
 simp only [slotsOf,za,zb,zap,Nat.reduceAdd,i44,Ac.c,zg] at hfr
 have ce:=fun d out ownV own id=>at_eqP hS x.via y.via m (by omega) d out ownV own id
 cases h1:x.fr==y.fr
 ·simp only [i44,V0,sevalprocAttr,hfr,h1,Bool.false_and]
 ·cases h2:x.to==y.to
  ·simp only [i44,V0,sevalprocAttr,hfr,h1,h2,Bool.false_and]
  ·simp only [i44,V0,sevalprocAttr,hfr,h1,h2,ce]
theorem leftA_run (hS:NoS S) (x y:Ac):GivesN S 60000 47 [.agg x.c,.agg y.c] (.bool (x.l==y.l)):=by
 refine zh (i:=i47) (hS _ _ (by decide) (by decide) (by decide) (by decide)) rfl rfl (zam rfl) 59999 (by omega) zm fun m hm d out t hfr=>?_
 simp only [slotsOf,za,zb,zap,Nat.reduceAdd,i47,Ac.c,zg] at hfr
 simp only [i47,V0,sevalprocAttr,hfr]
theorem rightA_run (hS:NoS S) (x y:Ac):GivesN S 60000 49 [.agg x.c,.agg y.c] (.bool (x.r==y.r)):=by
 refine zh (i:=i49) (hS _ _ (by decide) (by decide) (by decide) (by decide)) rfl rfl (zam rfl) 59999 (by omega) zm fun m hm d out t hfr=>?_
 simp only [slotsOf,za,zb,zap,Nat.reduceAdd,i49,Ac.c,zg] at hfr
 simp only [i49,V0,sevalprocAttr,hfr]
theorem kindF_run (hS:NoS S) (x y:Ft):GivesN S 60000 55 [.agg x.c,.agg y.c] (.bool (x.kind==y.kind)):=by
 refine zh (i:=i55) (hS _ _ (by decide) (by decide) (by decide) (by decide)) rfl rfl (zam rfl) 59999 (by omega) zm fun m hm d out t hfr=>?_
 simp only [slotsOf,za,zb,zap,Nat.reduceAdd,i55,Ft.c,zg] at hfr
 simp only [i55,V0,sevalprocAttr,hfr]
theorem clsF_run (hS:NoS S) (x y:Ft):GivesN S 60000 57 [.agg x.c,.agg y.c] (.bool (x.cls==y.cls)):=by
 refine zh (i:=i57) (hS _ _ (by decide) (by decide) (by decide) (by decide)) rfl rfl (zam rfl) 59999 (by omega) zm fun m hm d out t hfr=>?_
 simp only [slotsOf,za,zb,zap,Nat.reduceAdd,i57,Ft.c,zg] at hfr
 simp only [i57,V0,sevalprocAttr,hfr]
theorem nameF_run (hS:NoS S) (x y:Ft):GivesN S 60000 59 [.agg x.c,.agg y.c] (.bool (x.name.1.toList==y.name.1.toList)):=by
 refine zh (i:=i59) (hS _ _ (by decide) (by decide) (by decide) (by decide)) rfl rfl (zam rfl) 59999 (by omega) zm fun m hm d out t hfr=>?_
 simp only [slotsOf,za,zb,zap,Nat.reduceAdd,i59,Ft.c,zg] at hfr
 simp only [i59,V0,sevalprocAttr,hfr,strBin]
theorem partsF_run (hS:NoS S) (x y:Ft) (hv:x.parts.l.length<=50000):GivesN S 60000 61 [.agg x.c,.agg y.c] (.bool (eqL intE x.parts.l y.parts.l)):=by
 refine zh (i:=i61) (hS _ _ (by decide) (by decide) (by decide) (by decide)) rfl rfl (zam rfl) 59999 (by omega) zm fun m hm d out t hfr=>?_
 simp only [slotsOf,za,zb,zap,Nat.reduceAdd,i61,Ft.c,zg] at hfr
 have ce:=fun d out ownV own id=>at_eqI hS x.parts y.parts m (by omega) d out ownV own id
 simp only [i61,V0,sevalprocAttr,hfr,ce]
end
end
section
theorem Zv {d n0 b:Nat} {out:yLM} {vis:List Nat} {own:yLO} (h:b<n0∨vis.contains (b - n0)=true):look d out (hide vis n0 own) d b=own[b]?:=by
 unfold look
 rw [if_pos rfl,zI]
 have hc:(decide (b<n0)||vis.contains (b - n0))=true:=by
  rcases h with h | h
  ·simp [h]
  ·rw [h,Bool.or_true]
 cases own[b]? with
 | none=>rfl
 | some o=>simp only [za5,hc,if_true]
section
variable {α:Type} {g:α->List IV} {sz:Nat}
theorem app_two (hs:∀ a,(g a).length=sz) {d:Nat} {out:yLM} {a b Y:IObj} {J:yLO} {lv lv2:IV} {xs ys:List α} (h:OwnJ g sz d 2 J lv xs) (hx:xs.length+ys.length<=1073741824) (hsc:(ys.flatMap g).all IV.scalar=true)
  (h2:(ys=[]/\lv2=.nilsl)∨(ys≠[]/\lv2=.slM d (J.length+1+1+1) 0 ys.length ys.length sz false/\Y=.cells (ys.flatMap g))) :
  (cellsI (look d out (hide [0,1] (J.length+1+1) (a::b::(J++[.free,Y,.free])))) sz lv2=some (ys.flatMap g,ys.length)) /\
  ∃ e lv' J2,appendI d (J.length+1+1) (look d out (hide [0,1] (J.length+1+1) (a::b::(J++[.free,Y,.free])))) (a::b::(J++[.free,Y,.free])) sz lv (ys.flatMap g) ys.length 2=some (e,lv',a::b::J2)/\OwnJ g sz d 2 J2 lv' (xs++ys):=by
 rcases h2 with ⟨rfl,rfl⟩ | ⟨hne,rfl,rfl⟩
 ·refine ⟨rfl,?_⟩
  rcases h with ⟨rfl,rfl⟩ | ⟨k,hne,rfl,hk⟩
  ·exact ⟨_,_,J++[.free,Y,.free],rfl,.inl ⟨rfl,rfl⟩⟩
  ·refine ⟨_,_,J++[.free,Y,.free],rfl,.inr ⟨k,by simpa using hne,by simp,?_⟩⟩
   rw [zar (zal.1 hk).1,zbv]
   exact hk
 ·have hn:ys.length≠0:=fun h=>hne (List.eq_nil_of_length_eq_zero h)
  have hg0:∀ (Z:IObj) (J':yLO) k,(a::b::(J'++[Z,.cells (ys.flatMap g),.free]))[J'.length+1+1+1+k]?=[IObj.cells (ys.flatMap g),.free][k]?:=fun Z J' k=>by
   rw [show J'.length+1+1+1+k=(J'.length+(k+1))+1+1 by omega,za1,za1,zas (by omega),zbr]
   rfl
  have hl1:look d out (hide [0,1] (J.length+1+1) (a::b::(J++[.free,.cells (ys.flatMap g),.free]))) d (J.length+1+1+1)=some (.cells (ys.flatMap g)):=by
   rw [Zv (.inr (by simp [zbr])),show J.length+1+1+1=J.length+1+1+1+0 by omega,hg0]
   rfl
  have hseg:seg (ys.flatMap g) 0 (ys.length*sz)=some (ys.flatMap g):=by
   unfold seg
   rw [zf,zn hs,if_pos (by omega),List.drop_zero,za0 (by rw [zn hs]; exact zaq _)]
  have hfree:(a::b::(J++[IObj.free,.cells (ys.flatMap g),.free]))[J.length+1+1+2]?=some .free:=hg0 .free J 1
  refine ⟨by simp only [cellsI,hl1,hseg,za5],?_⟩
  have hset:∀ (J':yLO),J'.length=J.length->∀ O,(a::b::(J'++[IObj.free,.cells (ys.flatMap g),.free])).set (J.length+1+1+2) O=a::b::(J'++[.free,.cells (ys.flatMap g),O]):=fun J' hJ O=>by
   rw [← hJ,show J'.length+1+1+2=(J'.length+2)+1+1 by omega,List.set_cons_succ,List.set_cons_succ,List.set_append_right _ _ (by omega),zbr]
   rfl
  have hres:∀ (J':yLO) (c:List IV),J'.length=J.length->(J'++[IObj.free,.cells (ys.flatMap g),.cells c])[J.length+2]?=some (.cells c):=fun J' c hJ=>by
   rw [← hJ,zas (by omega),zbr]
   rfl
  rcases h with ⟨rfl,rfl⟩ | ⟨k,hne2,rfl,hk⟩
  ·rw [app_nil hn (by unfold bound; simp at hx; omega)]
   unfold mkAt
   rw [hfree]
   simp only [zf,hset J rfl]
   refine ⟨_,_,_,rfl,.inr ⟨J.length+2,by simpa using hne,?_,hres J _ rfl⟩⟩
   rw [show J.length+1+1+2=2+(J.length+2) by omega]
   rfl
  ·have hkl:=(zal.1 hk).1
   have hgk:(a::b::(J++[IObj.free,.cells (ys.flatMap g),.free]))[2+k]?=some (.cells (xs.flatMap g)):=by
    rw [show 2+k=k+1+1 by omega,za1,za1,zar hkl]
    exact hk
   have hsk:(a::b::(J++[IObj.free,.cells (ys.flatMap g),.free])).set (2+k) .gone=a::b::(J.set k .gone++[.free,.cells (ys.flatMap g),.free]):=by
    rw [show 2+k=k+1+1 by omega,List.set_cons_succ,List.set_cons_succ,List.set_append_left _ _ hkl]
   rw [Z4 hn hx (zn hs) hsc (by rw [Zv (.inl (by omega))]; exact hgk)]
   unfold killAt
   rw [hfree]
   simp only [zf,hsk,hset _ List.length_set]
   refine ⟨_,_,_,rfl,.inr ⟨J.length+2,fun e=>hne2 (List.append_eq_nil_iff.1 e).1,?_,?_⟩⟩
   ·rw [show J.length+1+1+2=2+(J.length+2) by omega,zaw]
   ·rw [hres _ _ List.length_set,List.flatMap_append]
end
section
variable {S:ySM}
def nodeB (x y:Nd):Bool:=fdN.all fun f=>f.2.2 x y
def arcB (x y:Ac):Bool:=fdA.all fun f=>f.2.2 x y
def ftB (x y:Ft):Bool:=fdF.all fun f=>f.2.2 x y
structure Sm (s:Sv):Prop where
 ns:s.pl.ns.l.length<=40
 ar:s.pl.as.l.length<=40
 via:∀ a∈s.pl.as.l,a.via.l.length<=300
 ft:s.ft.l.length<=20
 parts:∀ f∈s.ft.l,f.parts.l.length<=70
theorem nd_fz6 (a:Nd):∀ x∈a.c,Fz 6 x:=fun x hx=>by
 refine cl_fz (n:=6) ?_
 simp only [Nd.c,zg,za4,zbp,or_false] at hx
 rcases hx with rfl | rfl | rfl <;> rfl
theorem ac_fz6 (a:Ac):∀ x∈a.c,Fz 6 x:=fun x hx=>by
 refine cl_fz (n:=6) ?_
 simp only [Ac.c,zg,za4,zbp,or_false] at hx
 rcases hx with rfl | rfl | rfl | rfl | rfl | rfl <;> first | rfl | exact pts_cl a.via 4
theorem ft_fz6 (a:Ft):∀ x∈a.c,Fz 6 x:=fun x hx m hm lv own=>ft_fz a x hx m (by omega) lv own
theorem ac_sc (a:Ac):a.c.all IV.scalar=true:=by
 rw [zbu]
 intro x h
 simp only [Ac.c,zg,za4,zbp,or_false] at h
 rcases h with rfl | rfl | rfl | rfl | rfl | rfl <;> first | rfl | exact YE _
theorem ft_sc (a:Ft):a.c.all IV.scalar=true:=by
 rw [zbu]
 intro x h
 simp only [Ft.c,zg,za4,zbp,or_false] at h
 rcases h with rfl | rfl | rfl | rfl | rfl <;> first | rfl | exact YE _
theorem difN_run (hS:NoS S) {Nc:Nat} (hP:PowOK S Nc) (hL:LenOK S Nc) (h4:4<=Nc) (s u:Sv) (hs:Sm s) (hu:Sm u) {m d id:Nat} {out:yLM} {ownV own:yLO} (hm:Nc+300000<=m) (hid:own[id]?=some .free) :
  ∃ r,callN Ftab S m d out ownV own id 19 [kdV 1 37 fdN,s.pl.ns.v,u.pl.ns.v]=some r/\OwnRes cfc 2 (difL Nd.id nodeB 1 s.pl.ns.l u.pl.ns.l) d id own r :=
 dif_run (X:=dkN) (g:=Nd.c) hS hP hL h4 (dkN_ok hS) rfl Nd.c_len (fun a=>rfl) nd_fz6 rfl (idN_run hS) s.pl.ns u.pl.ns (fun x _ y _=>eqn_run (X:=dkN) (dkN_ok hS) (fun a=>rfl) Nd.c_len fdN (by decide) x y fun f hf=>by
  simp only [fdN,za4,zbp,or_false] at hf
  subst hf
  exact atN_run hS x y) (by have:=hs.ns; omega) (by have:=hu.ns; omega) hm hid
theorem difA_run (hS:NoS S) {Nc:Nat} (hP:PowOK S Nc) (hL:LenOK S Nc) (h4:4<=Nc) (s u:Sv) (hs:Sm s) (hu:Sm u) {m d id:Nat} {out:yLM} {ownV own:yLO} (hm:Nc+300000<=m) (hid:own[id]?=some .free) :
  ∃ r,callN Ftab S m d out ownV own id 21 [kdV 2 43 fdA,s.pl.as.v,u.pl.as.v]=some r/\OwnRes cfc 2 (difL Ac.id arcB 2 s.pl.as.l u.pl.as.l) d id own r :=
 dif_run (X:=dkA) (g:=Ac.c) hS hP hL h4 (dkA_ok hS) rfl Ac.c_len ac_sc ac_fz6 rfl (idA_run hS) s.pl.as u.pl.as (fun x hx y _=>eqn_run (X:=dkA) (dkA_ok hS) ac_sc Ac.c_len fdA (by decide) x y fun f hf=>by
  simp only [fdA,za4,zbp,or_false] at hf
  rcases hf with rfl | rfl | rfl
  ·exact endsA_run hS x y (by have:=hs.via x hx; omega)
  ·exact leftA_run hS x y
  ·exact rightA_run hS x y) (by have:=hs.ar; omega) (by have:=hu.ar; omega) hm hid
theorem difF_run (hS:NoS S) {Nc:Nat} (hP:PowOK S Nc) (hL:LenOK S Nc) (h4:4<=Nc) (s u:Sv) (hs:Sm s) (hu:Sm u) {m d id:Nat} {out:yLM} {ownV own:yLO} (hm:Nc+300000<=m) (hid:own[id]?=some .free) :
  ∃ r,callN Ftab S m d out ownV own id 23 [kdV 3 54 fdF,s.ft.v,u.ft.v]=some r/\OwnRes cfc 2 (difL Ft.id ftB 3 s.ft.l u.ft.l) d id own r :=
 dif_run (X:=dkF) (g:=Ft.c) hS hP hL h4 (dkF_ok hS) rfl Ft.c_len ft_sc ft_fz6 rfl (idF_run hS) s.ft u.ft (fun x hx y _=>eqn_run (X:=dkF) (dkF_ok hS) ft_sc Ft.c_len fdF (by decide) x y fun f hf=>by
  simp only [fdF,za4,zbp,or_false] at hf
  rcases hf with rfl | rfl | rfl | rfl
  ·exact kindF_run hS x y
  ·exact clsF_run hS x y
  ·exact nameF_run hS x y
  ·exact partsF_run hS x y (by have:=hs.parts x hx; omega)) (by have:=hs.ft; omega) (by have:=hu.ft; omega) hm hid
def difS (s u:Sv):List (Int × Int):=difL Nd.id nodeB 1 s.pl.ns.l u.pl.ns.l++difL Ac.id arcB 2 s.pl.as.l u.pl.as.l++difL Ft.id ftB 3 s.ft.l u.ft.l
theorem y7 {α:Type} {idOf:α->Int} {eqv:α->α->Bool} {nn:Int} {la lb:List α}:(difL idOf eqv nn la lb).length<=la.length+lb.length:=by
 unfold difL
 rw [zbi]
 have h1:=List.length_filter_le (difB idOf eqv la lb) (nrm (la.map idOf++lb.map idOf))
 have h2:=yv (la.map idOf++lb.map idOf)
 rw [zaw,zbi,zbi] at h2
 omega
theorem cfc_sc (xs:List (Int × Int)):(xs.flatMap cfc).all IV.scalar=true:=by
 rw [zbu]
 intro x hx
 obtain ⟨a,_,h⟩:=List.mem_flatMap.1 hx
 simp only [cfc,za4,zbp,or_false] at h
 rcases h with rfl | rfl <;> rfl
theorem res_two {xs:List (Int × Int)} {d:Nat} {a b:IObj} {J:yLO} {r:Eff × IV × yLO} (h:OwnRes cfc 2 xs d (J.length+1+1+1) (a::b::(J++[.free,.free,.free])) r):∃ e lv Y,r=(e,lv,a::b::(J++[.free,Y,.free]))/\((xs=[]/\lv=.nilsl)∨(xs≠[]/\lv=.slM d (J.length+1+1+1) 0 xs.length xs.length 2 false/\Y=.cells (xs.flatMap cfc))):=by
 rcases h with ⟨h1,rfl⟩ | ⟨h1,rfl⟩
 ·exact ⟨_,_,.free,rfl,.inl ⟨h1,rfl⟩⟩
 ·refine ⟨.a,.slM d (J.length+1+1+1) 0 xs.length xs.length 2 false,.cells (xs.flatMap cfc),?_,.inr ⟨h1,rfl,rfl⟩⟩
  rw [show J.length+1+1+1=(J.length+1)+1+1 by omega,List.set_cons_succ,List.set_cons_succ,List.set_append_right _ _ (by omega),zbr]
  rfl
theorem differing_run (hS:NoS S) {Nc:Nat} (hP:PowOK S Nc) (hL:LenOK S Nc) (h4:4<=Nc) (s u:Sv) (hs:Sm s) (hu:Sm u):∃ q:SlOf 2 cfc,q.l=difS s u/\GivesN S (Nc+400000) 8 [.agg s.c,.agg u.c] q.v:=by
 have hlen:(difS s u).length<9223372036854775808:=by
  have h1:=y7 (idOf:=Nd.id) (eqv:=nodeB) (nn:=1) (la:=s.pl.ns.l) (lb:=u.pl.ns.l)
  have h2:=y7 (idOf:=Ac.id) (eqv:=arcB) (nn:=2) (la:=s.pl.as.l) (lb:=u.pl.as.l)
  have h3:=y7 (idOf:=Ft.id) (eqv:=ftB) (nn:=3) (la:=s.ft.l) (lb:=u.ft.l)
  have:=hs.ns; have:=hs.ar; have:=hs.ft; have:=hu.ns; have:=hu.ar; have:=hu.ft
  unfold difS
  rw [zaw,zaw]
  omega
 have few:∀ (la lb:List (Int × Int)),List.Sublist (la++lb) (difS s u)->la.length+lb.length<=1073741824:=fun la lb h=>by
  have h0:=h.length_le
  have h1:=y7 (idOf:=Nd.id) (eqv:=nodeB) (nn:=1) (la:=s.pl.ns.l) (lb:=u.pl.ns.l)
  have h2:=y7 (idOf:=Ac.id) (eqv:=arcB) (nn:=2) (la:=s.pl.as.l) (lb:=u.pl.as.l)
  have h3:=y7 (idOf:=Ft.id) (eqv:=ftB) (nn:=3) (la:=s.ft.l) (lb:=u.ft.l)
  have:=hs.ns; have:=hs.ar; have:=hs.ft; have:=hu.ns; have:=hu.ar; have:=hu.ft
  unfold difS at h0
  rw [zaw,zaw,zaw] at h0
  omega
 refine ⟨rowQ ym (difS s u) hlen,rowQ_l ..,?_⟩
 refine yl (i:=i8) (hS _ _ (by decide) (by decide) (by decide) (by decide)) rfl rfl (zam rfl) (Nc+399999) fun m hm d out t hfr=>?_
 simp only [slotsOf,za,zb,zap,Nat.reduceAdd,i8,Sv.c] at hfr
 have cn:=fun d out ownV own id=>nodes_run hS m (by omega) d out ownV own id
 have ca:=fun d out ownV own id=>arcs_run hS m (by omega) d out ownV own id
 have cf:=fun d out ownV own id=>feats_run hS m (by omega) d out ownV own id
 generalize hkn:kdV 1 37 fdN=kn at cn
 generalize hka:kdV 2 43 fdA=ka at ca
 generalize hkf:kdV 3 54 fdF=kf at cf
 have r1:=fun ownV own id hid=>difN_run hS hP hL h4 s u hs hu (m:=m) (d:=d) (id:=id) (out:=out) (ownV:=ownV) (own:=own) (by omega) hid
 have r2:=fun ownV own id hid=>difA_run hS hP hL h4 s u hs hu (m:=m) (d:=d) (id:=id) (out:=out) (ownV:=ownV) (own:=own) (by omega) hid
 have r3:=fun ownV own id hid=>difF_run hS hP hL h4 s u hs hu (m:=m) (d:=d) (id:=id) (out:=out) (ownV:=ownV) (own:=own) (by omega) hid
 rw [hkn] at r1
 rw [hka] at r2
 rw [hkf] at r3
 generalize hA:IObj.cells [s.pl.ns.v,s.pl.as.v,s.pl.fs.v,s.ft.v]=A
 generalize hB:IObj.cells [u.pl.ns.v,u.pl.as.v,u.pl.fs.v,u.ft.v]=B
 obtain ⟨w1,c1,ho1⟩:=r1 (hide [0] 2 [A,B,.free,.free]) [A,B,.free,.free] 3 rfl
 obtain ⟨e1,lv1,J1,hw1,hO1⟩:∃ e lv J,w1=(e,lv,A::B::J)/\OwnJ cfc 2 d 2 J lv (difL Nd.id nodeB 1 s.pl.ns.l u.pl.ns.l):=by
  rcases ho1 with ⟨h1,rfl⟩ | ⟨h1,rfl⟩
  ·exact ⟨_,_,_,rfl,.inl ⟨h1,rfl⟩⟩
  ·exact ⟨_,_,[.free,.cells _],rfl,.inr ⟨1,h1,rfl,rfl⟩⟩
 subst hw1
 obtain ⟨w2,c2,ho2⟩:=r2 (hide [0] (J1.length+1+1) (A::B::(J1++[.free,.free,.free]))) (A::B::(J1++[.free,.free,.free])) (J1.length+1+1+1) (by
  rw [za1,za1,zas (by omega),zbr]
  rfl)
 obtain ⟨e2,lv2,Y2,rfl,hY2⟩:=res_two ho2
 obtain ⟨ci2,e3,lv3,J2,ap2,hO2⟩:=app_two (out:=out) (a:=A) (b:=B) ym hO1 (few _ _ (List.sublist_append_left ..)) (cfc_sc _) hY2
 obtain ⟨w3,c3,ho3⟩:=r3 (hide [0] (J2.length+1+1) (A::B::(J2++[.free,.free,.free]))) (A::B::(J2++[.free,.free,.free])) (J2.length+1+1+1) (by
  rw [za1,za1,zas (by omega),zbr]
  rfl)
 obtain ⟨e4,lv4,Y3,rfl,hY3⟩:=res_two ho3
 obtain ⟨ci3,e5,lv5,J3,ap3,hO3⟩:=app_two (out:=out) (a:=A) (b:=B) ym hO2 (few _ _ (List.Sublist.refl _)) (cfc_sc _) hY3
 subst hA hB
 simp only [i8,V0,sevalprocAttr,hfr,cn,c1]
 refine ⟨by simp [comm],?_⟩
 simp only [V0,sevalprocAttr,hfr,ca,c2,zp,zy,ci2,zH,ap2]
 refine ⟨by simp [comm],?_⟩
 simp only [V0,sevalprocAttr,hfr,cf,c3,zp,zy,ci3,zH,ap3]
 refine ⟨by simp [comm],?_⟩
 simp only [V0,sevalprocAttr,hfr,zL]
 exact ⟨_,rfl,ownJ_fz (Pre:=[_,_]) ym cfc_fz (by omega) hlen hO3⟩
end
end
section
theorem ins_mem {n:Int}:∀ {l:List Int},l.Pairwise (·<·)->n∈l->insI n l=l
 | [],_,h=>by cases h
 | x::l,hp,h=>by
  have h2:=zbx.1 hp
  unfold insI
  rcases za4.1 h with rfl | h
  ·rw [if_neg (by omega),if_pos rfl]
  ·have:=h2.1 n h
   rw [if_pos this,ins_mem h2.2 h]
theorem nrm_step (n:Int):∀ l:List Int,(insI n l).length<=l.length+1
 | []=>by simp [insI]
 | x::l=>by
  have:=nrm_step n l
  unfold insI
  split
  ·simp only [zau]; omega
  ·split <;> simp only [zau] <;> omega
theorem ins_at {n:Int}:∀ {l:List Int} {i:Nat},i<=l.length->n ∉ l->(∀ j x,j<i->l[j]?=some x->x<n)->(∀ x,l[i]?=some x->¬ x<n)->insI n l=l.take i++n::l.drop i
 | [],i,hi,_,_,_=>by
  obtain rfl:i=0:=by simpa using hi
  rfl
 | x::l,0,_,hn,_,h2=>by
  have:=h2 x rfl
  unfold insI
  rw [if_neg this,if_neg (fun e=>hn (by rw [e]; exact zbn ..))]
  rfl
 | x::l,i+1,hi,hn,h1,h2=>by
  have:=h1 0 x (by omega) rfl
  unfold insI
  rw [if_pos this,ins_at (i:=i) (by simpa using hi) (fun h=>hn (List.mem_cons_of_mem _ h)) (fun j y hj hy=>h1 (j+1) y (by omega) hy) (fun y hy=>h2 y hy)]
  rfl
theorem slice_hi {sz:Nat} {α:Type} {g:α->List IV} (hg:∀ a,(g a).length=sz) (q:SlOf sz g) {i:Nat} (h:i<=q.l.length):∃ q2:SlOf sz g,q2.l=q.l.take i/\∀ (t:List IV) (x:Opd),ρ t x=.int .i64 (i:Int)->sliceI sz t q.v none (some x) none=some q2.v:=by
 have hh:∀ (cs:List IV) (n:Nat) (v:IV),Sl sz cs n v->i<=n->(v=.nilsl/\n=0)∨∃ tight,∀ (t:List IV) (x:Opd),ρ t x=.int .i64 (i:Int)->sliceI sz t v none (some x) none=some (.slC (cs.take (i*sz)) i sz tight):=fun cs n v hs hi=>by
  cases hs with
  | nil=>exact .inl ⟨rfl,rfl⟩
  | row cs n tight hl =>
   refine .inr ⟨tight&&i==n,fun t x hx=>?_⟩
   simp only [sliceI,optI,hx,zM,zf,Option.isSome_none,zaz,if_false]
   rw [if_pos ⟨⟨zaq _,by omega,Nat.zero_le _⟩,trivial⟩]
   simp
 rcases hh _ _ _ q.ok h with ⟨h1,h2⟩ | ⟨tight,h1⟩
 ·refine ⟨q,by rw [za0 (by omega)],fun t x hx=>?_⟩
  rw [h1]
  obtain rfl:i=0:=by omega
  simp only [sliceI,optI,hx,zM]
  rfl
 have hli:(q.l.take i).length=i:=by rw [zbl,Nat.min_eq_left h]
 refine ⟨mkRow hg (q.l.take i) i tight hli (by have:=q.few; omega),rfl,fun t x hx=>?_⟩
 rw [h1 t x hx,flat_take hg h]
 rfl
theorem slice_lo2 {sz:Nat} {α:Type} {g:α->List IV} (hg:∀ a,(g a).length=sz) (q:SlOf sz g) {i:Nat} (h:i<=q.l.length):∃ q2:SlOf sz g,q2.l=q.l.drop i/\∀ (t:List IV) (x:Opd),ρ t x=.int .i64 (i:Int)->sliceI sz t q.v (some x) none none=some q2.v:=by
 by_cases h0:q.l.length=0
 ·have hh:∀ (cs:List IV) (n:Nat) (v:IV),Sl sz cs n v->n=0->cs=[]->∃ v2,Sl sz [] 0 v2/\∀ (t:List IV) (x:Opd),ρ t x=.int .i64 ((0:Nat):Int)->sliceI sz t v (some x) none none=some v2:=fun cs n v hs hn hc=>by
   cases hs with
   | nil=>exact ⟨.nilsl,.nil,fun t x hx=>by simp only [sliceI,optI,hx,zM]; rfl⟩
   | row cs n tight hl =>
    subst hn hc
    exact ⟨.slC [] 0 sz (tight&&0==0),.row _ _ _ (by simp),fun t x hx=>by simp only [sliceI,optI,hx,zM,zf]; simp⟩
  have e:=List.eq_nil_of_length_eq_zero h0
  obtain ⟨v2,h1,h2⟩:=hh _ _ _ q.ok h0 (by rw [e]; rfl)
  obtain rfl:i=0:=by omega
  exact ⟨⟨[],v2,h1,by simp⟩,by rw [e]; rfl,h2⟩
 ·exact slice_lo hg q h h0
section
variable {S:ySM}
theorem Yf (hS:NoS S) (l:SlOf 1 intc) (n:Int):GivesN S (l.l.length+4) 26 [l.v,iv n] (.bool (l.l.contains n)):=by
 refine zh (i:=i26) (hS _ _ (by decide) (by decide) (by decide) (by decide)) rfl rfl (zam rfl) (l.l.length+3) (by omega) zm fun m hm d out t hfr=>?_
 simp only [slotsOf,za,zb,zap,Nat.reduceAdd,i26,zg] at hfr
 have hlf:=l.few
 simp only [i26,V0,sevalprocAttr,hfr]
 refine zd (fun jj st=>∃ (i:Nat),l.l.length - i<=jj/\i<=l.l.length/\(l.l.take i).contains n=false/\st.own=[]/\Slots 18 st.t [(0,l.v),(1,.int .i64 n),(5,iv i)]) l.l.length (by omega) ⟨0,by omega,by omega,by simp,rfl,by simp only [V0,sevalprocAttr,hfr,zbe]⟩ ?_
 clear hfr
 rintro jj ⟨t,own⟩ K ⟨i,hjj,hi,hc,ho,hfr⟩ hn he hr
 dsimp only at ho hfr
 subst ho
 simp only [za,zb,zg] at hfr
 by_cases h:i<l.l.length
 ·have hx:l.l[i]?=some l.l[i]:=zak h
  generalize l.l[i]=x at hx
  have hrx:rdN (l.l.flatMap intc) (i*1) 1=some [.int .i64 x]:=ze zi 0 1 hx (by omega)
  have hw:wrapI .i64 ((i:Int)+1)=((i+1:Nat):Int):=zk (by omega) (by omega)
  cases hb:x==n
  ·simp only [V0,sevalprocAttr,hfr,h,zc l h,hrx,hb,hw]
   refine hn _ (l.l.length - (i+1)) (by omega) ⟨i+1,by omega,by omega,?_,rfl,by simp only [V0,sevalprocAttr,hfr,hw]⟩
   rw [List.take_add_one,hx,Option.toList_some,contains_app,hc,hb]
   rfl
  ·simp only [V0,sevalprocAttr,hfr,h,zc l h,hrx,hb]
   refine hr _ ?_
   simp only [V0,sevalprocAttr,hfr,contains_at hx hb]
 ·simp only [V0,sevalprocAttr,hfr,h]
  refine he _ _ ?_
  rw [za0 (by omega)] at hc
  simp only [V0,sevalprocAttr,hfr,hc]
theorem with4_run (hS:NoS S) (l:SlOf 1 intc) (n:Int) (ha:l.l.Pairwise (·<·)) (hl:l.l.length<=1000000):∃ q:SlOf 1 intc,q.l=insI n l.l/\GivesN S (l.l.length+20) 68 [l.v,iv n] q.v:=by
 by_cases hin:l.l.contains n=true
 ·refine ⟨l,(ins_mem ha (List.contains_iff_mem.1 hin)).symm,yl (i:=i68) (hS _ _ (by decide) (by decide) (by decide) (by decide)) rfl rfl (zam rfl) (l.l.length+19) fun m hm d out t hfr=>?_⟩
  simp only [slotsOf,za,zb,zap,Nat.reduceAdd,i68,zg] at hfr
  have ch:=fun d out ownV own id=>Yf hS l n m (by omega) d out ownV own id
  simp only [zg] at ch
  simp only [i68,V0,sevalprocAttr,hfr,ch,hin,zL]
  exact ⟨_,rfl,Zk yH l m (by omega) _ _⟩
 ·have hnin:n ∉ l.l:=fun h=>hin (List.contains_iff_mem.2 h)
  have hcon:l.l.contains n=false:=by simpa using hin
  have hfew:(insI n l.l).length<9223372036854775808:=by
   have:=nrm_step n l.l
   omega
  refine ⟨mkRow zi (insI n l.l) (insI n l.l).length false rfl hfew,rfl,yl (i:=i68) (hS _ _ (by decide) (by decide) (by decide) (by decide)) rfl rfl (zam rfl) (l.l.length+19) fun m hm d out t hfr=>?_⟩
  simp only [slotsOf,za,zb,zap,Nat.reduceAdd,i68,zg] at hfr
  have hlf:=l.few
  have ch:=fun d out ownV own id=>Yf hS l n m (by omega) d out ownV own id
  simp only [zg] at ch
  simp only [i68,V0,sevalprocAttr,hfr,ch,hcon]
  refine zd (fun jj st=>∃ (i:Nat),l.l.length - i<=jj/\i<=l.l.length/\(∀ j x,j<i->l.l[j]?=some x->x<n)/\st.own=[.free]/\Slots 38 st.t [(0,l.v),(1,.int .i64 n),(5,iv i)]) l.l.length (by omega) ⟨0,by omega,by omega,fun j x h _=>absurd h (Nat.not_lt_zero _),rfl,by simp only [V0,sevalprocAttr,hfr,ch,hcon,zbe]⟩ ?_
  clear hfr
  rintro jj ⟨t,own⟩ KA ⟨i,hjj,hi,hlow,ho,hfr⟩ hnA heA hrA
  dsimp only at ho hfr
  subst ho
  simp only [za,zb,zg] at hfr
  have fin:∀ (t:List IV),(∀ x,l.l[i]?=some x->¬ x<n)->Slots 38 t [(0,l.v),(1,.int .i64 n),(5,iv i)]->KA (.exit 0) ⟨t,[.free]⟩:=by
   clear hfr hnA hrA t
   intro t hup hfr
   simp only [za,zb,zg] at hfr
   refine heA _ _ ?_
   have hins:=ins_at hi hnin hlow hup
   obtain ⟨q1,hq1,hs1⟩:=slice_hi zi l hi
   obtain ⟨q2,hq2,hs2⟩:=slice_lo2 zi l hi
   rw [← hq1,← hq2] at hins
   have n1:q1.l.length<=1000000:=by rw [hq1,zbl]; omega
   have n2:q2.l.length<=1000000:=by rw [hq2,List.length_drop]; omega
   have f1:=zn zi (l:=q1.l)
   have f2:=zn zi (l:=q2.l)
   have hsc:∀ xs:List Int,(xs.flatMap intc).all IV.scalar=true:=fun xs=>zbu.2 fun x hx=>by
    obtain ⟨a,_,h⟩:=List.mem_flatMap.1 hx
    simp only [intc,za4,zbp,or_false] at h
    rcases h with rfl
    rfl
   have rep0:∀ l:List IV,rep l 0=[]:=fun l=>rfl
   have hz:∀ (b k:Nat) (own:yLO) (c:List IV),own[b]?=some (.cells c)->c=(insI n l.l).flatMap intc->k=(insI n l.l).length->freeze m d own (.slM d b 0 k k 1 false)=some (mkRow zi (insI n l.l) (insI n l.l).length false rfl hfew).v:=by
    rintro b k own c ho rfl rfl
    exact Zj (k:=1) yH (by omega) rfl zi ho
   have e1:(insI n l.l).length=q1.l.length+(1+q2.l.length):=by rw [hins,zaw,zau]; omega
   have e2:(insI n l.l).flatMap intc=q1.l.flatMap intc++([.int .i64 n]++q2.l.flatMap intc):=by rw [hins,List.flatMap_append,zbg]; rfl
   have ha1:∀ lk,q1.l.length≠0->appendI d 1 lk [.free,.free] 1 (.slC [] 0 1 true) (q1.l.flatMap intc) q1.l.length 0=some (.a,.slM d 1 0 q1.l.length q1.l.length 1 false,[.free,.cells (q1.l.flatMap intc)]):=fun lk h=>by
    rw [YF h (by omega)]
    rfl
   have ha2:∀ lk,appendI d 2 lk [.free,.free,.free,.free] 1 (.slC [] 0 1 true) [.int .i64 n] 1 0=some (.a,.slM d 2 0 1 1 1 false,[.free,.free,.cells [.int .i64 n],.free]):=fun lk=>by
    rw [YF (by decide) (by decide)]
    rfl
   have ha3:q1.l.length≠0->appendI d 2 (look d out (hide [] 2 [.free,.cells (q1.l.flatMap intc),.free,.free])) [.free,.cells (q1.l.flatMap intc),.free,.free] 1 (.slM d 1 0 q1.l.length q1.l.length 1 false) [.int .i64 n] 1 0=some (.k 1 2,.slM d 2 0 (q1.l.length+1) (q1.l.length+1) 1 false,[.free,.gone,.cells (q1.l.flatMap intc++[.int .i64 n]),.free]):=fun h=>by
    rw [Z4 (by decide) (by omega) f1 rfl (by rw [Zv (.inl (by decide))]; rfl)]
    rfl
   have ha4:∀ (x:IObj) (k:Nat) (c:List IV),c.length=k*1->k<=1000001->q2.l.length≠0->appendI d 2 (look d out (hide [0] 2 [.free,x,.cells c,.free])) [.free,x,.cells c,.free] 1 (.slM d 2 0 k k 1 false) (q2.l.flatMap intc) q2.l.length 1=some (.k 2 3,.slM d 3 0 (k+q2.l.length) (k+q2.l.length) 1 false,[.free,x,.gone,.cells (c++q2.l.flatMap intc)]):=fun x k c hc hk h=>by
    rw [Z4 h (by omega) hc (hsc _) (by rw [Zv (.inr rfl)]; rfl)]
    rfl
   by_cases h1:q1.l.length=0
   ·have g1:=List.eq_nil_of_length_eq_zero h1
    by_cases h2:q2.l.length=0
    ·have g2:=List.eq_nil_of_length_eq_zero h2
     simp only [V0,sevalprocAttr,hfr,rep0,zp,zy,zH,yP,hs1,hs2,yg,h1,h2,Z2,rep,zN,ha2,app_same]
     refine ⟨by simp [comm],?_⟩
     simp only [V0,sevalprocAttr,hfr,zL]
     exact ⟨_,rfl,hz 2 _ _ _ rfl (by rw [e2,g1,g2]; rfl) (by rw [e1,h1,h2])⟩
    ·simp only [V0,sevalprocAttr,hfr,rep0,zp,zy,zH,yP,hs1,hs2,yg,h1,Z2,rep,zN,ha2,ha4 .free 1 [.int .i64 n] rfl (by omega) h2]
     refine ⟨by simp [comm],?_⟩
     simp only [V0,sevalprocAttr,hfr,zL]
     exact ⟨_,rfl,hz 3 _ _ _ rfl (by rw [e2,g1]; rfl) (by rw [e1,h1]; omega)⟩
   ·by_cases h2:q2.l.length=0
    ·have g2:=List.eq_nil_of_length_eq_zero h2
     simp only [V0,sevalprocAttr,hfr,rep0,zp,zy,zH,yP,hs1,hs2,yg,h2,ha1 _ h1,ha3 h1,rep,zN,app_same]
     refine ⟨by simp [comm],?_⟩
     simp only [V0,sevalprocAttr,hfr,zL]
     exact ⟨_,rfl,hz 2 _ _ _ rfl (by rw [e2,g2]; simp) (by rw [e1,h2])⟩
    ·simp only [V0,sevalprocAttr,hfr,rep0,zp,zy,zH,yP,hs1,hs2,yg,ha1 _ h1,ha3 h1,rep,zN,ha4 .gone (q1.l.length+1) (q1.l.flatMap intc++[.int .i64 n]) (by rw [zaw,f1]; simp) (by omega) h2]
     refine ⟨by simp [comm],?_⟩
     simp only [V0,sevalprocAttr,hfr,zL]
     exact ⟨_,rfl,hz 3 _ _ _ rfl (by rw [e2]; simp) (by rw [e1]; omega)⟩
  by_cases h:i<l.l.length
  ·have hx:l.l[i]?=some l.l[i]:=zak h
   generalize l.l[i]=x at hx
   have hrx:rdN (l.l.flatMap intc) (i*1) 1=some [.int .i64 x]:=ze zi 0 1 hx (by omega)
   have hw:wrapI .i64 ((i:Int)+1)=((i+1:Nat):Int):=zk (by omega) (by omega)
   by_cases hb:x<n
   ·simp only [V0,sevalprocAttr,hfr,h,zc l h,hrx,hb,hw]
    refine hnA _ (l.l.length - (i+1)) (by omega) ⟨i+1,by omega,by omega,fun j y hj hy=>?_,rfl,by simp only [V0,sevalprocAttr,hfr,h,zc l h,hrx,hb,hw]⟩
    by_cases hj2:j<i
    ·exact hlow j y hj2 hy
    ·obtain rfl:j=i:=by omega
     rw [hx] at hy
     cases hy
     exact hb
   ·simp only [V0,sevalprocAttr,hfr,h,zc l h,hrx,hb]
    exact fin _ (fun y hy=>by rw [hx] at hy; cases hy; exact hb) (by simp only [V0,sevalprocAttr,hfr,h,zc l h,hrx,hb])
  ·simp only [V0,sevalprocAttr,hfr,h]
   exact fin _ (fun y hy=>by rw [List.getElem?_eq_none (by omega)] at hy; cases hy) (by simp only [V0,sevalprocAttr,hfr,h])
end
end
section
def RdI (d:Nat) (out:yLM) (lv:IV) (xs:List Int):Prop:=(∃ q:SlOf 1 intc,q.l=xs/\q.v=lv)∨∃ l b cap tg,l<d/\lv=.slM l b 0 xs.length cap 1 tg/\(out l)[b]?=some (.cells (xs.flatMap intc))
theorem nrm_snoc (l:List Int) (x:Int):nrm (l++[x])=insI x (nrm l):=by unfold nrm; rw [List.foldl_append]; rfl
theorem Yq {α:Type} {l:List α} {i:Nat} {x:α} (h:l[i]?=some x):l.take (i+1)=l.take i++[x]:=by rw [List.take_add_one,h]; rfl
section
variable {S:ySM}
theorem yV (hS:NoS S) (xs:List Int) (hn:xs.length<=100000) {d:Nat} {out:yLM} {ownV own:yLO} {id:Nat} {lv:IV} (h:RdI (d+1) (fun l=>if l=d then ownV else out l) lv xs) {m:Nat} (hm:300000<=m) :
  ∃ q:SlOf 1 intc,q.l=nrm xs/\callN Ftab S m d out ownV own id 67 [lv]=some (.r,q.v,own):=by
 obtain ⟨m,rfl⟩:∃ q,m=q+1:=⟨m - 1,by omega⟩
 have main:∃ r,callN Ftab S (m+1) d out ownV own id 67 [lv]=some r/\∃ q:SlOf 1 intc,q.l=nrm xs/\r=(.r,q.v,own):=by
  refine zT (i:=i67) (hS _ _ (by decide) (by decide) (by decide) (by decide)) rfl (by decide) (zam rfl) fun t hfr=>?_
  simp only [slotsOf,za,zb,zap,Nat.reduceAdd,i67] at hfr
  generalize (fun l=>if l=d then ownV else out l:yLM)=out2 at h ⊢
  have hlen:∀ d own ownV,lenV d out2 ownV own 1 lv=some (.p,.int .i64 (xs.length:Nat),own):=fun d own ownV=>by
   rcases h with ⟨q,rfl,rfl⟩ | ⟨l,b,cap,tg,_,rfl,_⟩
   ·exact lenV_sl q
   ·exact Y1
  have rep0:∀ l:List IV,rep l 0=[]:=fun l=>rfl
  simp only [i67,V0,sevalprocAttr,hfr,rep0]
  refine zd (fun jj st=>∃ (i:Nat) (q:SlOf 1 intc) (O:yLO),xs.length - i<=jj/\i<=xs.length/\q.l=nrm (xs.take i)/\st.own=O/\Slots 19 st.t [(0,lv),(3,q.v),(4,iv i)]) xs.length (by omega) ⟨0,mkRow zi [] 0 true rfl (by omega),[],by omega,by omega,rfl,rfl,by simp only [V0,sevalprocAttr,hfr,zbe]; rfl⟩ ?_
  clear hfr
  rintro jj ⟨t,own1⟩ KA ⟨i,q,O,hjj,hi,hq,ho,hfr⟩ hnA heA hrA
  dsimp only at ho hfr
  subst ho
  simp only [za,zb,zg] at hfr
  by_cases h2:i<xs.length
  ·have hx:xs[i]?=some xs[i]:=zak h2
   generalize xs[i]=x at hx
   have hrx:rdN (xs.flatMap intc) (i*1) 1=some [.int .i64 x]:=ze zi 0 1 hx (by omega)
   have hw:wrapI .i64 ((i:Int)+1)=((i+1:Nat):Int):=zk (by omega) (by omega)
   have hql:q.l.length<=100000:=by
    rw [hq]
    have:=yv (xs.take i)
    rw [zbl] at this
    omega
   obtain ⟨q2,hq2,cw⟩:=with4_run hS q x (by rw [hq]; exact Ya _) (by omega)
   have cw:=fun d out ownV own id=>cw m (by omega) d out ownV own id
   have hq3:q2.l=nrm (xs.take (i+1)):=by rw [Yq hx,nrm_snoc,← hq,hq2]
   simp only [zg] at cw
   rcases h with ⟨q0,rfl,rfl⟩ | ⟨l,b,cap,tg,hl,rfl,hb⟩
   ·simp only [V0,sevalprocAttr,hfr,hlen,h2,zc q0 h2,hrx,cw,hw]
    exact hnA _ (q0.l.length - (i+1)) (by omega) ⟨i+1,q2,_,by omega,by omega,hq3,rfl,by simp only [V0,sevalprocAttr,hfr,hlen,h2,zc q0 h2,hrx,cw,hw]⟩
   ·have hl1:¬ l=d+1:=by omega
    simp only [V0,sevalprocAttr,hfr,h2,Zi,hl1,hl,hb,hrx,cw,hw]
    exact hnA _ (xs.length - (i+1)) (by omega) ⟨i+1,q2,_,by omega,by omega,hq3,rfl,by simp only [V0,sevalprocAttr,hfr,h2,Zi,hl1,hl,hb,hrx,cw,hw]⟩
  ·simp only [V0,sevalprocAttr,hfr,hlen,h2]
   refine heA _ _ ?_
   rw [za0 (by omega)] at hq
   simp only [V0,sevalprocAttr,hfr]
   exact ⟨.inr trivial,_,_,rfl,by
    show (freeze m (d+1) own1 q.v).map _=_
    rw [Zk yH q m (by omega)]
    rfl,q,hq,rfl⟩
 obtain ⟨r,h1,q,h2,rfl⟩:=main
 exact ⟨q,h2,h1⟩
theorem unionR_run (hS:NoS S) (a b:SlOf 1 intc) (ha:a.l.length<=50000) (hb:b.l.length<=50000) {m:Nat} (hm:400000<=m) (d:Nat) (out:yLM) (ownV own:yLO) (id:Nat) :
  ∃ q:SlOf 1 intc,q.l=nrm (a.l++b.l)/\callN Ftab S m d out ownV own id 25 [a.v,b.v]=some (.r,q.v,own):=by
 obtain ⟨m,rfl⟩:∃ q,m=q+1:=⟨m - 1,by omega⟩
 have main:∃ r,callN Ftab S (m+1) d out ownV own id 25 [a.v,b.v]=some r/\∃ q:SlOf 1 intc,q.l=nrm (a.l++b.l)/\r=(.r,q.v,own):=by
  refine zT (i:=i25) (hS _ _ (by decide) (by decide) (by decide) (by decide)) rfl (by decide) (zam rfl) fun t hfr=>?_
  simp only [slotsOf,za,zb,zap,Nat.reduceAdd,i25] at hfr
  generalize (fun l=>if l=d then ownV else out l:yLM)=out2
  obtain ⟨q0,hq0,c0⟩:=yV hS a.l (by omega) (d:=d+1) (out:=out2) (ownV:=[.free]) (own:=[.free]) (id:=0) (lv:=a.v) (.inl ⟨a,rfl,rfl⟩) (m:=m) (by omega)
  simp only [i25,V0,sevalprocAttr,hfr,c0]
  refine zd (fun jj st=>∃ (i:Nat) (q:SlOf 1 intc) (O:yLO),b.l.length - i<=jj/\i<=b.l.length/\q.l=nrm (a.l++b.l.take i)/\st.own=O/\Slots 22 st.t [(1,b.v),(5,q.v),(6,iv i)]) b.l.length (by omega) ⟨0,q0,[.free],by omega,by omega,by rw [hq0]; simp,rfl,by simp only [V0,sevalprocAttr,hfr,c0,zbe]⟩ ?_
  clear hfr
  rintro jj ⟨t,own1⟩ KA ⟨i,q,O,hjj,hi,hq,ho,hfr⟩ hnA heA hrA
  dsimp only at ho hfr
  subst ho
  simp only [za,zb,zg] at hfr
  by_cases h2:i<b.l.length
  ·have hx:b.l[i]?=some b.l[i]:=zak h2
   generalize b.l[i]=x at hx
   have hrx:rdN (b.l.flatMap intc) (i*1) 1=some [.int .i64 x]:=ze zi 0 1 hx (by omega)
   have hw:wrapI .i64 ((i:Int)+1)=((i+1:Nat):Int):=zk (by omega) (by omega)
   have hql:q.l.length<=100000:=by
    rw [hq]
    have:=yv (a.l++b.l.take i)
    rw [zaw,zbl] at this
    omega
   obtain ⟨q2,hq2,cw⟩:=with4_run hS q x (by rw [hq]; exact Ya _) (by omega)
   have cw:=fun d out ownV own id=>cw m (by omega) d out ownV own id
   have hq3:q2.l=nrm (a.l++b.l.take (i+1)):=by rw [Yq hx,← za9,nrm_snoc,← hq,hq2]
   simp only [zg] at cw
   simp only [V0,sevalprocAttr,hfr,h2,zc b h2,hrx,cw,hw]
   exact hnA _ (b.l.length - (i+1)) (by omega) ⟨i+1,q2,_,by omega,by omega,hq3,rfl,by simp only [V0,sevalprocAttr,hfr,h2,zc b h2,hrx,cw,hw]⟩
  ·simp only [V0,sevalprocAttr,hfr,h2]
   refine heA _ _ ?_
   rw [za0 (by omega)] at hq
   simp only [V0,sevalprocAttr,hfr]
   exact ⟨.inr trivial,_,_,rfl,by
    show (freeze m (d+1) own1 q.v).map _=_
    rw [Zk yH q m (by omega)]
    rfl,q,hq,rfl⟩
 obtain ⟨r,h1,q,h2,rfl⟩:=main
 exact ⟨q,h2,h1⟩
end
end
section
def kidL (k:Nat) (s:Sv):List Int:=if k=1 then s.pl.ns.l.map Nd.id else if k=2 then s.pl.as.l.map Ac.id else s.ft.l.map Ft.id
section
variable {S:ySM}
theorem own_rd {d:Nat} {out:yLM} {Pre J R:yLO} {lv:IV} {xs:List Int} (h:OwnJ intc 1 (d+1) Pre.length J lv xs):RdI (d+2) (fun l=>if l=d+1 then Pre++(J++R) else out l) lv xs:=by
 rcases h with ⟨rfl,rfl⟩ | ⟨b,hne,rfl,hb⟩
 ·exact .inl ⟨nilS 1 intc,rfl,rfl⟩
 ·refine .inr ⟨d+1,_,_,_,by omega,rfl,?_⟩
  show (if d+1=d+1 then Pre++(J++R) else out (d+1))[Pre.length+b]?=_
  rw [if_pos rfl,Zl,zar (zal.1 hb).1]
  exact hb
theorem idsN_run (hS:NoS S) (s:Sv) (hl:s.pl.ns.l.length<=1000) {m d id:Nat} {out:yLM} {ownV own:yLO} (hm:400000<=m):∃ q:SlOf 1 intc,q.l=nrm (s.pl.ns.l.map Nd.id)/\callN Ftab S m d out ownV own id 24 [.int .i64 1,.agg s.c]=some (.r,q.v,own):=by
 obtain ⟨m,rfl⟩:∃ q,m=q+2:=⟨m - 2,by omega⟩
 have main:∃ r,callN Ftab S (m+1+1) d out ownV own id 24 [.int .i64 1,.agg s.c]=some r/\∃ q:SlOf 1 intc,q.l=nrm (s.pl.ns.l.map Nd.id)/\r=(.r,q.v,own):=by
  refine zT (i:=i24) (hS _ _ (by decide) (by decide) (by decide) (by decide)) rfl (by decide) (zam rfl) fun t hfr=>?_
  simp only [slotsOf,za,zb,zap,Nat.reduceAdd,i24,Sv.c] at hfr
  generalize (fun l=>if l=d then ownV else out l:yLM)=out2
  have k12:((2:Int)==1)=false:=rfl
  have k31:((3:Int)==1)=false:=rfl
  have k32:((3:Int)==2)=false:=rfl
  have k11:((1:Int)==1)=true:=rfl
  have k22:((2:Int)==2)=true:=rfl
  have k33:((3:Int)==3)=true:=rfl
  simp only [i24,V0,Nat.reduceLT,Nat.reduceAdd,Nat.reduceMul,Nat.reduceLeDiff,Nat.reduceEqDiff,reduceCtorEq,hfr,k11,k12,k31,k32,k22,k33]
  refine zd (fun jj st=>∃ (i:Nat) (J:yLO) (lv:IV),s.pl.ns.l.length - i<=jj/\i<=s.pl.ns.l.length/\OwnJ intc 1 (d+1) 1 J lv ((s.pl.ns.l.take i).map Nd.id)/\st.own=.cells [s.pl.ns.v,s.pl.as.v,s.pl.fs.v,s.ft.v]::J/\Slots 70 st.t [(3,.ptrM (d+1) 0 0),(5,lv),(6,iv i)]) s.pl.ns.l.length (by omega) ⟨0,[],.nilsl,by omega,by omega,.inl ⟨by simp,rfl⟩,rfl,by simp only [V0,Nat.reduceLT,Nat.reduceAdd,Nat.reduceMul,Nat.reduceLeDiff,Nat.reduceEqDiff,reduceCtorEq,hfr,k11,k12,k31,k32,k22,k33,zbe]⟩ ?_
  clear hfr
  rintro jj ⟨t,own1⟩ KA ⟨i,J,lv,hjj,hi,hO,ho,hfr⟩ hnA heA hrA
  dsimp only at ho hfr
  subst ho
  simp only [za,zb,zg] at hfr
  by_cases h:i<s.pl.ns.l.length
  ·have hx:s.pl.ns.l[i]?=some s.pl.ns.l[i]:=zak h
   generalize s.pl.ns.l[i]=x at hx
   have hrd:rdN (s.pl.ns.l.flatMap Nd.c) (i*3) 1=some [.int .i64 x.id]:=(ze Nd.c_len 0 1 hx (by omega)).trans rfl
   have hw:wrapI .i64 ((i:Int)+1)=((i+1:Nat):Int):=zk (by omega) (by omega)
   have hlt:((s.pl.ns.l.take i).map Nd.id).length=i:=by rw [zbi,zbl,Nat.min_eq_left (by omega)]
   obtain ⟨e,lv',J2,happ,hO2⟩:=y5 (Pre:=[.cells [s.pl.ns.v,s.pl.as.v,s.pl.fs.v,s.ft.v]]) (n0:=J.length+1) (slot:=0) (k:=0) (out:=out2) (R:=[.free]) zi hO (ys:=[x.id]) (by simp) (by simp only [hlt,zau,zbc]; omega) (by simp only [zau,zbc]; omega) rfl rfl
   simp only [zbd,zbk,zbg,List.flatMap_nil,intc,zg,zau,zbc,zbv,zap] at happ
   rw [← Z7 (f:=Nd.id) hx] at hO2
   simp only [V0,sevalprocAttr,hfr,h,zc s.pl.ns h,hrd,rep,zp,zy,zH,zN,happ,hw]
   exact hnA _ (s.pl.ns.l.length - (i+1)) (by omega) ⟨i+1,J2,lv',by omega,by omega,hO2,rfl,by simp only [V0,sevalprocAttr,hfr,h,zc s.pl.ns h,hrd,zN,happ,hw]⟩
  ·simp only [V0,sevalprocAttr,hfr,h]
   refine heA _ _ ?_
   rw [za0 (by omega)] at hO
   obtain ⟨q,hq,cq⟩:=yV hS (s.pl.ns.l.map Nd.id) (by rw [zbi]; omega) (d:=d+1) (out:=out2) (ownV:=.cells [s.pl.ns.v,s.pl.as.v,s.pl.fs.v,s.ft.v]::(J++[.free])) (own:=.cells [s.pl.ns.v,s.pl.as.v,s.pl.fs.v,s.ft.v]::(J++[.free])) (id:=J.length+1) (lv:=lv) (own_rd (Pre:=[_]) hO) (m:=m+1) (by omega)
   simp only [V0,sevalprocAttr,hfr,cq]
   exact ⟨.inr trivial,_,_,rfl,by
    show (freeze (m+1) (d+1) _ q.v).map _=_
    rw [Zk yH q (m+1) (by omega)]
    rfl,q,hq,rfl⟩
 obtain ⟨r,h1,q,h2,rfl⟩:=main
 exact ⟨q,h2,h1⟩
theorem idsA_run (hS:NoS S) (s:Sv) (hl:s.pl.as.l.length<=1000) {m d id:Nat} {out:yLM} {ownV own:yLO} (hm:400000<=m):∃ q:SlOf 1 intc,q.l=nrm (s.pl.as.l.map Ac.id)/\callN Ftab S m d out ownV own id 24 [.int .i64 2,.agg s.c]=some (.r,q.v,own):=by
 obtain ⟨m,rfl⟩:∃ q,m=q+2:=⟨m - 2,by omega⟩
 have main:∃ r,callN Ftab S (m+1+1) d out ownV own id 24 [.int .i64 2,.agg s.c]=some r/\∃ q:SlOf 1 intc,q.l=nrm (s.pl.as.l.map Ac.id)/\r=(.r,q.v,own):=by
  refine zT (i:=i24) (hS _ _ (by decide) (by decide) (by decide) (by decide)) rfl (by decide) (zam rfl) fun t hfr=>?_
  simp only [slotsOf,za,zb,zap,Nat.reduceAdd,i24,Sv.c] at hfr
  generalize (fun l=>if l=d then ownV else out l:yLM)=out2
  have k12:((2:Int)==1)=false:=rfl
  have k31:((3:Int)==1)=false:=rfl
  have k32:((3:Int)==2)=false:=rfl
  have k11:((1:Int)==1)=true:=rfl
  have k22:((2:Int)==2)=true:=rfl
  have k33:((3:Int)==3)=true:=rfl
  simp only [i24,V0,Nat.reduceLT,Nat.reduceAdd,Nat.reduceMul,Nat.reduceLeDiff,Nat.reduceEqDiff,reduceCtorEq,hfr,k11,k12,k31,k32,k22,k33]
  refine zd (fun jj st=>∃ (i:Nat) (J:yLO) (lv:IV),s.pl.as.l.length - i<=jj/\i<=s.pl.as.l.length/\OwnJ intc 1 (d+1) 1 J lv ((s.pl.as.l.take i).map Ac.id)/\st.own=.cells [s.pl.ns.v,s.pl.as.v,s.pl.fs.v,s.ft.v]::J/\Slots 70 st.t [(3,.ptrM (d+1) 0 0),(5,lv),(7,iv i)]) s.pl.as.l.length (by omega) ⟨0,[],.nilsl,by omega,by omega,.inl ⟨by simp,rfl⟩,rfl,by simp only [V0,Nat.reduceLT,Nat.reduceAdd,Nat.reduceMul,Nat.reduceLeDiff,Nat.reduceEqDiff,reduceCtorEq,hfr,k11,k12,k31,k32,k22,k33,zbe]⟩ ?_
  clear hfr
  rintro jj ⟨t,own1⟩ KA ⟨i,J,lv,hjj,hi,hO,ho,hfr⟩ hnA heA hrA
  dsimp only at ho hfr
  subst ho
  simp only [za,zb,zg] at hfr
  by_cases h:i<s.pl.as.l.length
  ·have hx:s.pl.as.l[i]?=some s.pl.as.l[i]:=zak h
   generalize s.pl.as.l[i]=x at hx
   have hrd:rdN (s.pl.as.l.flatMap Ac.c) (i*6) 1=some [.int .i64 x.id]:=(ze Ac.c_len 0 1 hx (by omega)).trans rfl
   have hw:wrapI .i64 ((i:Int)+1)=((i+1:Nat):Int):=zk (by omega) (by omega)
   have hlt:((s.pl.as.l.take i).map Ac.id).length=i:=by rw [zbi,zbl,Nat.min_eq_left (by omega)]
   obtain ⟨e,lv',J2,happ,hO2⟩:=y5 (Pre:=[.cells [s.pl.ns.v,s.pl.as.v,s.pl.fs.v,s.ft.v]]) (n0:=J.length+1) (slot:=0) (k:=0) (out:=out2) (R:=[.free]) zi hO (ys:=[x.id]) (by simp) (by simp only [hlt,zau,zbc]; omega) (by simp only [zau,zbc]; omega) rfl rfl
   simp only [zbd,zbk,zbg,List.flatMap_nil,intc,zg,zau,zbc,zbv,zap] at happ
   rw [← Z7 (f:=Ac.id) hx] at hO2
   simp only [V0,sevalprocAttr,hfr,h,zc s.pl.as h,hrd,rep,zp,zy,zH,zN,happ,hw]
   exact hnA _ (s.pl.as.l.length - (i+1)) (by omega) ⟨i+1,J2,lv',by omega,by omega,hO2,rfl,by simp only [V0,sevalprocAttr,hfr,h,zc s.pl.as h,hrd,zN,happ,hw]⟩
  ·simp only [V0,sevalprocAttr,hfr,h]
   refine heA _ _ ?_
   rw [za0 (by omega)] at hO
   obtain ⟨q,hq,cq⟩:=yV hS (s.pl.as.l.map Ac.id) (by rw [zbi]; omega) (d:=d+1) (out:=out2) (ownV:=.cells [s.pl.ns.v,s.pl.as.v,s.pl.fs.v,s.ft.v]::(J++[.free])) (own:=.cells [s.pl.ns.v,s.pl.as.v,s.pl.fs.v,s.ft.v]::(J++[.free])) (id:=J.length+1) (lv:=lv) (own_rd (Pre:=[_]) hO) (m:=m+1) (by omega)
   simp only [V0,sevalprocAttr,hfr,cq]
   exact ⟨.inr trivial,_,_,rfl,by
    show (freeze (m+1) (d+1) _ q.v).map _=_
    rw [Zk yH q (m+1) (by omega)]
    rfl,q,hq,rfl⟩
 obtain ⟨r,h1,q,h2,rfl⟩:=main
 exact ⟨q,h2,h1⟩
theorem idsF_run (hS:NoS S) (s:Sv) (hl:s.ft.l.length<=1000) {m d id:Nat} {out:yLM} {ownV own:yLO} (hm:400000<=m):∃ q:SlOf 1 intc,q.l=nrm (s.ft.l.map Ft.id)/\callN Ftab S m d out ownV own id 24 [.int .i64 3,.agg s.c]=some (.r,q.v,own):=by
 obtain ⟨m,rfl⟩:∃ q,m=q+2:=⟨m - 2,by omega⟩
 have main:∃ r,callN Ftab S (m+1+1) d out ownV own id 24 [.int .i64 3,.agg s.c]=some r/\∃ q:SlOf 1 intc,q.l=nrm (s.ft.l.map Ft.id)/\r=(.r,q.v,own):=by
  refine zT (i:=i24) (hS _ _ (by decide) (by decide) (by decide) (by decide)) rfl (by decide) (zam rfl) fun t hfr=>?_
  simp only [slotsOf,za,zb,zap,Nat.reduceAdd,i24,Sv.c] at hfr
  generalize (fun l=>if l=d then ownV else out l:yLM)=out2
  have k12:((2:Int)==1)=false:=rfl
  have k31:((3:Int)==1)=false:=rfl
  have k32:((3:Int)==2)=false:=rfl
  have k11:((1:Int)==1)=true:=rfl
  have k22:((2:Int)==2)=true:=rfl
  have k33:((3:Int)==3)=true:=rfl
  simp only [i24,V0,Nat.reduceLT,Nat.reduceAdd,Nat.reduceMul,Nat.reduceLeDiff,Nat.reduceEqDiff,reduceCtorEq,hfr,k11,k12,k31,k32,k22,k33]
  refine zd (fun jj st=>∃ (i:Nat) (J:yLO) (lv:IV),s.ft.l.length - i<=jj/\i<=s.ft.l.length/\OwnJ intc 1 (d+1) 1 J lv ((s.ft.l.take i).map Ft.id)/\st.own=.cells [s.pl.ns.v,s.pl.as.v,s.pl.fs.v,s.ft.v]::J/\Slots 70 st.t [(3,.ptrM (d+1) 0 0),(5,lv),(8,iv i)]) s.ft.l.length (by omega) ⟨0,[],.nilsl,by omega,by omega,.inl ⟨by simp,rfl⟩,rfl,by simp only [V0,Nat.reduceLT,Nat.reduceAdd,Nat.reduceMul,Nat.reduceLeDiff,Nat.reduceEqDiff,reduceCtorEq,hfr,k11,k12,k31,k32,k22,k33,zbe]⟩ ?_
  clear hfr
  rintro jj ⟨t,own1⟩ KA ⟨i,J,lv,hjj,hi,hO,ho,hfr⟩ hnA heA hrA
  dsimp only at ho hfr
  subst ho
  simp only [za,zb,zg] at hfr
  by_cases h:i<s.ft.l.length
  ·have hx:s.ft.l[i]?=some s.ft.l[i]:=zak h
   generalize s.ft.l[i]=x at hx
   have hrd:rdN (s.ft.l.flatMap Ft.c) (i*5) 1=some [.int .i64 x.id]:=(ze Ft.c_len 0 1 hx (by omega)).trans rfl
   have hw:wrapI .i64 ((i:Int)+1)=((i+1:Nat):Int):=zk (by omega) (by omega)
   have hlt:((s.ft.l.take i).map Ft.id).length=i:=by rw [zbi,zbl,Nat.min_eq_left (by omega)]
   obtain ⟨e,lv',J2,happ,hO2⟩:=y5 (Pre:=[.cells [s.pl.ns.v,s.pl.as.v,s.pl.fs.v,s.ft.v]]) (n0:=J.length+1) (slot:=0) (k:=0) (out:=out2) (R:=[.free]) zi hO (ys:=[x.id]) (by simp) (by simp only [hlt,zau,zbc]; omega) (by simp only [zau,zbc]; omega) rfl rfl
   simp only [zbd,zbk,zbg,List.flatMap_nil,intc,zg,zau,zbc,zbv,zap] at happ
   rw [← Z7 (f:=Ft.id) hx] at hO2
   simp only [V0,sevalprocAttr,hfr,h,zc s.ft h,hrd,rep,zp,zy,zH,zN,happ,hw]
   exact hnA _ (s.ft.l.length - (i+1)) (by omega) ⟨i+1,J2,lv',by omega,by omega,hO2,rfl,by simp only [V0,sevalprocAttr,hfr,h,zc s.ft h,hrd,zN,happ,hw]⟩
  ·simp only [V0,sevalprocAttr,hfr,h]
   refine heA _ _ ?_
   rw [za0 (by omega)] at hO
   obtain ⟨q,hq,cq⟩:=yV hS (s.ft.l.map Ft.id) (by rw [zbi]; omega) (d:=d+1) (out:=out2) (ownV:=.cells [s.pl.ns.v,s.pl.as.v,s.pl.fs.v,s.ft.v]::(J++[.free])) (own:=.cells [s.pl.ns.v,s.pl.as.v,s.pl.fs.v,s.ft.v]::(J++[.free])) (id:=J.length+1) (lv:=lv) (own_rd (Pre:=[_]) hO) (m:=m+1) (by omega)
   simp only [V0,sevalprocAttr,hfr,cq]
   exact ⟨.inr trivial,_,_,rfl,by
    show (freeze (m+1) (d+1) _ q.v).map _=_
    rw [Zk yH q (m+1) (by omega)]
    rfl,q,hq,rfl⟩
 obtain ⟨r,h1,q,h2,rfl⟩:=main
 exact ⟨q,h2,h1⟩
theorem ids_kind (hS:NoS S) (s:Sv) (hs:Sm s) {k:Nat} (hk:k=1∨k=2∨k=3) {m d id:Nat} {out:yLM} {ownV own:yLO} (hm:400000<=m):∃ q:SlOf 1 intc,q.l=nrm (kidL k s)/\callN Ftab S m d out ownV own id 24 [.int .i64 (k:Int),.agg s.c]=some (.r,q.v,own):=by
 rcases hk with rfl | rfl | rfl
 ·exact idsN_run hS s (by have:=hs.ns; omega) hm
 ·exact idsA_run hS s (by have:=hs.ar; omega) hm
 ·exact idsF_run hS s (by have:=hs.ft; omega) hm
end
end
section
section
variable {S:ySM}
theorem sameN0_run (hS:NoS S) (s u:Sv) (hs:Sm s) (hu:Sm u) (id:Int) (x y:Nd) (hx:(s.pl.ns.l.find? fun f=>f.id==id)=some x) (hy:(u.pl.ns.l.find? fun f=>f.id==id)=some y):∃ N,GivesN S N 69 [.int .i64 1,.int .i64 id,.int .i64 0,.agg s.c,.agg u.c] (.bool ((x.at'.x==y.at'.x)&&(x.at'.y==y.at'.y))):=by
 obtain ⟨N1,h1⟩:=zQ hS s.pl id
 obtain ⟨N2,h2⟩:=zQ hS u.pl id
 rw [hx] at h1
 rw [hy] at h2
 refine ⟨N1+N2+1001,zh (i:=i69) (hS _ _ (by decide) (by decide) (by decide) (by decide)) rfl rfl (zam rfl) (N1+N2+1000) (by omega) zm fun m hm d out t hfr=>?_⟩
 simp only [slotsOf,za,zb,zap,Nat.reduceAdd,i69,Sv.c,zg] at hfr
 have c1:=fun d out ownV own i=>h1 m (by omega) d out ownV own i
 have c2:=fun d out ownV own i=>h2 m (by omega) d out ownV own i
 simp only [Pn.c,Sv.c,zg,zba,Option.isSome_some,Nd.c] at c1 c2
 have k11:((1:Int)==1)=true:=rfl
 have g0:decide ((0:Int) > 0)=false:=by decide
 simp only [i69,V0,Nat.reduceLT,Nat.reduceAdd,Nat.reduceMul,Nat.reduceLeDiff,Nat.reduceEqDiff,reduceCtorEq,hfr,Sv.c,Pn.c,c1,c2,e_extract,zq,k11,g0,yo,fne]
theorem sameN1_run (hS:NoS S) (s u:Sv) (hs:Sm s) (hu:Sm u) (id:Int) (x y:Nd) (hx:(s.pl.ns.l.find? fun f=>f.id==id)=some x) (hy:(u.pl.ns.l.find? fun f=>f.id==id)=some y):∃ N,GivesN S N 69 [.int .i64 1,.int .i64 id,.int .i64 1,.agg s.c,.agg u.c] (.bool (true)):=by
 obtain ⟨N1,h1⟩:=zQ hS s.pl id
 obtain ⟨N2,h2⟩:=zQ hS u.pl id
 rw [hx] at h1
 rw [hy] at h2
 refine ⟨N1+N2+1001,zh (i:=i69) (hS _ _ (by decide) (by decide) (by decide) (by decide)) rfl rfl (zam rfl) (N1+N2+1000) (by omega) zm fun m hm d out t hfr=>?_⟩
 simp only [slotsOf,za,zb,zap,Nat.reduceAdd,i69,Sv.c,zg] at hfr
 have c1:=fun d out ownV own i=>h1 m (by omega) d out ownV own i
 have c2:=fun d out ownV own i=>h2 m (by omega) d out ownV own i
 simp only [Pn.c,Sv.c,zg,zba,Option.isSome_some,Nd.c] at c1 c2
 have k11:((1:Int)==1)=true:=rfl
 have g0:decide ((1:Int) > 0)=true:=by decide
 simp only [i69,V0,Nat.reduceLT,Nat.reduceAdd,Nat.reduceMul,Nat.reduceLeDiff,Nat.reduceEqDiff,reduceCtorEq,hfr,Sv.c,Pn.c,c1,c2,e_extract,zq,k11,g0,yo,fne]
theorem sameN2_run (hS:NoS S) (s u:Sv) (hs:Sm s) (hu:Sm u) (id:Int) (x y:Nd) (hx:(s.pl.ns.l.find? fun f=>f.id==id)=some x) (hy:(u.pl.ns.l.find? fun f=>f.id==id)=some y):∃ N,GivesN S N 69 [.int .i64 1,.int .i64 id,.int .i64 2,.agg s.c,.agg u.c] (.bool (true)):=by
 obtain ⟨N1,h1⟩:=zQ hS s.pl id
 obtain ⟨N2,h2⟩:=zQ hS u.pl id
 rw [hx] at h1
 rw [hy] at h2
 refine ⟨N1+N2+1001,zh (i:=i69) (hS _ _ (by decide) (by decide) (by decide) (by decide)) rfl rfl (zam rfl) (N1+N2+1000) (by omega) zm fun m hm d out t hfr=>?_⟩
 simp only [slotsOf,za,zb,zap,Nat.reduceAdd,i69,Sv.c,zg] at hfr
 have c1:=fun d out ownV own i=>h1 m (by omega) d out ownV own i
 have c2:=fun d out ownV own i=>h2 m (by omega) d out ownV own i
 simp only [Pn.c,Sv.c,zg,zba,Option.isSome_some,Nd.c] at c1 c2
 have k11:((1:Int)==1)=true:=rfl
 have g0:decide ((2:Int) > 0)=true:=by decide
 simp only [i69,V0,Nat.reduceLT,Nat.reduceAdd,Nat.reduceMul,Nat.reduceLeDiff,Nat.reduceEqDiff,reduceCtorEq,hfr,Sv.c,Pn.c,c1,c2,e_extract,zq,k11,g0,yo,fne]
theorem sameN3_run (hS:NoS S) (s u:Sv) (hs:Sm s) (hu:Sm u) (id:Int) (x y:Nd) (hx:(s.pl.ns.l.find? fun f=>f.id==id)=some x) (hy:(u.pl.ns.l.find? fun f=>f.id==id)=some y):∃ N,GivesN S N 69 [.int .i64 1,.int .i64 id,.int .i64 3,.agg s.c,.agg u.c] (.bool (true)):=by
 obtain ⟨N1,h1⟩:=zQ hS s.pl id
 obtain ⟨N2,h2⟩:=zQ hS u.pl id
 rw [hx] at h1
 rw [hy] at h2
 refine ⟨N1+N2+1001,zh (i:=i69) (hS _ _ (by decide) (by decide) (by decide) (by decide)) rfl rfl (zam rfl) (N1+N2+1000) (by omega) zm fun m hm d out t hfr=>?_⟩
 simp only [slotsOf,za,zb,zap,Nat.reduceAdd,i69,Sv.c,zg] at hfr
 have c1:=fun d out ownV own i=>h1 m (by omega) d out ownV own i
 have c2:=fun d out ownV own i=>h2 m (by omega) d out ownV own i
 simp only [Pn.c,Sv.c,zg,zba,Option.isSome_some,Nd.c] at c1 c2
 have k11:((1:Int)==1)=true:=rfl
 have g0:decide ((3:Int) > 0)=true:=by decide
 simp only [i69,V0,Nat.reduceLT,Nat.reduceAdd,Nat.reduceMul,Nat.reduceLeDiff,Nat.reduceEqDiff,reduceCtorEq,hfr,Sv.c,Pn.c,c1,c2,e_extract,zq,k11,g0,yo,fne]
theorem sameA0_run (hS:NoS S) (s u:Sv) (hs:Sm s) (hu:Sm u) (id:Int) (x y:Ac) (hx:(s.pl.as.l.find? fun f=>f.id==id)=some x) (hy:(u.pl.as.l.find? fun f=>f.id==id)=some y):∃ N,GivesN S N 69 [.int .i64 2,.int .i64 id,.int .i64 0,.agg s.c,.agg u.c] (.bool ((x.fr==y.fr)&&((x.to==y.to)&&eqL ptE x.via.l y.via.l))):=by
 obtain ⟨q1,hq1,N1,h1⟩:=z7 hS s.pl id (fun a ha=>by have:=hs.via a ha; omega)
 obtain ⟨q2,hq2,N2,h2⟩:=z7 hS u.pl id (fun a ha=>by have:=hu.via a ha; omega)
 rw [hx] at h1 hq1
 rw [hy] at h2 hq2
 simp only [zba] at hq1 hq2
 refine ⟨N1+N2+1001,zh (i:=i69) (hS _ _ (by decide) (by decide) (by decide) (by decide)) rfl rfl (zam rfl) (N1+N2+1000) (by omega) zm fun m hm d out t hfr=>?_⟩
 simp only [slotsOf,za,zb,zap,Nat.reduceAdd,i69,Sv.c,zg] at hfr
 have c1:=fun d out ownV own i=>h1 m (by omega) d out ownV own i
 have c2:=fun d out ownV own i=>h2 m (by omega) d out ownV own i
 simp only [Pn.c,Sv.c,zg,zba,Option.isSome_some,Ac.c] at c1 c2
 have k21:((2:Int)==1)=false:=rfl
 have k22:((2:Int)==2)=true:=rfl
 have g0:((0:Int)==0)=true:=rfl
 have g1:((0:Int) != 1)=true:=rfl
 have g2:((0:Int) != 2)=true:=rfl
 have hv:=hs.via x (List.mem_of_find?_eq_some hx)
 have ce:=fun d out ownV own i=>ar_path hS q1 q2 m (by rw [hq1]; omega) d out ownV own i
 rw [hq1,hq2] at ce
 cases e1:x.fr==y.fr
 ·simp only [i69,V0,Nat.reduceLT,Nat.reduceAdd,Nat.reduceMul,Nat.reduceLeDiff,Nat.reduceEqDiff,reduceCtorEq,hfr,Sv.c,Pn.c,c1,c2,e_extract,zq,k21,k22,g0,g1,g2,yo,fne,e1,Bool.false_and]
 ·cases e2:x.to==y.to
  ·simp only [i69,V0,Nat.reduceLT,Nat.reduceAdd,Nat.reduceMul,Nat.reduceLeDiff,Nat.reduceEqDiff,reduceCtorEq,hfr,Sv.c,Pn.c,c1,c2,e_extract,zq,k21,k22,g0,g1,g2,yo,fne,e1,e2,Bool.false_and,Bool.and_false]
  ·simp only [i69,V0,Nat.reduceLT,Nat.reduceAdd,Nat.reduceMul,Nat.reduceLeDiff,Nat.reduceEqDiff,reduceCtorEq,hfr,Sv.c,Pn.c,c1,c2,e_extract,zq,k21,k22,g0,g1,g2,yo,fne,e1,e2,ce,Bool.true_and]
theorem sameA1_run (hS:NoS S) (s u:Sv) (hs:Sm s) (hu:Sm u) (id:Int) (x y:Ac) (hx:(s.pl.as.l.find? fun f=>f.id==id)=some x) (hy:(u.pl.as.l.find? fun f=>f.id==id)=some y):∃ N,GivesN S N 69 [.int .i64 2,.int .i64 id,.int .i64 1,.agg s.c,.agg u.c] (.bool (x.l==y.l)):=by
 obtain ⟨q1,hq1,N1,h1⟩:=z7 hS s.pl id (fun a ha=>by have:=hs.via a ha; omega)
 obtain ⟨q2,hq2,N2,h2⟩:=z7 hS u.pl id (fun a ha=>by have:=hu.via a ha; omega)
 rw [hx] at h1 hq1
 rw [hy] at h2 hq2
 simp only [zba] at hq1 hq2
 refine ⟨N1+N2+1001,zh (i:=i69) (hS _ _ (by decide) (by decide) (by decide) (by decide)) rfl rfl (zam rfl) (N1+N2+1000) (by omega) zm fun m hm d out t hfr=>?_⟩
 simp only [slotsOf,za,zb,zap,Nat.reduceAdd,i69,Sv.c,zg] at hfr
 have c1:=fun d out ownV own i=>h1 m (by omega) d out ownV own i
 have c2:=fun d out ownV own i=>h2 m (by omega) d out ownV own i
 simp only [Pn.c,Sv.c,zg,zba,Option.isSome_some,Ac.c] at c1 c2
 have k21:((2:Int)==1)=false:=rfl
 have k22:((2:Int)==2)=true:=rfl
 have g0:((1:Int)==0)=false:=rfl
 have g1:((1:Int) != 1)=false:=rfl
 have g2:((1:Int) != 2)=true:=rfl
 cases e1:x.l==y.l
 ·simp only [i69,V0,Nat.reduceLT,Nat.reduceAdd,Nat.reduceMul,Nat.reduceLeDiff,Nat.reduceEqDiff,reduceCtorEq,hfr,Sv.c,Pn.c,c1,c2,e_extract,zq,k21,k22,g0,g1,g2,yo,fne,e1]
 ·simp only [i69,V0,Nat.reduceLT,Nat.reduceAdd,Nat.reduceMul,Nat.reduceLeDiff,Nat.reduceEqDiff,reduceCtorEq,hfr,Sv.c,Pn.c,c1,c2,e_extract,zq,k21,k22,g0,g1,g2,yo,fne,e1]
theorem sameA2_run (hS:NoS S) (s u:Sv) (hs:Sm s) (hu:Sm u) (id:Int) (x y:Ac) (hx:(s.pl.as.l.find? fun f=>f.id==id)=some x) (hy:(u.pl.as.l.find? fun f=>f.id==id)=some y):∃ N,GivesN S N 69 [.int .i64 2,.int .i64 id,.int .i64 2,.agg s.c,.agg u.c] (.bool (x.r==y.r)):=by
 obtain ⟨q1,hq1,N1,h1⟩:=z7 hS s.pl id (fun a ha=>by have:=hs.via a ha; omega)
 obtain ⟨q2,hq2,N2,h2⟩:=z7 hS u.pl id (fun a ha=>by have:=hu.via a ha; omega)
 rw [hx] at h1 hq1
 rw [hy] at h2 hq2
 simp only [zba] at hq1 hq2
 refine ⟨N1+N2+1001,zh (i:=i69) (hS _ _ (by decide) (by decide) (by decide) (by decide)) rfl rfl (zam rfl) (N1+N2+1000) (by omega) zm fun m hm d out t hfr=>?_⟩
 simp only [slotsOf,za,zb,zap,Nat.reduceAdd,i69,Sv.c,zg] at hfr
 have c1:=fun d out ownV own i=>h1 m (by omega) d out ownV own i
 have c2:=fun d out ownV own i=>h2 m (by omega) d out ownV own i
 simp only [Pn.c,Sv.c,zg,zba,Option.isSome_some,Ac.c] at c1 c2
 have k21:((2:Int)==1)=false:=rfl
 have k22:((2:Int)==2)=true:=rfl
 have g0:((2:Int)==0)=false:=rfl
 have g1:((2:Int) != 1)=true:=rfl
 have g2:((2:Int) != 2)=false:=rfl
 simp only [i69,V0,Nat.reduceLT,Nat.reduceAdd,Nat.reduceMul,Nat.reduceLeDiff,Nat.reduceEqDiff,reduceCtorEq,hfr,Sv.c,Pn.c,c1,c2,e_extract,zq,k21,k22,g0,g1,g2,yo,fne]
theorem sameA3_run (hS:NoS S) (s u:Sv) (hs:Sm s) (hu:Sm u) (id:Int) (x y:Ac) (hx:(s.pl.as.l.find? fun f=>f.id==id)=some x) (hy:(u.pl.as.l.find? fun f=>f.id==id)=some y):∃ N,GivesN S N 69 [.int .i64 2,.int .i64 id,.int .i64 3,.agg s.c,.agg u.c] (.bool (true)):=by
 obtain ⟨q1,hq1,N1,h1⟩:=z7 hS s.pl id (fun a ha=>by have:=hs.via a ha; omega)
 obtain ⟨q2,hq2,N2,h2⟩:=z7 hS u.pl id (fun a ha=>by have:=hu.via a ha; omega)
 rw [hx] at h1 hq1
 rw [hy] at h2 hq2
 simp only [zba] at hq1 hq2
 refine ⟨N1+N2+1001,zh (i:=i69) (hS _ _ (by decide) (by decide) (by decide) (by decide)) rfl rfl (zam rfl) (N1+N2+1000) (by omega) zm fun m hm d out t hfr=>?_⟩
 simp only [slotsOf,za,zb,zap,Nat.reduceAdd,i69,Sv.c,zg] at hfr
 have c1:=fun d out ownV own i=>h1 m (by omega) d out ownV own i
 have c2:=fun d out ownV own i=>h2 m (by omega) d out ownV own i
 simp only [Pn.c,Sv.c,zg,zba,Option.isSome_some,Ac.c] at c1 c2
 have k21:((2:Int)==1)=false:=rfl
 have k22:((2:Int)==2)=true:=rfl
 have g0:((3:Int)==0)=false:=rfl
 have g1:((3:Int) != 1)=true:=rfl
 have g2:((3:Int) != 2)=true:=rfl
 simp only [i69,V0,Nat.reduceLT,Nat.reduceAdd,Nat.reduceMul,Nat.reduceLeDiff,Nat.reduceEqDiff,reduceCtorEq,hfr,Sv.c,Pn.c,c1,c2,e_extract,zq,k21,k22,g0,g1,g2,yo,fne]
theorem sameF0_run (hS:NoS S) (s u:Sv) (hs:Sm s) (hu:Sm u) (id:Int) (x y:Ft) (hx:(s.ft.l.find? fun f=>f.id==id)=some x) (hy:(u.ft.l.find? fun f=>f.id==id)=some y):∃ N,GivesN S N 69 [.int .i64 3,.int .i64 id,.int .i64 0,.agg s.c,.agg u.c] (.bool (x.kind==y.kind)):=by
 obtain ⟨q1,hq1,N1,h1⟩:=zP hS s id (fun a ha=>by have:=hs.parts a ha; omega)
 obtain ⟨q2,hq2,N2,h2⟩:=zP hS u id (fun a ha=>by have:=hu.parts a ha; omega)
 rw [hx] at h1 hq1
 rw [hy] at h2 hq2
 simp only [zba] at hq1 hq2
 refine ⟨N1+N2+1001,zh (i:=i69) (hS _ _ (by decide) (by decide) (by decide) (by decide)) rfl rfl (zam rfl) (N1+N2+1000) (by omega) zm fun m hm d out t hfr=>?_⟩
 simp only [slotsOf,za,zb,zap,Nat.reduceAdd,i69,Sv.c,zg] at hfr
 have c1:=fun d out ownV own i=>h1 m (by omega) d out ownV own i
 have c2:=fun d out ownV own i=>h2 m (by omega) d out ownV own i
 simp only [Pn.c,Sv.c,zg,zba,Option.isSome_some,Ft.c] at c1 c2
 have k31:((3:Int)==1)=false:=rfl
 have k32:((3:Int)==2)=false:=rfl
 have g0:((0:Int)==0)=true:=rfl
 have g1:((0:Int)==1)=false:=rfl
 have g2:((0:Int)==2)=false:=rfl
 simp only [i69,V0,Nat.reduceLT,Nat.reduceAdd,Nat.reduceMul,Nat.reduceLeDiff,Nat.reduceEqDiff,reduceCtorEq,hfr,Sv.c,Pn.c,c1,c2,e_extract,zq,k31,k32,g0,g1,g2,yo,fne]
theorem sameF1_run (hS:NoS S) (s u:Sv) (hs:Sm s) (hu:Sm u) (id:Int) (x y:Ft) (hx:(s.ft.l.find? fun f=>f.id==id)=some x) (hy:(u.ft.l.find? fun f=>f.id==id)=some y):∃ N,GivesN S N 69 [.int .i64 3,.int .i64 id,.int .i64 1,.agg s.c,.agg u.c] (.bool (x.cls==y.cls)):=by
 obtain ⟨q1,hq1,N1,h1⟩:=zP hS s id (fun a ha=>by have:=hs.parts a ha; omega)
 obtain ⟨q2,hq2,N2,h2⟩:=zP hS u id (fun a ha=>by have:=hu.parts a ha; omega)
 rw [hx] at h1 hq1
 rw [hy] at h2 hq2
 simp only [zba] at hq1 hq2
 refine ⟨N1+N2+1001,zh (i:=i69) (hS _ _ (by decide) (by decide) (by decide) (by decide)) rfl rfl (zam rfl) (N1+N2+1000) (by omega) zm fun m hm d out t hfr=>?_⟩
 simp only [slotsOf,za,zb,zap,Nat.reduceAdd,i69,Sv.c,zg] at hfr
 have c1:=fun d out ownV own i=>h1 m (by omega) d out ownV own i
 have c2:=fun d out ownV own i=>h2 m (by omega) d out ownV own i
 simp only [Pn.c,Sv.c,zg,zba,Option.isSome_some,Ft.c] at c1 c2
 have k31:((3:Int)==1)=false:=rfl
 have k32:((3:Int)==2)=false:=rfl
 have g0:((1:Int)==0)=false:=rfl
 have g1:((1:Int)==1)=true:=rfl
 have g2:((1:Int)==2)=false:=rfl
 simp only [i69,V0,Nat.reduceLT,Nat.reduceAdd,Nat.reduceMul,Nat.reduceLeDiff,Nat.reduceEqDiff,reduceCtorEq,hfr,Sv.c,Pn.c,c1,c2,e_extract,zq,k31,k32,g0,g1,g2,yo,fne]
theorem sameF2_run (hS:NoS S) (s u:Sv) (hs:Sm s) (hu:Sm u) (id:Int) (x y:Ft) (hx:(s.ft.l.find? fun f=>f.id==id)=some x) (hy:(u.ft.l.find? fun f=>f.id==id)=some y):∃ N,GivesN S N 69 [.int .i64 3,.int .i64 id,.int .i64 2,.agg s.c,.agg u.c] (.bool (x.name.1.toList==y.name.1.toList)):=by
 obtain ⟨q1,hq1,N1,h1⟩:=zP hS s id (fun a ha=>by have:=hs.parts a ha; omega)
 obtain ⟨q2,hq2,N2,h2⟩:=zP hS u id (fun a ha=>by have:=hu.parts a ha; omega)
 rw [hx] at h1 hq1
 rw [hy] at h2 hq2
 simp only [zba] at hq1 hq2
 refine ⟨N1+N2+1001,zh (i:=i69) (hS _ _ (by decide) (by decide) (by decide) (by decide)) rfl rfl (zam rfl) (N1+N2+1000) (by omega) zm fun m hm d out t hfr=>?_⟩
 simp only [slotsOf,za,zb,zap,Nat.reduceAdd,i69,Sv.c,zg] at hfr
 have c1:=fun d out ownV own i=>h1 m (by omega) d out ownV own i
 have c2:=fun d out ownV own i=>h2 m (by omega) d out ownV own i
 simp only [Pn.c,Sv.c,zg,zba,Option.isSome_some,Ft.c] at c1 c2
 have k31:((3:Int)==1)=false:=rfl
 have k32:((3:Int)==2)=false:=rfl
 have g0:((2:Int)==0)=false:=rfl
 have g1:((2:Int)==1)=false:=rfl
 have g2:((2:Int)==2)=true:=rfl
 simp only [i69,V0,Nat.reduceLT,Nat.reduceAdd,Nat.reduceMul,Nat.reduceLeDiff,Nat.reduceEqDiff,reduceCtorEq,hfr,Sv.c,Pn.c,c1,c2,e_extract,zq,k31,k32,g0,g1,g2,yo,fne,strBin]
theorem sameF3_run (hS:NoS S) (s u:Sv) (hs:Sm s) (hu:Sm u) (id:Int) (x y:Ft) (hx:(s.ft.l.find? fun f=>f.id==id)=some x) (hy:(u.ft.l.find? fun f=>f.id==id)=some y):∃ N,GivesN S N 69 [.int .i64 3,.int .i64 id,.int .i64 3,.agg s.c,.agg u.c] (.bool (eqL intE x.parts.l y.parts.l)):=by
 obtain ⟨q1,hq1,N1,h1⟩:=zP hS s id (fun a ha=>by have:=hs.parts a ha; omega)
 obtain ⟨q2,hq2,N2,h2⟩:=zP hS u id (fun a ha=>by have:=hu.parts a ha; omega)
 rw [hx] at h1 hq1
 rw [hy] at h2 hq2
 simp only [zba] at hq1 hq2
 refine ⟨N1+N2+1001,zh (i:=i69) (hS _ _ (by decide) (by decide) (by decide) (by decide)) rfl rfl (zam rfl) (N1+N2+1000) (by omega) zm fun m hm d out t hfr=>?_⟩
 simp only [slotsOf,za,zb,zap,Nat.reduceAdd,i69,Sv.c,zg] at hfr
 have c1:=fun d out ownV own i=>h1 m (by omega) d out ownV own i
 have c2:=fun d out ownV own i=>h2 m (by omega) d out ownV own i
 simp only [Pn.c,Sv.c,zg,zba,Option.isSome_some,Ft.c] at c1 c2
 have k31:((3:Int)==1)=false:=rfl
 have k32:((3:Int)==2)=false:=rfl
 have g0:((3:Int)==0)=false:=rfl
 have g1:((3:Int)==1)=false:=rfl
 have g2:((3:Int)==2)=false:=rfl
 have hv:=hs.parts x (List.mem_of_find?_eq_some hx)
 have ce:=fun d out ownV own i=>ar_ints hS q1 q2 m (by rw [hq1]; omega) d out ownV own i
 rw [hq1,hq2] at ce
 simp only [i69,V0,Nat.reduceLT,Nat.reduceAdd,Nat.reduceMul,Nat.reduceLeDiff,Nat.reduceEqDiff,reduceCtorEq,hfr,Sv.c,Pn.c,c1,c2,e_extract,zq,k31,k32,g0,g1,g2,yo,fne,ce]
theorem zae (hS:NoS S) (k id:Int) (s u:Sv) (b0 b1 b2 b3:Bool) (h0:∃ N,GivesN S N 69 [.int .i64 k,.int .i64 id,.int .i64 0,.agg s.c,.agg u.c] (.bool b0)) (h1:∃ N,GivesN S N 69 [.int .i64 k,.int .i64 id,.int .i64 1,.agg s.c,.agg u.c] (.bool b1)) (h2:∃ N,GivesN S N 69 [.int .i64 k,.int .i64 id,.int .i64 2,.agg s.c,.agg u.c] (.bool b2)) (h3:∃ N,GivesN S N 69 [.int .i64 k,.int .i64 id,.int .i64 3,.agg s.c,.agg u.c] (.bool b3)):∃ N,GivesN S N 27 [.int .i64 k,.int .i64 id,.agg s.c,.agg u.c] (.bool (b0&&(b1&&(b2&&b3)))):=by
 obtain ⟨N0,h0⟩:=h0
 obtain ⟨N1,h1⟩:=h1
 obtain ⟨N2,h2⟩:=h2
 obtain ⟨N3,h3⟩:=h3
 refine ⟨N0+N1+N2+N3+11,zh (i:=i27) (hS _ _ (by decide) (by decide) (by decide) (by decide)) rfl rfl (zam rfl) (N0+N1+N2+N3+10) (by omega) zm fun m hm d out t hfr=>?_⟩
 simp only [slotsOf,za,zb,zap,Nat.reduceAdd,i27,Sv.c,zg] at hfr
 have c0:=fun d out ownV own i=>h0 m (by omega) d out ownV own i
 have c1:=fun d out ownV own i=>h1 m (by omega) d out ownV own i
 have c2:=fun d out ownV own i=>h2 m (by omega) d out ownV own i
 have c3:=fun d out ownV own i=>h3 m (by omega) d out ownV own i
 simp only [Sv.c] at c0 c1 c2 c3
 cases b0
 ·simp only [i27,V0,Nat.reduceLT,Nat.reduceAdd,Nat.reduceMul,Nat.reduceLeDiff,Nat.reduceEqDiff,reduceCtorEq,hfr,c0,Bool.false_and]
 ·cases b1
  ·simp only [i27,V0,Nat.reduceLT,Nat.reduceAdd,Nat.reduceMul,Nat.reduceLeDiff,Nat.reduceEqDiff,reduceCtorEq,hfr,c0,c1,Bool.false_and,Bool.true_and]
  ·cases b2
   ·simp only [i27,V0,Nat.reduceLT,Nat.reduceAdd,Nat.reduceMul,Nat.reduceLeDiff,Nat.reduceEqDiff,reduceCtorEq,hfr,c0,c1,c2,Bool.false_and,Bool.true_and]
   ·simp only [i27,V0,Nat.reduceLT,Nat.reduceAdd,Nat.reduceMul,Nat.reduceLeDiff,Nat.reduceEqDiff,reduceCtorEq,hfr,c0,c1,c2,c3,Bool.true_and]
def alikeB (k:Nat) (s u:Sv) (id:Int):Bool:=if k=1 then !(difB Nd.id nodeB s.pl.ns.l u.pl.ns.l id) else if k=2 then !(difB Ac.id arcB s.pl.as.l u.pl.as.l id) else !(difB Ft.id ftB s.ft.l u.ft.l id)
theorem Zw {α:Type} {idOf:α->Int} {l:List α} {id:Int} (h:id∈l.map idOf):∃ x,(l.find? fun x=>idOf x==id)=some x:=by
 obtain ⟨x,hx,rfl⟩:=List.mem_map.1 h
 cases hf:l.find? fun y=>idOf y==idOf x with
 | none =>
  rw [List.find?_eq_none] at hf
  have:=hf x hx
  simp at this
 | some y=>exact ⟨y,rfl⟩
theorem alike_run (hS:NoS S) (s u:Sv) (hs:Sm s) (hu:Sm u) {k:Nat} (hk:k=1∨k=2∨k=3) (id:Int) (h1:id∈kidL k s) (h2:id∈kidL k u):∃ N,GivesN S N 27 [.int .i64 (k:Int),.int .i64 id,.agg s.c,.agg u.c] (.bool (alikeB k s u id)):=by
 rcases hk with rfl | rfl | rfl
 ·obtain ⟨x,hx⟩:=Zw (idOf:=Nd.id) (l:=s.pl.ns.l) (id:=id) h1
  obtain ⟨y,hy⟩:=Zw (idOf:=Nd.id) (l:=u.pl.ns.l) (id:=id) h2
  have h:=zae hS 1 id s u _ _ _ _ (sameN0_run hS s u hs hu id x y hx hy) (sameN1_run hS s u hs hu id x y hx hy) (sameN2_run hS s u hs hu id x y hx hy) (sameN3_run hS s u hs hu id x y hx hy)
  have e:alikeB 1 s u id=nodeB x y:=by simp [alikeB,difB,hx,hy]
  rw [e]
  have e2:nodeB x y=(((x.at'.x==y.at'.x)&&(x.at'.y==y.at'.y))&&(true&&(true&&true))):=by simp [nodeB,fdN]
  rw [e2]
  exact h
 ·obtain ⟨x,hx⟩:=Zw (idOf:=Ac.id) (l:=s.pl.as.l) (id:=id) h1
  obtain ⟨y,hy⟩:=Zw (idOf:=Ac.id) (l:=u.pl.as.l) (id:=id) h2
  have h:=zae hS 2 id s u _ _ _ _ (sameA0_run hS s u hs hu id x y hx hy) (sameA1_run hS s u hs hu id x y hx hy) (sameA2_run hS s u hs hu id x y hx hy) (sameA3_run hS s u hs hu id x y hx hy)
  have e:alikeB 2 s u id=arcB x y:=by simp [alikeB,difB,hx,hy]
  rw [e]
  have e2:arcB x y=(((x.fr==y.fr)&&((x.to==y.to)&&eqL ptE x.via.l y.via.l))&&((x.l==y.l)&&((x.r==y.r)&&true))):=by simp only [arcB,fdA,List.all_cons,List.all_nil]
  rw [e2]
  exact h
 ·obtain ⟨x,hx⟩:=Zw (idOf:=Ft.id) (l:=s.ft.l) (id:=id) h1
  obtain ⟨y,hy⟩:=Zw (idOf:=Ft.id) (l:=u.ft.l) (id:=id) h2
  have h:=zae hS 3 id s u _ _ _ _ (sameF0_run hS s u hs hu id x y hx hy) (sameF1_run hS s u hs hu id x y hx hy) (sameF2_run hS s u hs hu id x y hx hy) (sameF3_run hS s u hs hu id x y hx hy)
  have e:alikeB 3 s u id=ftB x y:=by simp [alikeB,difB,hx,hy]
  rw [e]
  have e2:ftB x y=((x.kind==y.kind)&&((x.cls==y.cls)&&((x.name.1.toList==y.name.1.toList)&&eqL intE x.parts.l y.parts.l))):=by simp only [ftB,fdF,List.all_cons,List.all_nil,Bool.and_true]
  rw [e2]
  exact h
end
end
section
def pB (k:Nat) (s u:Sv) (id:Int):Bool:=if k=1 then difB Nd.id nodeB s.pl.ns.l u.pl.ns.l id else if k=2 then difB Ac.id arcB s.pl.as.l u.pl.as.l id else difB Ft.id ftB s.ft.l u.ft.l id
def difK (k:Nat) (s u:Sv):List (Int × Int):=((nrm (kidL k s++kidL k u)).filter (pB k s u)).map fun id=>((k:Int),id)
def difTo (s u:Sv):Nat->List (Int × Int)
 | 0=>[]
 | k+1=>difTo s u k++difK (k+1) s u
theorem difS_to (s u:Sv):difS s u=difTo s u 3:=by
 simp only [difS,difTo,zbk]
 rfl
theorem alike_pB (k:Nat) (s u:Sv) (id:Int):alikeB k s u id=!(pB k s u id):=by
 unfold alikeB pB
 by_cases h1:k=1
 ·simp only [h1,if_true]
 ·by_cases h2:k=2
  ·simp only [h2,if_true]
   rfl
  ·simp only [if_neg h1,if_neg h2]
theorem find_out {α:Type} {idOf:α->Int} {l:List α} {id:Int} (h:id ∉ l.map idOf):(l.find? fun x=>idOf x==id)=none:=by
 rw [List.find?_eq_none]
 intro x hx hc
 exact h (List.mem_map.2 ⟨x,hx,by simpa using hc⟩)
theorem dif_out {α:Type} {idOf:α->Int} {eqv:α->α->Bool} {la lb:List α} {id:Int} (h:id ∉ la.map idOf∨id ∉ lb.map idOf):difB idOf eqv la lb id=true:=by
 unfold difB
 rcases h with h | h
 ·rw [find_out h]
 ·rw [find_out h]
  cases la.find? fun x=>idOf x==id <;> rfl
theorem pB_out {k:Nat} {s u:Sv} {id:Int} (h:id ∉ kidL k s∨id ∉ kidL k u):pB k s u id=true:=by
 unfold kidL at h
 unfold pB
 by_cases h1:k=1
 ·simp only [h1,if_true] at h ⊢
  exact dif_out h
 ·by_cases h2:k=2
  ·simp only [if_neg h1,if_pos h2] at h ⊢
   exact dif_out h
  ·simp only [if_neg h1,if_neg h2] at h ⊢
   exact dif_out h
theorem nrm_two (a b:List Int):nrm (nrm a++nrm b)=nrm (a++b):=asc_ext (Ya _) (Ya _) fun y=>by
 rw [yU,yU,List.mem_append,List.mem_append,yU,yU]
theorem uniN {α:Type} {P:α->Nat->Prop} (hmono:∀ a n m,n<=m->P a n->P a m):∀ {l:List α},(∀ a∈l,∃ N,P a N)->∃ N,∀ a∈l,P a N
 | [],_=>⟨0,fun _ h=>by cases h⟩
 | a::l,h=>by
  obtain ⟨N1,h1⟩:=h a (zbn ..)
  obtain ⟨N2,h2⟩:=uniN hmono fun b hb=>h b (List.mem_cons_of_mem _ hb)
  refine ⟨N1+N2,fun b hb=>?_⟩
  rcases za4.1 hb with rfl | hb
  ·exact hmono _ _ _ (by omega) h1
  ·exact hmono _ _ _ (by omega) (h2 b hb)
theorem Zx {k:Nat} {s:Sv} (hs:Sm s):(kidL k s).length<=40:=by
 have:=hs.ns; have:=hs.ar; have:=hs.ft
 unfold kidL
 split
 ·rw [zbi]; omega
 ·split
  ·rw [zbi]; omega
  ·rw [zbi]; omega
section
variable {S:ySM}
theorem rdif_run (hS:NoS S) (s u:Sv) (hs:Sm s) (hu:Sm u):∃ (q:SlOf 2 cfc) (N:Nat),q.l=difS s u/\GivesN S N 9 [.agg s.c,.agg u.c] q.v:=by
 have hal:∃ N,∀ kz∈(([1,2,3]:List Nat).flatMap fun k=>(kidL k s).map fun z=>(k,z)),kz.2∈kidL kz.1 u->GivesN S N 27 [.int .i64 (kz.1:Int),.int .i64 kz.2,.agg s.c,.agg u.c] (.bool (alikeB kz.1 s u kz.2)):=by
  refine uniN (P:=fun (kz:Nat × Int) N=>kz.2∈kidL kz.1 u->GivesN S N 27 [.int .i64 (kz.1:Int),.int .i64 kz.2,.agg s.c,.agg u.c] (.bool (alikeB kz.1 s u kz.2))) (fun a n m hnm h hm m' hm'=>h hm m' (by omega)) fun kz hkz=>?_
  obtain ⟨k,hk,hz0⟩:=List.mem_flatMap.1 hkz
  obtain ⟨z,hz,rfl⟩:=List.mem_map.1 hz0
  have hk3:k=1∨k=2∨k=3:=by simpa using hk
  by_cases h2:z∈kidL k u
  ·obtain ⟨N,hN⟩:=alike_run hS s u hs hu hk3 z hz h2
   exact ⟨N,fun _=>hN⟩
  ·exact ⟨0,fun h=>absurd h h2⟩
 obtain ⟨N,hN⟩:=hal
 have hfew:∀ k,(difTo s u k).length<=k*80:=fun k=>by
  induction k with
  | zero=>simp [difTo]
  | succ k ih =>
   have h1:=Zx (k:=k+1) hs
   have h2:=Zx (k:=k+1) hu
   have h3:=yv (kidL (k+1) s++kidL (k+1) u)
   have h4:=List.length_filter_le (pB (k+1) s u) (nrm (kidL (k+1) s++kidL (k+1) u))
   rw [zaw] at h3
   simp only [difTo,difK,zaw,zbi]
   omega
 have hlen:(difS s u).length<9223372036854775808:=by
  rw [difS_to]
  have:=hfew 3
  omega
 refine ⟨rowQ ym (difS s u) hlen,N+500001,rowQ_l ..,yl (i:=i9) (hS _ _ (by decide) (by decide) (by decide) (by decide)) rfl rfl (zam rfl) (N+500000) fun m hm d out t hfr=>?_⟩
 simp only [slotsOf,za,zb,zap,Nat.reduceAdd,i9,Sv.c] at hfr
 simp only [i9,V0,Nat.reduceLT,Nat.reduceAdd,Nat.reduceMul,Nat.reduceLeDiff,Nat.reduceEqDiff,reduceCtorEq,hfr]
 generalize hA:IObj.cells [s.pl.ns.v,s.pl.as.v,s.pl.fs.v,s.ft.v]=A
 generalize hB:IObj.cells [u.pl.ns.v,u.pl.as.v,u.pl.fs.v,u.ft.v]=B
 refine zd (fun jj st=>∃ (k:Nat) (J:yLO) (lv:IV),3 - k<=jj/\k<=3/\OwnJ cfc 2 d 2 J lv (difTo s u k)/\st.own=A::B::J/\Slots 67 st.t [(2,.ptrM d 0 0),(3,.ptrM d 1 0),(5,lv),(6,.int .i64 ((k+1:Nat):Int))]) 3 (by omega) ⟨0,[],.nilsl,by omega,by omega,.inl ⟨rfl,rfl⟩,rfl,by simp only [V0,Nat.reduceLT,Nat.reduceAdd,Nat.reduceMul,Nat.reduceLeDiff,Nat.reduceEqDiff,reduceCtorEq,hfr]; trivial⟩ ?_
 clear hfr
 rintro jj ⟨t,own⟩ KA ⟨k,J,lv,hjj,hk,hO,ho,hfr⟩ hnA heA hrA
 dsimp only at ho hfr
 subst ho
 simp only [za,zb,zg] at hfr
 by_cases h:k<3
 rotate_left
 ·obtain rfl:k=3:=by omega
  have hle:(((3+1:Nat):Int)<=3)=False:=eq_false (by decide)
  simp only [V0,Nat.reduceLT,Nat.reduceAdd,Nat.reduceMul,Nat.reduceLeDiff,Nat.reduceEqDiff,reduceCtorEq,hfr,hle]
  refine heA _ _ ?_
  rw [← difS_to] at hO
  simp only [V0,Nat.reduceLT,Nat.reduceAdd,Nat.reduceMul,Nat.reduceLeDiff,Nat.reduceEqDiff,reduceCtorEq,hfr,zL]
  exact ⟨_,rfl,ownJ_fz (Pre:=[_,_]) ym cfc_fz (by omega) hlen hO⟩
 have hle:(((k+1:Nat):Int)<=3)=True:=eq_true (by omega)
 have hk3:k+1=1∨k+1=2∨k+1=3:=by omega
 have hwk:wrapI .i64 (((k+1:Nat):Int)+1)=((k+1+1:Nat):Int):=zk (by omega) (by omega)
 obtain ⟨q1,hq1,c1⟩:=ids_kind hS s hs hk3 (d:=d) (out:=out) (ownV:=hide [] (J.length+1+1) (A::B::(J++[.free,.free]))) (own:=A::B::(J++[.free,.free])) (id:=J.length+1+1) (m:=m) (by omega)
 obtain ⟨q2,hq2,c2⟩:=ids_kind hS u hu hk3 (d:=d) (out:=out) (ownV:=hide [0] (J.length+1+1) (A::B::(J++[.free,.free]))) (own:=A::B::(J++[.free,.free])) (id:=J.length+1+1+1) (m:=m) (by omega)
 have l1:q1.l.length<=40:=by rw [hq1]; have:=yv (kidL (k+1) s); have:=Zx (k:=k+1) hs; omega
 have l2:q2.l.length<=40:=by rw [hq2]; have:=yv (kidL (k+1) u); have:=Zx (k:=k+1) hu; omega
 obtain ⟨q3,hq3,c3⟩:=unionR_run hS q1 q2 (by omega) (by omega) (m:=m) (by omega) d out (A::B::(J++[.free,.free,.free])) (A::B::(J++[.free,.free,.free])) (J.length+1+1+1+1)
 rw [hq1,hq2,nrm_two] at hq3
 simp only [Sv.c] at c1 c2
 subst hA hB
 simp only [V0,Nat.reduceLT,Nat.reduceAdd,Nat.reduceMul,Nat.reduceLeDiff,Nat.reduceEqDiff,reduceCtorEq,hfr,hle,c1,c2]
 refine ⟨by simp [comm],?_⟩
 simp only [V0,Nat.reduceLT,Nat.reduceAdd,Nat.reduceMul,Nat.reduceLeDiff,Nat.reduceEqDiff,reduceCtorEq,hfr,c3]
 have n3:q3.l.length<=80:=by
  rw [hq3]
  have:=yv (kidL (k+1) s++kidL (k+1) u)
  rw [zaw] at this
  have:=Zx (k:=k+1) hs
  have:=Zx (k:=k+1) hu
  omega
 have hdl:=hfew k
 refine zd (fun jj st=>∃ (i:Nat) (J:yLO) (lv:IV),q3.l.length - i<=jj/\i<=q3.l.length/\OwnJ cfc 2 d 2 J lv (difTo s u k++((q3.l.take i).filter (pB (k+1) s u)).map fun id=>(((k+1:Nat):Int),id))/\st.own=.cells [s.pl.ns.v,s.pl.as.v,s.pl.fs.v,s.ft.v]::.cells [u.pl.ns.v,u.pl.as.v,u.pl.fs.v,u.ft.v]::J/\Slots 67 st.t [(2,.ptrM d 0 0),(3,.ptrM d 1 0),(5,lv),(6,.int .i64 ((k+1:Nat):Int)),(7,q1.v),(8,q2.v),(9,q3.v),(10,iv i)]) q3.l.length (by omega) ⟨0,_,lv,by omega,by omega,by simpa using hO.more _,rfl,by simp only [V0,Nat.reduceLT,Nat.reduceAdd,Nat.reduceMul,Nat.reduceLeDiff,Nat.reduceEqDiff,reduceCtorEq,hfr,hle,c1,c2,c3,zbe]⟩ ?_
 clear hfr hO lv t c1 c2 c3 J
 rintro jj2 ⟨t,own⟩ KB ⟨i,J,lv,hjj2,hi,hO,ho,hfr⟩ hnB heB hrB
 dsimp only at ho hfr
 subst ho
 simp only [za,zb,zg] at hfr
 by_cases h2:i<q3.l.length
 rotate_left
 ·simp only [V0,Nat.reduceLT,Nat.reduceAdd,Nat.reduceMul,Nat.reduceLeDiff,Nat.reduceEqDiff,reduceCtorEq,hfr,h2]
  refine heB _ _ ?_
  rw [za0 (by omega),hq3] at hO
  simp only [V0,Nat.reduceLT,Nat.reduceAdd,Nat.reduceMul,Nat.reduceLeDiff,Nat.reduceEqDiff,reduceCtorEq,hfr,hwk]
  exact hnA _ (3 - (k+1)) (by omega) ⟨k+1,J,lv,by omega,by omega,hO,rfl,by simp only [V0,Nat.reduceLT,Nat.reduceAdd,Nat.reduceMul,Nat.reduceLeDiff,Nat.reduceEqDiff,reduceCtorEq,hfr,hwk]⟩
 have hx:q3.l[i]?=some q3.l[i]:=zak h2
 generalize q3.l[i]=z at hx
 have hrx:rdN (q3.l.flatMap intc) (i*1) 1=some [.int .i64 z]:=ze zi 0 1 hx (by omega)
 have hw:wrapI .i64 ((i:Int)+1)=((i+1:Nat):Int):=zk (by omega) (by omega)
 have hst:=ZD (nn:=((k+1:Nat):Int)) (p:=pB (k+1) s u) hx
 have ch1:=fun d out ownV own i=>Yf hS q1 z m (by omega) d out ownV own i
 have ch2:=fun d out ownV own i=>Yf hS q2 z m (by omega) d out ownV own i
 simp only [zg] at ch1 ch2
 have hlt:(difTo s u k++((q3.l.take i).filter (pB (k+1) s u)).map fun id=>(((k+1:Nat):Int),id)).length<=k*80+i:=by
  rw [zaw,zbi]
  have h1:=List.length_filter_le (pB (k+1) s u) (q3.l.take i)
  rw [zbl] at h1
  omega
 obtain ⟨e,lv',J2,happ,hO2⟩:=y5 (Pre:=[.cells [s.pl.ns.v,s.pl.as.v,s.pl.fs.v,s.ft.v],.cells [u.pl.ns.v,u.pl.as.v,u.pl.fs.v,u.ft.v]]) (n0:=J.length+1+1+1+1+1) (slot:=0) (k:=3) (out:=out) (R:=[.free,.free,.free,.free]) ym hO (ys:=[(((k+1:Nat):Int),z)]) (by simp) (by simp only [zau,zbc]; omega) (by simp only [zau,zbc]; omega) rfl rfl
 simp only [zbd,zbk,zbg,List.flatMap_nil,cfc,zau,zbc,zbv,zap] at happ
 have cI2:∀ (lk:Nat->Nat->Option IObj) (a b:IV),cellsI lk 2 (.slC [a,b] 1 2 true)=some ([a,b],1):=fun lk a b=>rfl
 have in1:∀ b,q1.l.contains z=b->(b=true↔z∈kidL (k+1) s):=fun b hb=>by
  rw [← hb,List.contains_iff_mem,hq1,yU]
 have in2:∀ b,q2.l.contains z=b->(b=true↔z∈kidL (k+1) u):=fun b hb=>by
  rw [← hb,List.contains_iff_mem,hq2,yU]
 cases g1:q1.l.contains z
 ·have hd:pB (k+1) s u z=true:=pB_out (.inl fun h=>by have:=(in1 _ g1).2 h; cases this)
  rw [hd,if_pos rfl] at hst
  rw [za9,← hst] at hO2
  simp only [V0,Nat.reduceLT,Nat.reduceAdd,Nat.reduceMul,Nat.reduceLeDiff,Nat.reduceEqDiff,reduceCtorEq,hfr,h2,zc q3 h2,hrx,ch1,g1]
  refine ⟨by simp [comm],?_⟩
  simp only [V0,Nat.reduceLT,Nat.reduceAdd,Nat.reduceMul,Nat.reduceLeDiff,Nat.reduceEqDiff,reduceCtorEq,hfr,zc q3 h2,hrx,rep,zp,zy,zH,cI2,happ,hw]
  exact hnB _ (q3.l.length - (i+1)) (by omega) ⟨i+1,J2,lv',by omega,by omega,hO2,rfl,by simp only [V0,Nat.reduceLT,Nat.reduceAdd,Nat.reduceMul,Nat.reduceLeDiff,Nat.reduceEqDiff,reduceCtorEq,hfr,h2,zc q3 h2,hrx,ch1,g1,cI2,happ,hw]⟩
 ·cases g2:q2.l.contains z
  ·have hd:pB (k+1) s u z=true:=pB_out (.inr fun h=>by have:=(in2 _ g2).2 h; cases this)
   rw [hd,if_pos rfl] at hst
   rw [za9,← hst] at hO2
   simp only [V0,Nat.reduceLT,Nat.reduceAdd,Nat.reduceMul,Nat.reduceLeDiff,Nat.reduceEqDiff,reduceCtorEq,hfr,h2,zc q3 h2,hrx,ch1,ch2,g1,g2]
   refine ⟨by simp [comm],?_⟩
   simp only [V0,Nat.reduceLT,Nat.reduceAdd,Nat.reduceMul,Nat.reduceLeDiff,Nat.reduceEqDiff,reduceCtorEq,hfr,zc q3 h2,hrx,rep,zp,zy,zH,cI2,happ,hw]
   exact hnB _ (q3.l.length - (i+1)) (by omega) ⟨i+1,J2,lv',by omega,by omega,hO2,rfl,by simp only [V0,Nat.reduceLT,Nat.reduceAdd,Nat.reduceMul,Nat.reduceLeDiff,Nat.reduceEqDiff,reduceCtorEq,hfr,h2,zc q3 h2,hrx,ch1,ch2,g1,g2,cI2,happ,hw]⟩
  ·have ca:=fun d out ownV own i=>hN (k+1,z) (List.mem_flatMap.2 ⟨k+1,by simpa using hk3,List.mem_map.2 ⟨z,(in1 _ g1).1 rfl,rfl⟩⟩) ((in2 _ g2).1 rfl) m (by omega) d out ownV own i
   simp only [Sv.c,alike_pB] at ca
   cases g3:pB (k+1) s u z
   ·rw [g3,if_neg (by decide),zbv] at hst
    rw [← hst] at hO
    simp only [V0,Nat.reduceLT,Nat.reduceAdd,Nat.reduceMul,Nat.reduceLeDiff,Nat.reduceEqDiff,reduceCtorEq,hfr,h2,zc q3 h2,hrx,ch1,ch2,ca,g1,g2,g3]
    refine ⟨by simp [comm],?_⟩
    simp only [V0,Nat.reduceLT,Nat.reduceAdd,Nat.reduceMul,Nat.reduceLeDiff,Nat.reduceEqDiff,reduceCtorEq,hfr,hw]
    exact hnB _ (q3.l.length - (i+1)) (by omega) ⟨i+1,_,lv,by omega,by omega,hO.more _,rfl,by simp only [V0,Nat.reduceLT,Nat.reduceAdd,Nat.reduceMul,Nat.reduceLeDiff,Nat.reduceEqDiff,reduceCtorEq,hfr,h2,zc q3 h2,hrx,ch1,ch2,ca,g1,g2,g3,hw]⟩
   ·rw [g3,if_pos rfl] at hst
    rw [za9,← hst] at hO2
    simp only [V0,Nat.reduceLT,Nat.reduceAdd,Nat.reduceMul,Nat.reduceLeDiff,Nat.reduceEqDiff,reduceCtorEq,hfr,h2,zc q3 h2,hrx,ch1,ch2,ca,g1,g2,g3]
    refine ⟨by simp [comm],?_⟩
    simp only [V0,Nat.reduceLT,Nat.reduceAdd,Nat.reduceMul,Nat.reduceLeDiff,Nat.reduceEqDiff,reduceCtorEq,hfr,zc q3 h2,hrx,rep,zp,zy,zH,cI2,happ,hw]
    exact hnB _ (q3.l.length - (i+1)) (by omega) ⟨i+1,J2,lv',by omega,by omega,hO2,rfl,by simp only [V0,Nat.reduceLT,Nat.reduceAdd,Nat.reduceMul,Nat.reduceLeDiff,Nat.reduceEqDiff,reduceCtorEq,hfr,h2,zc q3 h2,hrx,ch1,ch2,ca,g1,g2,g3,cI2,happ,hw]⟩
end
end
section
theorem yC {d:Nat} {out:yLM} {ownV own:yLO} {s:ByteArray}:lenV d out ownV own 0 (.str s)=some (.p,.int .i64 s.size,own):=zax rfl rfl
section
variable {S:ySM}
theorem small15_run (hS:NoS S) (p:Pn):∃ b,GivesN S (p.as.l.length+10) 14 [.agg p.c] (.bool b)/\(b=true->p.ns.l.length<=40/\p.as.l.length<=40/\∀ a∈p.as.l,a.via.l.length<=300):=by
 have hn:=p.ns.few
 have ha:=p.as.few
 have hf:=p.fs.few
 have go:∀ (b:Bool),(∀ m,p.as.l.length+9<=m->∀ d out t,Slots 47 t [(0,.agg p.c)]->Ex (callN Ftab S m) d out m i14.body (Fin d out i14.res (.bool b)) ⟨t,[]⟩)->GivesN S (p.as.l.length+10) 14 [.agg p.c] (.bool b):=fun b h=>zh (i:=i14) (hS _ _ (by decide) (by decide) (by decide) (by decide)) rfl rfl (zam rfl) (p.as.l.length+9) (by omega) zm fun m hm d out t hfr=>h m hm d out t hfr
 by_cases h1:40<p.ns.l.length
 ·refine ⟨false,go _ fun m hm d out t hfr=>?_,fun h=>by cases h⟩
  have d1:decide (((p.ns.l.length:Nat):Int) > 40)=true:=by simp; omega
  simp only [za,zb,Pn.c] at hfr
  simp only [i14,V0,Nat.reduceLT,Nat.reduceAdd,Nat.reduceMul,Nat.reduceLeDiff,Nat.reduceEqDiff,reduceCtorEq,hfr,d1]
 by_cases h2:40<p.as.l.length
 ·refine ⟨false,go _ fun m hm d out t hfr=>?_,fun h=>by cases h⟩
  have d1:decide (((p.ns.l.length:Nat):Int) > 40)=false:=by simp; omega
  have d2:decide (((p.as.l.length:Nat):Int) > 40)=true:=by simp; omega
  simp only [za,zb,Pn.c] at hfr
  simp only [i14,V0,Nat.reduceLT,Nat.reduceAdd,Nat.reduceMul,Nat.reduceLeDiff,Nat.reduceEqDiff,reduceCtorEq,hfr,d1,d2]
 by_cases h3:80<p.fs.l.length
 ·refine ⟨false,go _ fun m hm d out t hfr=>?_,fun h=>by cases h⟩
  have d1:decide (((p.ns.l.length:Nat):Int) > 40)=false:=by simp; omega
  have d2:decide (((p.as.l.length:Nat):Int) > 40)=false:=by simp; omega
  have d3:decide (((p.fs.l.length:Nat):Int) > 80)=true:=by simp; omega
  simp only [za,zb,Pn.c] at hfr
  simp only [i14,V0,Nat.reduceLT,Nat.reduceAdd,Nat.reduceMul,Nat.reduceLeDiff,Nat.reduceEqDiff,reduceCtorEq,hfr,d1,d2,d3]
 have d1:decide (((p.ns.l.length:Nat):Int) > 40)=false:=by simp; omega
 have d2:decide (((p.as.l.length:Nat):Int) > 40)=false:=by simp; omega
 have d3:decide (((p.fs.l.length:Nat):Int) > 80)=false:=by simp; omega
 by_cases h4:∀ a∈p.as.l,a.via.l.length<=300
 ·-- the sum decides
  have sum:∀ l:List Ac,(∀ a∈l,a.via.l.length<=300)->(l.map fun a=>a.via.l.length).sum<=l.length*300:=fun l=>by
   induction l with
   | nil=>intro _; simp
   | cons a l ih =>
    intro h
    have:=ih fun b hb=>h b (List.mem_cons_of_mem _ hb)
    have:=h a (zbn ..)
    simp only [List.map_cons,List.sum_cons,zau]
    omega
  refine ⟨decide ((((p.as.l.map fun a=>a.via.l.length).sum:Nat):Int)<=300),go _ fun m hm d out t hfr=>?_,fun _=>⟨by omega,by omega,h4⟩⟩
  simp only [za,zb,Pn.c] at hfr
  simp only [i14,V0,Nat.reduceLT,Nat.reduceAdd,Nat.reduceMul,Nat.reduceLeDiff,Nat.reduceEqDiff,reduceCtorEq,hfr,d1,d2,d3]
  refine zd (fun jj st=>∃ (i:Nat),p.as.l.length - i<=jj/\i<=p.as.l.length/\st.own=[.cells [p.ns.v,p.as.v,p.fs.v]]/\Slots 47 st.t [(1,.ptrM d 0 0),(3,.int .i64 ((((p.as.l.take i).map fun a=>a.via.l.length).sum:Nat):Int)),(4,iv i)]) p.as.l.length (by omega) ⟨0,by omega,by omega,rfl,by simp only [V0,Nat.reduceLT,Nat.reduceAdd,Nat.reduceMul,Nat.reduceLeDiff,Nat.reduceEqDiff,reduceCtorEq,hfr,d1,d2,d3,zbe]; trivial⟩ ?_
  clear hfr
  rintro jj ⟨t,own⟩ KA ⟨i,hjj,hi,ho,hfr⟩ hnA heA hrA
  dsimp only at ho hfr
  subst ho
  simp only [za,zb,zg] at hfr
  by_cases h:i<p.as.l.length
  ·have hx:p.as.l[i]?=some p.as.l[i]:=zak h
   have hvx:=h4 _ (List.getElem_mem h)
   generalize p.as.l[i]=x at hx hvx
   have hrd:rdN (p.as.l.flatMap Ac.c) (i*6+3) 1=some [x.via.v]:=(ze Ac.c_len 3 1 hx (by omega)).trans rfl
   have hw:wrapI .i64 ((i:Int)+1)=((i+1:Nat):Int):=zk (by omega) (by omega)
   have d4:decide (((x.via.l.length:Nat):Int) > 300)=false:=by simp; omega
   have hs1:=sum (p.as.l.take i) fun a ha=>h4 a (List.mem_of_mem_take ha)
   rw [zbl] at hs1
   have hs2:(((p.as.l.take (i+1)).map fun a=>a.via.l.length).sum)=((p.as.l.take i).map fun a=>a.via.l.length).sum+x.via.l.length:=by
    rw [Yq hx,List.map_append,List.sum_append]
    simp
   have hw2:wrapI .i64 (((((p.as.l.take i).map fun a=>a.via.l.length).sum:Nat):Int)+((x.via.l.length:Nat):Int))=((((p.as.l.take (i+1)).map fun a=>a.via.l.length).sum:Nat):Int):=zk (by rw [hs2]; omega) (by rw [hs2]; omega)
   simp only [V0,Nat.reduceLT,Nat.reduceAdd,Nat.reduceMul,Nat.reduceLeDiff,Nat.reduceEqDiff,reduceCtorEq,hfr,h,zc p.as h,hrd,d4,hw,hw2]
   exact hnA _ (p.as.l.length - (i+1)) (by omega) ⟨i+1,by omega,by omega,rfl,by simp only [V0,Nat.reduceLT,Nat.reduceAdd,Nat.reduceMul,Nat.reduceLeDiff,Nat.reduceEqDiff,reduceCtorEq,hfr,h,zc p.as h,hrd,d4,hw,hw2]⟩
  ·simp only [V0,Nat.reduceLT,Nat.reduceAdd,Nat.reduceMul,Nat.reduceLeDiff,Nat.reduceEqDiff,reduceCtorEq,hfr,h]
   refine heA _ _ ?_
   have e:p.as.l.take i=p.as.l:=za0 (by omega)
   simp only [V0,Nat.reduceLT,Nat.reduceAdd,Nat.reduceMul,Nat.reduceLeDiff,Nat.reduceEqDiff,reduceCtorEq,hfr,e]
 ·refine ⟨false,go _ fun m hm d out t hfr=>?_,fun h=>by cases h⟩
  have hex:∃ (k:Nat) (x:Ac),p.as.l[k]?=some x/\300<x.via.l.length/\∀ j y,j<k->p.as.l[j]?=some y->y.via.l.length<=300:=by
   obtain ⟨a,ha⟩:=Classical.not_forall.1 h4
   obtain ⟨ha,hva⟩:=Classical.not_imp.1 ha
   have hf:(p.as.l.findIdx? fun a=>decide (300<a.via.l.length))≠none:=fun h=>by
    rw [List.findIdx?_eq_none_iff] at h
    have:=h a ha
    simp at this
    omega
   obtain ⟨k,hk⟩:=Option.ne_none_iff_exists'.1 hf
   obtain ⟨hlt,h1,h2⟩:=List.findIdx?_eq_some_iff_getElem.1 hk
   refine ⟨k,p.as.l[k],zak hlt,by simpa using h1,fun j y hj hy=>?_⟩
   have:=h2 j hj
   obtain ⟨hj2,rfl⟩:=zal.1 hy
   simpa using this
  obtain ⟨k,xk,hxk,hvk,hlow⟩:=hex
  have hkl:=(zal.1 hxk).1
  simp only [za,zb,Pn.c] at hfr
  simp only [i14,V0,Nat.reduceLT,Nat.reduceAdd,Nat.reduceMul,Nat.reduceLeDiff,Nat.reduceEqDiff,reduceCtorEq,hfr,d1,d2,d3]
  refine zd (fun jj st=>∃ (i n:Nat),k - i<=jj/\i<=k/\n<=i*300/\st.own=[.cells [p.ns.v,p.as.v,p.fs.v]]/\Slots 47 st.t [(1,.ptrM d 0 0),(3,iv n),(4,iv i)]) k (by omega) ⟨0,0,by omega,by omega,by omega,rfl,by simp only [V0,Nat.reduceLT,Nat.reduceAdd,Nat.reduceMul,Nat.reduceLeDiff,Nat.reduceEqDiff,reduceCtorEq,hfr,d1,d2,d3,zbe]⟩ ?_
  clear hfr
  rintro jj ⟨t,own⟩ KA ⟨i,n,hjj,hi,hnb,ho,hfr⟩ hnA heA hrA
  dsimp only at ho hfr
  subst ho
  simp only [za,zb,zg] at hfr
  have h:i<p.as.l.length:=by omega
  have hx:p.as.l[i]?=some p.as.l[i]:=zak h
  generalize p.as.l[i]=x at hx
  have hrd:rdN (p.as.l.flatMap Ac.c) (i*6+3) 1=some [x.via.v]:=(ze Ac.c_len 3 1 hx (by omega)).trans rfl
  by_cases hik:i=k
  ·subst hik
   rw [← zbh (hx.symm.trans hxk)] at hvk
   have d4:decide (((x.via.l.length:Nat):Int) > 300)=true:=by simp; omega
   simp only [V0,Nat.reduceLT,Nat.reduceAdd,Nat.reduceMul,Nat.reduceLeDiff,Nat.reduceEqDiff,reduceCtorEq,hfr,h,zc p.as h,hrd,d4]
   refine hrA _ ?_
   simp only [V0,Nat.reduceLT,Nat.reduceAdd,Nat.reduceMul,Nat.reduceLeDiff,Nat.reduceEqDiff,reduceCtorEq,hfr,h,zc p.as h,hrd,d4]
  ·have hvx:=hlow i x (by omega) hx
   have d4:decide (((x.via.l.length:Nat):Int) > 300)=false:=by simp; omega
   have hw:wrapI .i64 ((i:Int)+1)=((i+1:Nat):Int):=zk (by omega) (by omega)
   have hw2:wrapI .i64 ((n:Int)+((x.via.l.length:Nat):Int))=((n+x.via.l.length:Nat):Int):=zk (by omega) (by omega)
   simp only [V0,Nat.reduceLT,Nat.reduceAdd,Nat.reduceMul,Nat.reduceLeDiff,Nat.reduceEqDiff,reduceCtorEq,hfr,h,zc p.as h,hrd,d4,hw,hw2]
   exact hnA _ (k - (i+1)) (by omega) ⟨i+1,n+x.via.l.length,by omega,by omega,by omega,rfl,by simp only [V0,Nat.reduceLT,Nat.reduceAdd,Nat.reduceMul,Nat.reduceLeDiff,Nat.reduceEqDiff,reduceCtorEq,hfr,h,zc p.as h,hrd,d4,hw,hw2]⟩
theorem small_run (hS:NoS S) (s:Sv):∃ b,GivesN S (s.pl.as.l.length+s.ft.l.length+20) 5 [.agg s.c] (.bool b)/\(b=true->Sm s):=by
 obtain ⟨b0,hb0,hs0⟩:=small15_run hS s.pl
 have hf:=s.ft.few
 have go:∀ (b:Bool),(∀ m,s.pl.as.l.length+s.ft.l.length+19<=m->∀ d out t,Slots 39 t [(0,.agg s.c)]->Ex (callN Ftab S m) d out m i5.body (Fin d out i5.res (.bool b)) ⟨t,[]⟩)->GivesN S (s.pl.as.l.length+s.ft.l.length+20) 5 [.agg s.c] (.bool b):=fun b h=>zh (i:=i5) (hS _ _ (by decide) (by decide) (by decide) (by decide)) rfl rfl (zam rfl) (s.pl.as.l.length+s.ft.l.length+19) (by omega) zm fun m hm d out t hfr=>h m hm d out t hfr
 cases b0
 ·refine ⟨false,go _ fun m hm d out t hfr=>?_,fun h=>by cases h⟩
  have c0:=fun d out ownV own i=>hb0 m (by omega) d out ownV own i
  simp only [Pn.c] at c0
  simp only [za,zb,Sv.c] at hfr
  simp only [i5,V0,Nat.reduceLT,Nat.reduceAdd,Nat.reduceMul,Nat.reduceLeDiff,Nat.reduceEqDiff,reduceCtorEq,hfr,c0]
 obtain ⟨g1,g2,g3⟩:=hs0 rfl
 by_cases h1:20<s.ft.l.length
 ·refine ⟨false,go _ fun m hm d out t hfr=>?_,fun h=>by cases h⟩
  have c0:=fun d out ownV own i=>hb0 m (by omega) d out ownV own i
  have d1:decide (((s.ft.l.length:Nat):Int) > 20)=true:=by simp; omega
  simp only [Pn.c] at c0
  simp only [za,zb,Sv.c] at hfr
  simp only [i5,V0,Nat.reduceLT,Nat.reduceAdd,Nat.reduceMul,Nat.reduceLeDiff,Nat.reduceEqDiff,reduceCtorEq,hfr,c0,d1]
 have d1:decide (((s.ft.l.length:Nat):Int) > 20)=false:=by simp; omega
 have hp:∀ f:Ft,f.parts.l.length<9223372036854775808:=fun f=>f.parts.few
 by_cases h4:∀ f∈s.ft.l,f.parts.l.length<=70/\f.name.1.size<=200
 ·refine ⟨true,go _ fun m hm d out t hfr=>?_,fun _=>⟨g1,g2,g3,by omega,fun f hf=>(h4 f hf).1⟩⟩
  have c0:=fun d out ownV own i=>hb0 m (by omega) d out ownV own i
  simp only [Pn.c] at c0
  simp only [za,zb,Sv.c] at hfr
  simp only [i5,V0,Nat.reduceLT,Nat.reduceAdd,Nat.reduceMul,Nat.reduceLeDiff,Nat.reduceEqDiff,reduceCtorEq,hfr,c0,d1]
  refine zd (fun jj st=>∃ (i:Nat),s.ft.l.length - i<=jj/\i<=s.ft.l.length/\st.own=[.cells [s.pl.ns.v,s.pl.as.v,s.pl.fs.v,s.ft.v],.free]/\Slots 39 st.t [(1,.ptrM d 0 0),(3,iv i)]) s.ft.l.length (by omega) ⟨0,by omega,by omega,rfl,by simp only [V0,Nat.reduceLT,Nat.reduceAdd,Nat.reduceMul,Nat.reduceLeDiff,Nat.reduceEqDiff,reduceCtorEq,hfr,c0,d1,zbe]⟩ ?_
  clear hfr
  rintro jj ⟨t,own⟩ KA ⟨i,hjj,hi,ho,hfr⟩ hnA heA hrA
  dsimp only at ho hfr
  subst ho
  simp only [za,zb,zg] at hfr
  by_cases h:i<s.ft.l.length
  ·have hx:s.ft.l[i]?=some s.ft.l[i]:=zak h
   have hvx:=h4 _ (List.getElem_mem h)
   generalize s.ft.l[i]=x at hx hvx
   have hr1:rdN (s.ft.l.flatMap Ft.c) (i*5+4) 1=some [x.parts.v]:=(ze Ft.c_len 4 1 hx (by omega)).trans rfl
   have hr2:rdN (s.ft.l.flatMap Ft.c) (i*5+3) 1=some [.str x.name.1]:=(ze Ft.c_len 3 1 hx (by omega)).trans rfl
   have hw:wrapI .i64 ((i:Int)+1)=((i+1:Nat):Int):=zk (by omega) (by omega)
   have d4:decide (((x.parts.l.length:Nat):Int) > 70)=false:=by simp; omega
   have d5:decide (((x.name.1.size:Nat):Int) > 200)=false:=by simp; omega
   simp only [V0,Nat.reduceLT,Nat.reduceAdd,Nat.reduceMul,Nat.reduceLeDiff,Nat.reduceEqDiff,reduceCtorEq,hfr,h,zc s.ft h,hr1,hr2,yC,d4,d5,hw]
   exact hnA _ (s.ft.l.length - (i+1)) (by omega) ⟨i+1,by omega,by omega,rfl,by simp only [V0,Nat.reduceLT,Nat.reduceAdd,Nat.reduceMul,Nat.reduceLeDiff,Nat.reduceEqDiff,reduceCtorEq,hfr,h,zc s.ft h,hr1,hr2,yC,d4,d5,hw]⟩
  ·simp only [V0,Nat.reduceLT,Nat.reduceAdd,Nat.reduceMul,Nat.reduceLeDiff,Nat.reduceEqDiff,reduceCtorEq,hfr,h]
   refine heA _ _ ?_
   simp only [V0,Nat.reduceLT,Nat.reduceAdd,Nat.reduceMul,Nat.reduceLeDiff,Nat.reduceEqDiff,reduceCtorEq,hfr]
 ·refine ⟨false,go _ fun m hm d out t hfr=>?_,fun h=>by cases h⟩
  have c0:=fun d out ownV own i=>hb0 m (by omega) d out ownV own i
  have hex:∃ (k:Nat) (x:Ft),s.ft.l[k]?=some x/\¬ (x.parts.l.length<=70/\x.name.1.size<=200)/\∀ j y,j<k->s.ft.l[j]?=some y->y.parts.l.length<=70/\y.name.1.size<=200:=by
   obtain ⟨a,ha⟩:=Classical.not_forall.1 h4
   obtain ⟨ha,hva⟩:=Classical.not_imp.1 ha
   have hf:(s.ft.l.findIdx? fun a=>decide (¬ (a.parts.l.length<=70/\a.name.1.size<=200)))≠none:=fun h=>by
    rw [List.findIdx?_eq_none_iff] at h
    have:=h a ha
    simp only [decide_eq_false_iff_not,Classical.not_not] at this
    exact hva this
   obtain ⟨k,hk⟩:=Option.ne_none_iff_exists'.1 hf
   obtain ⟨hlt,h1,h2⟩:=List.findIdx?_eq_some_iff_getElem.1 hk
   refine ⟨k,s.ft.l[k],zak hlt,of_decide_eq_true h1,fun j y hj hy=>?_⟩
   have:=h2 j hj
   obtain ⟨hj2,rfl⟩:=zal.1 hy
   simpa using this
  obtain ⟨k,xk,hxk,hvk,hlow⟩:=hex
  have hkl:=(zal.1 hxk).1
  simp only [Pn.c] at c0
  simp only [za,zb,Sv.c] at hfr
  simp only [i5,V0,Nat.reduceLT,Nat.reduceAdd,Nat.reduceMul,Nat.reduceLeDiff,Nat.reduceEqDiff,reduceCtorEq,hfr,c0,d1]
  refine zd (fun jj st=>∃ (i:Nat),k - i<=jj/\i<=k/\st.own=[.cells [s.pl.ns.v,s.pl.as.v,s.pl.fs.v,s.ft.v],.free]/\Slots 39 st.t [(1,.ptrM d 0 0),(3,iv i)]) k (by omega) ⟨0,by omega,by omega,rfl,by simp only [V0,Nat.reduceLT,Nat.reduceAdd,Nat.reduceMul,Nat.reduceLeDiff,Nat.reduceEqDiff,reduceCtorEq,hfr,c0,d1,zbe]⟩ ?_
  clear hfr
  rintro jj ⟨t,own⟩ KA ⟨i,hjj,hi,ho,hfr⟩ hnA heA hrA
  dsimp only at ho hfr
  subst ho
  simp only [za,zb,zg] at hfr
  have h:i<s.ft.l.length:=by omega
  have hx:s.ft.l[i]?=some s.ft.l[i]:=zak h
  generalize s.ft.l[i]=x at hx
  have hr1:rdN (s.ft.l.flatMap Ft.c) (i*5+4) 1=some [x.parts.v]:=(ze Ft.c_len 4 1 hx (by omega)).trans rfl
  have hr2:rdN (s.ft.l.flatMap Ft.c) (i*5+3) 1=some [.str x.name.1]:=(ze Ft.c_len 3 1 hx (by omega)).trans rfl
  by_cases hik:i=k
  ·subst hik
   rw [← zbh (hx.symm.trans hxk)] at hvk
   by_cases hp70:x.parts.l.length<=70
   ·have d4:decide (((x.parts.l.length:Nat):Int) > 70)=false:=by simp; omega
    have d5:decide (((x.name.1.size:Nat):Int) > 200)=true:=by simp; omega
    simp only [V0,Nat.reduceLT,Nat.reduceAdd,Nat.reduceMul,Nat.reduceLeDiff,Nat.reduceEqDiff,reduceCtorEq,hfr,h,zc s.ft h,hr1,hr2,yC,d4,d5]
    refine hrA _ ?_
    simp only [V0,Nat.reduceLT,Nat.reduceAdd,Nat.reduceMul,Nat.reduceLeDiff,Nat.reduceEqDiff,reduceCtorEq,hfr,h,zc s.ft h,hr1,hr2,yC,d4,d5]
   ·have d4:decide (((x.parts.l.length:Nat):Int) > 70)=true:=by simp; omega
    simp only [V0,Nat.reduceLT,Nat.reduceAdd,Nat.reduceMul,Nat.reduceLeDiff,Nat.reduceEqDiff,reduceCtorEq,hfr,h,zc s.ft h,hr1,hr2,yC,d4]
    refine hrA _ ?_
    simp only [V0,Nat.reduceLT,Nat.reduceAdd,Nat.reduceMul,Nat.reduceLeDiff,Nat.reduceEqDiff,reduceCtorEq,hfr,h,zc s.ft h,hr1,hr2,yC,d4]
  ·have hvx:=hlow i x (by omega) hx
   have hw:wrapI .i64 ((i:Int)+1)=((i+1:Nat):Int):=zk (by omega) (by omega)
   have d4:decide (((x.parts.l.length:Nat):Int) > 70)=false:=by simp; omega
   have d5:decide (((x.name.1.size:Nat):Int) > 200)=false:=by simp; omega
   simp only [V0,Nat.reduceLT,Nat.reduceAdd,Nat.reduceMul,Nat.reduceLeDiff,Nat.reduceEqDiff,reduceCtorEq,hfr,h,zc s.ft h,hr1,hr2,yC,d4,d5,hw]
   exact hnA _ (k - (i+1)) (by omega) ⟨i+1,by omega,by omega,rfl,by simp only [V0,Nat.reduceLT,Nat.reduceAdd,Nat.reduceMul,Nat.reduceLeDiff,Nat.reduceEqDiff,reduceCtorEq,hfr,h,zc s.ft h,hr1,hr2,yC,d4,d5,hw]⟩
end
end
end Go.Proofs.YtgmifgfbnnbgjaaGreatDoor
end
