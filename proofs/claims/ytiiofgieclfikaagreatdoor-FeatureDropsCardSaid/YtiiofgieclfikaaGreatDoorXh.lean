/-
  A part of the proof: the small machine, its simulation and its walks.
-/
import Derived.Test.YtiiofgieclfikaaGreatDoorXd
import Derived.Test.YtiiofgieclfikaaGreatDoorXg
set_option linter.unusedVariables false
set_option linter.unusedSimpArgs false
set_option maxRecDepth 1000000
set_option maxHeartbeats 3200000
section
namespace Go.Proofs.YtiiofgieclfikaaGreatDoor
open Go Go.RowKit
section
theorem Y2 {lk:Nat->Nat->Option IObj} {x:IV} {tight:Bool}:cellsI lk 1 (.slC [x] 1 1 tight)=some ([x],1):=by
 simp [cellsI,seg,zf]
theorem pre_split {J0 J':yLO} (h:∀ j,j<J0.length->J'[j]?=J0[j]?) (hl:J0.length<=J'.length):∃ R,J'=J0++R:=⟨J'.drop J0.length,by
 refine List.ext_getElem? fun j=>?_
 by_cases hj:j<J0.length
 ·rw [h j hj,zb8 hj]
 ·rw [zcb (by omega),List.getElem?_drop]
  congr 1
  omega⟩
theorem ownJ_app3 {α:Type} {g:α->List IV} {sz:Nat} (hs:∀ a,(g a).length=sz) {d n0 slot k k0:Nat} {out:yLM} {Pre J R:yLO} {lv:IV} {xs ys:List α} (hk0:Pre.length=k0) (h:OwnJ g sz d k0 J lv xs) (hy:ys.length≠0) (hx:xs.length+ys.length<=1073741824) (hk:n0+slot=k0+(J.length+k)) (hf:R[k]?=some .free)
  (hsc:(ys.flatMap g).all IV.scalar=true) :
  ∃ e lv' J2,appendI d n0 (look d out (Pre++(J++R))) (Pre++(J++R)) sz lv (ys.flatMap g) ys.length slot=some (e,lv',Pre++J2)/\OwnJ g sz d k0 J2 lv' (xs++ys)/\(∀ j x,j≠J.length+k->(J++R)[j]?=some x->x≠.cells (xs.flatMap g)->J2[j]?=some x)/\J2.length=(J++R).length:=by
 subst hk0
 have hkl:k<R.length:=(zb6.1 hf).1
 have hget:(J++R)[J.length+k]?=some .free:=by
  rw [zcb (by omega),zdd]
  exact hf
 have hlt:J.length+k<(J++R).length:=by rw [zce]; omega
 have hne:xs++ys≠[]:=by
  intro he
  exact hy (by rw [(List.append_eq_nil_iff.1 he).2]; rfl)
 rcases h with ⟨rfl,rfl⟩ | ⟨b,_,rfl,h2⟩
 ·rw [ZV hy (by unfold bound; simp at hx; omega)]
  unfold mkAt
  rw [hk,zZ,hget]
  simp only [zf]
  rw [yc]
  refine ⟨_,_,_,rfl,.inr ⟨J.length+k,hne,by simp,?_⟩,fun j x hj hx2 _=>?_,by rw [zdn]⟩
  ·rw [zdb hlt]
   rfl
  ·rw [zc5 (Ne.symm hj)]
   exact hx2
 ·have hb:b<J.length:=(zb6.1 h2).1
  have hb2:(J++R)[b]?=some (.cells (xs.flatMap g)):=by rw [zb8 hb]; exact h2
  rw [y5 hy hx (zu hs) hsc (by simp only [look,if_true,zZ]; exact hb2)]
  unfold killAt
  rw [hk,zZ,hget]
  simp only [zf]
  rw [yc,yc]
  refine ⟨_,_,_,rfl,.inr ⟨J.length+k,hne,by simp,?_⟩,fun j x hj hx2 hne2=>?_,by rw [zdn,zdn]⟩
  ·rw [zdb (by rw [zdn]; exact hlt)]
   simp
  ·rw [zc5 (Ne.symm hj)]
   by_cases hjb:j=b
   ·subst hjb
    rw [hb2] at hx2
    cases hx2
    exact absurd rfl hne2
   ·rw [zc5 (Ne.symm hjb)]
    exact hx2
def cyP (z:IV × List Int):List IV:=[z.1]
theorem cyP_len (z:IV × List Int):(cyP z).length=1:=rfl
def CyOK (D k0 B:Nat) (xs:List Int) (J:yLO) (L:List (IV × List Int)):Prop:=∀ z∈L,(∃ b,z.1=.slM D (k0+b) 0 z.2.length z.2.length 1 false/\J[b]?=some (.cells (z.2.flatMap intc)))/\(∃ h r,z.2=h::r/\h∈xs)/\z.2.length<=B
theorem cy_ne {D k0 B:Nat} {xs:List Int} {J:yLO} {L:List (IV × List Int)} (hL:CyOK D k0 B xs J L) {h:Int} {r:List Int}:IObj.cells ((h::r).flatMap intc)≠.cells (L.flatMap cyP):=by
 intro he
 cases L with
 | nil=>simp [intc] at he
 | cons z L =>
  obtain ⟨⟨b,hb,_⟩,_⟩:=hL z (zdk ..)
  have h1:=IObj.cells.inj he
  rw [zcs,zcs] at h1
  simp only [intc,zg,cyP,zcu,zc4,List.cons.injEq,hb] at h1
  cases h1.1
section
variable {S:ySM}
theorem cy_loop (hS:NoS S) {m D:Nat} {out:yLM} {K:yKM} (U xs:List Int) (hm:U.length+xs.length+10<=m) (hU:U.length<=1000000) (hxl:xs.length<=1000000) (P:yLO) (nx:List (Int × Int)) (nbs:List Nat) (nck:Nat) (hP2:P[2]?=some (.map (mKs nx) (mVs (IV.int .i64) nx) nbs nck)) (hP3:P[3]?=some (.cells [.mapM D 2])) (hnx:∀ k,lkM 0 nx k∈U) (hxU:∀ z∈xs,z∈U)
  (dv:IV) (hdv:(xs=[]/\dv=.nilsl)∨∃ b,dv=.slM D b 0 xs.length xs.length 1 false/\P[b]?=some (.cells (xs.flatMap intc))) (t:List IV) (hfr:Slots 72 t [(2,.nilsl),(4,dv),(11,.ptrM D (P.length+1) 0),(12,.fn 91 [] [.ptrM D (P.length+1) 0,.ptrM D 3 0])])
  (hK:∀ t' lv sn bs ck J L,OwnJ cyP 1 D (P.length+2) J lv L->CyOK D (P.length+2) U.length xs J L->L.length<=xs.length->Slots 72 t' [(2,lv)]->K .normal ⟨t',P++.map (mKs sn) (mVs IV.bool sn) bs ck::.cells [.mapM D P.length]::J⟩) :
  Ex (callN Ftab S m) D out m (i64.body.sub [1,1,1,1,1,1,1,1,0]) K ⟨t,P++.map [] [] [] 0::.cells [.mapM D P.length]::[]⟩:=by
 simp only [V3] at hfr
 have hlen:∀ ownV own,lenV D out ownV own 1 dv=some (.p,.int .i64 (xs.length:Nat),own):=fun ownV own=>by
  rcases hdv with ⟨rfl,rfl⟩ | ⟨b,rfl,_⟩ <;> rfl
 have f0:∀ x R,(P++x::R)[P.length]?=some x:=fun x R=>by rw [zcb (zcf _),zea]; rfl
 have f1:∀ x y R,(P++x::y::R)[P.length+1]?=some y:=fun x y R=>by rw [zcb (by omega),zdd]; rfl
 simp only [i64,IC.sub,V0,sevalprocAttr,hfr,hlen]
 refine zb (fun jj st=>∃ (i:Nat) (lv:IV) (J:yLO) (sn:List (Int × Bool)) (bs:List Nat) (ck:Nat) (L:List (IV × List Int)),xs.length - i<=jj/\i<=xs.length/\OwnJ cyP 1 D (P.length+2) J lv L/\CyOK D (P.length+2) U.length xs J L/\L.length<=i/\st.own=P++.map (mKs sn) (mVs IV.bool sn) bs ck::.cells [.mapM D P.length]::J/\Slots 72 st.t [(2,lv),(4,dv),(11,.ptrM D (P.length+1) 0),(12,.fn 91 [] [.ptrM D (P.length+1) 0,.ptrM D 3 0]),(54,dv),(55,iv (xs.length:Nat)),(56,iv i)]) xs.length (by omega) ⟨0,.nilsl,[],[],[],0,[],by omega,by omega,.inl ⟨rfl,rfl⟩,fun _ h=>by simp at h,by simp,rfl,by simp only [V0,sevalprocAttr,hfr,zcp]⟩ ?_
 clear hfr
 rintro jj ⟨t,own⟩ KA ⟨i,lv,J,sn,bs,ck,L,hjj,hi,hO,hL,hLl,ho,hfr⟩ hnA heA hrA
 dsimp only at ho hfr
 subst ho
 simp only [V3] at hfr
 by_cases h:i<xs.length
 ·have hx1:xs[i]?=some xs[i]:=zb7 h
  have hz:xs[i]∈xs:=zdj h
  generalize xs[i]=z at hx1 hz
  obtain ⟨b,rfl,hb⟩:∃ b,dv=.slM D b 0 xs.length xs.length 1 false/\P[b]?=some (.cells (xs.flatMap intc)):=by
   rcases hdv with ⟨rfl,_⟩ | h
   ·simp at h
   ·exact h
  have hbl:b<P.length:=(zb6.1 hb).1
  have fb:∀ R,(P++R)[b]?=some (.cells (xs.flatMap intc)):=fun R=>by rw [zb8 hbl]; exact hb
  have hrd:rdN (xs.flatMap intc) (i*1) 1=some [.int .i64 z]:=(zc zi 0 1 hx1 (by omega)).trans rfl
  have hia:∀ own,iaddrV own 1 (.slM D b 0 xs.length xs.length 1 false) (.int .i64 (i:Int))=some (.p,.ptrM D b (0+i*1),own):=fun own=>zI h
  simp only [zcq] at hia
  have hw:wrapI .i64 ((i:Int)+1)=((i+1:Nat):Int):=we
  have evS:∀ (R:yLO) (C:Call) (n0:Nat) (own:yLO) (t:List IV) (a b:Opd),ρ t a=.mapM D P.length->ρ t b=.int .i64 z->evOp C D out n0 (P++.map (mKs sn) (mVs IV.bool sn) bs ck::R) own t (.lookup (.bool false) (false,[1]) false a b)=some (.r,.bool (lkM false sn z),own):=fun R C n0 own t a b h1 h2=>ZO (bs:=bs) (ck:=ck) false z rfl h1 h2 (by simp only [look,if_true,f0])
  cases hs:lkM false sn z
  ·obtain ⟨lv',J',sn',bs',ck',ys,hc,hOB,hkeep,hJl,hhd,hyl⟩:=follow_run (out:=out) hS (m:=m) U (by omega) hU P (J++[.free,.free]) nx nbs nck hP2 hP3 hnx z (hxU z hz) sn bs ck (P++.map (mKs sn) (mVs IV.bool sn) bs ck::.cells [.mapM D P.length]::(J++[.free,.free]))
   obtain ⟨R',rfl⟩:=pre_split hkeep hJl
   obtain ⟨r,rfl⟩:=hhd hs
   obtain ⟨b2,hb2,_,rfl,hget2⟩:∃ b,(J++[IObj.free,.free]).length<=b/\(z::r)≠[]/\lv'=.slM D (P.length+2+b) 0 (z::r).length (z::r).length 1 false/\(J++[.free,.free]++R')[b]?=some (.cells ((z::r).flatMap intc)):=by
    rcases hOB with ⟨h,_⟩ | h
    ·cases h
    ·exact h
   obtain ⟨e,lv2,J2,happ,hO2,hk2,hl2⟩:=ownJ_app3 (Pre:=P++[.map (mKs sn') (mVs IV.bool sn') bs' ck',.cells [.mapM D P.length]]) (n0:=P.length+(J.length+1+1)) (slot:=1) (k:=1) (out:=out) (R:=.free::.free::R') cyP_len (by simp) hO (ys:=[(.slM D (P.length+2+b2) 0 (z::r).length (z::r).length 1 false,z::r)]) (by simp) (by simp only [zcc,zci]; omega) (by omega) rfl rfl
   simp only [zcy,zcu,zc4,zcs,zdo,cyP,zg,zcc,zci,zda,zcq] at happ
   simp only [zcy,zcu,zc4] at hc hget2
   simp only [zce,zcc,zci] at hb2
   generalize hv:(IV.slM D (P.length+2+b2) 0 (r.length+1) (r.length+1) 1 false)=lv' at happ
   have hv':(IV.slM D (P.length+2+b2) 0 (z::r).length (z::r).length 1 false)=lv':=by rw [← hv,zcc]
   rw [hv'] at hc
   have sc:lv'.scalar=true:=by rw [← hv]; rfl
   have cl:lv'.cells=[lv']:=by rw [← hv]; rfl
   simp only [V0,sevalprocAttr,hfr,h,hia,fb,hrd,f0,f1,evS,hs,hc,rep,zw,zF,zJ,sc,cl,Y2,happ,hw]
   refine hnA _ (xs.length - (i+1)) (by omega) ⟨i+1,lv2,J2,sn',bs',ck',_,by omega,by omega,hO2,fun y hy=>?_,by simp only [zce,zcc,zci]; omega,rfl,by simp only [V0,sevalprocAttr,hfr,hw]⟩
   rcases zd4.1 hy with hy | hy
   ·obtain ⟨⟨b,h1,h2⟩,⟨h',r',h3,h4⟩,h5⟩:=hL y hy
    have hbJ:=(zb6.1 h2).1
    refine ⟨⟨b,h1,hk2 b _ (by omega) (by rw [zb8 hbJ]; exact h2) ?_⟩,⟨h',r',h3,h4⟩,h5⟩
    rw [h3]
    exact cy_ne hL
   ·obtain rfl:=zd8.1 hy
    refine ⟨⟨b2,rfl,hk2 b2 _ (by omega) hget2 (cy_ne hL)⟩,⟨z,r,rfl,hz⟩,hyl⟩
  ·simp only [V0,sevalprocAttr,hfr,h,hia,fb,hrd,f0,f1,evS,hs,hw]
   exact hnA _ (xs.length - (i+1)) (by omega) ⟨i+1,lv,J,sn,bs,ck,L,by omega,by omega,hO,hL,by omega,rfl,by simp only [V0,sevalprocAttr,hfr,hw]⟩
 ·simp only [V0,sevalprocAttr,hfr,h]
  refine heA _ _ ?_
  simp only [V0,sevalprocAttr,hfr]
  exact hK _ _ _ _ _ _ _ hO hL (by omega) (by simp only [V0,sevalprocAttr,hfr])
end
end
section
def cyG (q:SlOf 1 intc):List IV:=[q.v]
theorem yy (q:SlOf 1 intc):(cyG q).length=1:=rfl
def HeadOK (p:Pn) (c:List Int):Prop:=∃ h r,c=h::r/\∃ a∈p.as.l,(h=a.id∨h=wrapI .i64 (0 - a.id))/\pathOk p a.id=true
theorem frz_slM {n D b len:Nat} {own:yLO} {c c':List IV} (hb:own[b]?=some (.cells c)) (hc:c.length=len) (hm:c.mapM (freeze n D own)=some c'):freeze (n+1) D own (.slM D b 0 len len 1 false)=some (.slC c' len 1 false):=by
 have hseg:seg c 0 (len*1)=some c:=by
  unfold seg
  rw [zf,if_pos (by omega),List.drop_zero,zcr (by omega)]
 simp only [freeze,if_true,hb,hseg,zch,hm,zb9,zcw]
theorem cys_fz {n D:Nat} {own:yLO} (hn:2<=n):∀ {L:List (IV × List Int)},(∀ z∈L,(∃ b,z.1=.slM D b 0 z.2.length z.2.length 1 false/\own[b]?=some (.cells (z.2.flatMap intc)))/\z.2.length<9223372036854775808/\z.2≠[])->∃ cs:List (SlOf 1 intc),cs.map (·.l)=L.map Prod.snd/\(L.flatMap cyP).mapM (freeze n D own)=some (cs.flatMap cyG)
 | [],_=>⟨[],rfl,rfl⟩
 | z::L,h=>by
  obtain ⟨cs,h1,h2⟩:=cys_fz hn (L:=L) fun x hx=>h x (zd0 _ hx)
  obtain ⟨⟨b,hv,hb⟩,hl,hne⟩:=h z (zdk ..)
  have hz:=YB (g:=intc) (Pre:=[]) (J:=own) (d:=D) (m:=n) (lv:=z.1) (xs:=z.2) zi (fun a x hx=>by
   simp only [intc,zcx,zc1,or_false] at hx
   subst hx
   exact zy) hn hl (.inr ⟨b,hne,by rw [hv]; simp,hb⟩)
  rw [zc4] at hz
  refine ⟨rowQ zi z.2 hl::cs,by rw [zdc,zdc,h1,ZB],?_⟩
  simp only [zcs,cyP,cyG,zcu,zc4,zdg,hz,zdz,zdp,zch]
  rw [h2]
  rfl
theorem cyc_cl (q:SlOf 1 cyG) (n:Nat):clF (n+3) q.v=true:=by
 have hh:∀ (cs:List IV) (k:Nat) (v:IV),Sl 1 cs k v->cs.all (clF (n+2))=true->clF (n+3) v=true:=fun cs k v h hc=>by
  cases h with
  | nil=>rfl
  | row cs n tight hl=>exact hc
 refine hh _ _ _ q.ok ?_
 rw [zdh]
 intro x hx
 obtain ⟨a,_,ha⟩:=zdy.1 hx
 simp only [cyG,zcx,zc1,or_false] at ha
 subst ha
 exact ZD a n
theorem lkM_mem {β:Type} {z:β} {L:List (Int × β)} {id:Int}:lkM z L id=z∨lkM z L id∈L.map Prod.snd:=by
 unfold lkM
 cases h:L.find? fun kv=>id==kv.1 with
 | none=>exact .inl rfl
 | some kv=>exact .inr (List.mem_map_of_mem (List.mem_of_find?_eq_some h))
section
variable {S:ySM}
theorem cycles_run (hT:TabCl Ftab) (hSc:SumCl S) (hS:NoS S) (hSp:∀ args,S 37 args=none) (p:Pn) (h1:p.ns.l.length<=1000000) (hfv:FewVia p) (ha:2*p.as.l.length<65536) (hna:2*p.as.l.length*p.ns.l.length<65536) :
  ∃ (v:Bool) (N:Nat),(∃ Np,GivesN S Np 37 [.agg p.c] (.int .i64 (planE p v)))/\∀ m,N<=m->∀ d out ownV own id,∃ cs:SlOf 1 cyG,callN Ftab S m d out ownV own id 64 [.agg p.c]=some (.r,.tuple [cs.v,.int .i64 (planE p v)],own)/\(∀ c∈cs.l,HeadOK p c.l/\c.l.length<=200000)/\cs.l.length<=65536:=by
 obtain ⟨v,Np,hp⟩:=at_pcheck hT hSc hS hSp p h1 (by omega) (fun a h=>by have:=hfv a h; omega)
 obtain ⟨Nn,hN0⟩:=cy_nodes hT hSc hS p hfv ha hna
 obtain ⟨Npw,hPw⟩:=pow_ok hS
 obtain ⟨Nl,hLn⟩:=len_ok hS
 refine ⟨v,Np+Nn+Npw+Nl+600000,⟨Np,hp⟩,fun m hm d out ownV own id=>?_⟩
 obtain ⟨m,rfl⟩:∃ q,m=q+2:=⟨m - 2,by omega⟩
 have main:∃ r,callN Ftab S (m+1+1) d out ownV own id 64 [.agg p.c]=some r/\∃ cs:SlOf 1 cyG,r=(Eff.r,.tuple [cs.v,.int .i64 (planE p v)],own)/\(∀ c∈cs.l,HeadOK p c.l/\c.l.length<=200000)/\cs.l.length<=65536:=by
  refine Zr (i:=i64) (ns hS (by rfl)) rfl (by decide) (lb rfl) fun t hfr=>?_
  simp only [V2,Nat.reduceAdd,i64,Pn.c] at hfr
  generalize (fun l=>if l=d then ownV else out l:yLM)=out2
  have cp:=fun dd oo ownV own id=>hp (m+1) (by omega) dd oo ownV own id
  have hL0:=@hN0 (m+1) (by omega)
  simp only [Pn.c] at cp
  have hlv:∀ (o:yLO) (v w:IV),freeze (m+1) (d+1) o v=some w->leave (m+1) d o own id 0 v=some (.r,w,own):=fun o v w h=>by simp [leave,h]
  have fin:∀ t' (O:yLO) (lv:IV) (e:Int) (cs:SlOf 1 cyG),freeze m (d+1) O lv=some cs.v->e=planE p v->(∀ c∈cs.l,HeadOK p c.l/\c.l.length<=200000)->cs.l.length<=65536->Slots 72 t' [(2,lv),(3,.int .i64 e)]->(Out.ret=.normal∨Out.ret=.ret)/\∃ w r,resultI (d+1) out2 ⟨t',O⟩ i64.res=some w/\leave (m+1) d O own id i64.mode w=some r/\∃ cs:SlOf 1 cyG,r=(Eff.r,.tuple [cs.v,.int .i64 (planE p v)],own)/\(∀ c∈cs.l,HeadOK p c.l/\c.l.length<=200000)/\cs.l.length<=65536:=fun t' O lv e cs hf he hc hcl ht=>by
   simp only [zd,zh] at ht
   obtain ⟨m,rfl⟩:∃ q,m=q+1:=⟨m - 1,by omega⟩
   have hfz:freeze (m+1+1) (d+1) O (.tuple [lv,.int .i64 e])=some (.tuple [cs.v,.int .i64 e]):=by
    have h2:freeze (m+1) (d+1) O (.int .i64 e)=some (.int .i64 e):=rfl
    simp only [freeze,zdg,List.mapM_nil,h2,zdz,zdp,zch,zb9] at hf ⊢
    rw [hf]
    rfl
   subst he
   refine ⟨.inr rfl,.tuple [lv,.int .i64 (planE p v)],_,?_,hlv _ _ _ hfz,cs,rfl,hc,hcl⟩
   simp only [i64,V0,sevalprocAttr,ht]
  suffices hsuf:∀ K:yKM,(∀ t' (O:yLO) (lv:IV) (e:Int) (cs:SlOf 1 cyG),freeze m (d+1) O lv=some cs.v->e=planE p v->(∀ c∈cs.l,HeadOK p c.l/\c.l.length<=200000)->cs.l.length<=65536->Slots 72 t' [(2,lv),(3,.int .i64 e)]->K .ret ⟨t',O⟩)->Ex (callN Ftab S (m+1)) (d+1) out2 (m+1) i64.body K ⟨t,[]⟩ from hsuf _ fin
  clear fin
  intro K fin
  rw [show i64.body=.seq (i64.body.sub [0]) (.seq (.seq (i64.body.sub [1,0,0]) (.seq (i64.body.sub [1,0,1,0]) (i64.body.sub [1,0,1,1]))) (.seq (i64.body.sub [1,1,0]) (.seq (i64.body.sub [1,1,1,0]) (.seq (i64.body.sub [1,1,1,1,0]) (.seq (i64.body.sub [1,1,1,1,1,0]) (.seq (i64.body.sub [1,1,1,1,1,1,0]) (.seq (i64.body.sub [1,1,1,1,1,1,1,0]) (.seq (i64.body.sub [1,1,1,1,1,1,1,1,0]) (i64.body.sub [1,1,1,1,1,1,1,1,1]))))))))) from rfl]
  have hLp:=fun {K:yKM} U xs hm hU hxl P nx nbs nck hP2 hP3 hnx hxU dv hdv t hfr hK=>@cy_loop S hS (m+1) (d+1) out2 K U xs hm hU hxl P nx nbs nck hP2 hP3 hnx hxU dv hdv t hfr hK
  generalize i64.body.sub [1,1,1,1,0]=T at hL0 ⊢
  generalize i64.body.sub [1,1,1,1,1,1,1,1,0]=T2 at hLp ⊢
  have cmp:∀ a b,(IV.mapM a b).cells=[.mapM a b]:=fun _ _=>rfl
  have smp:∀ a b,(IV.mapM a b).scalar=true:=fun _ _=>rfl
  cases he:(planE p v != 0)
  rotate_left
  ·simp only [i64,IC.sub,V0,sevalprocAttr,hfr,cp,he]
   exact fin _ _ .nilsl _ (nilS _ _) (y3 _ (by omega) _ _) rfl (fun c hc=>by cases hc) (Nat.zero_le _) (by simp only [V0,sevalprocAttr,hfr])
  ·have he0:planE p v=0:=by simpa using he
   simp only [i64,IC.sub,V0,sevalprocAttr,cmp,smp,hfr,cp,he]
   refine hL0 (d+1) out2 _ _ _ (by simp only [V0,sevalprocAttr,hfr]) fun t' lv J nx bs ck xs hO hD hl hnl ht=>?_
   clear hfr
   simp only [zd,zh] at ht
   have hxl:xs.length<65536:=Nat.lt_of_le_of_lt hl hna
   have key:∀ W:yLO,W=(IObj.cells [p.ns.v,p.as.v,p.fs.v]::.free::.map (mKs nx) (mVs (IV.int .i64) nx) bs ck::.cells [.mapM (d+1) 2]::(J++[.free]))->∃ (xs':List Int) (J':yLO),xs'.Perm xs/\(∀ id,callN Ftab S (m+1) (d+1) out2 W W id 90 [lv]=some (.x,.tuple [],.cells [p.ns.v,p.as.v,p.fs.v]::.free::.map (mKs nx) (mVs (IV.int .i64) nx) bs ck::.cells [.mapM (d+1) 2]::J'))/\((xs'=[]/\lv=.nilsl)∨∃ b,lv=.slM (d+1) (b+1+1+1+1) 0 xs'.length xs'.length 1 false/\J'[b]?=some (.cells (xs'.flatMap intc))):=by
    intro W hW
    rcases hO with ⟨rfl,rfl⟩ | ⟨b,hne,rfl,hb⟩
    ·obtain ⟨J',hs⟩:=osort_nil (d:=d+1) (out:=out2) (ownV:=W) (own:=W) hS hLn (m:=m+1) (by omega)
     refine ⟨[],J++[.free]++J',zc9 _,fun id=>?_,.inl ⟨rfl,rfl⟩⟩
     rw [hs id,hW]
     rfl
    ·have hb2:(J++[IObj.free])[b]?=some (.cells (xs.flatMap intc)):=by rw [zb8 (zb6.1 hb).1]; exact hb
     have hbl:=(zb6.1 hb).1
     have hWl:4+b<W.length:=by rw [hW]; simp; omega
     have hWb:W[4+b]?=some (.cells (xs.flatMap intc)):=by
      rw [hW,show 4+b=b+1+1+1+1 by omega]
      simp only [zcg,hb2]
     obtain ⟨xs',J',hs,hp⟩:=o_sort (d:=d+1) (out:=out2) (cp:=xs.length) (tg:=false) hS hWl int_elt (fun m hm=>less_ok hS m (by omega)) (n:=xs.length) (by omega) (m+1) (Nc:=Npw+Nl+4) (by omega) W xs [] rfl (hPw.le (by omega)) (hLn.le (by omega))
     rw [zda,bk_self hWb] at hs
     refine ⟨xs',(J++[IObj.free]).set b (.cells (xs'.flatMap intc))++J',hp,fun id=>?_,.inr ⟨b,by rw [hp.length_eq,show 4+b=b+1+1+1+1 by omega],?_⟩⟩
     ·have hbk:Bk W (4+b) (xs'.flatMap intc)=IObj.cells [p.ns.v,p.as.v,p.fs.v]::.free::.map (mKs nx) (mVs (IV.int .i64) nx) bs ck::.cells [.mapM (d+1) 2]::(J++[IObj.free]).set b (.cells (xs'.flatMap intc)):=by
       rw [Bk,hW,show 4+b=b+1+1+1+1 by omega]
       rfl
      rw [hs id,hbk]
      rfl
     ·rw [zb8 (by simp; omega),zdb (by simp; omega)]
   obtain ⟨xs',J',hperm,hs,hdv⟩:=key _ rfl
   have hlx:xs'.length=xs.length:=hperm.length_eq
   clear key
   simp only [V0,sevalprocAttr,cmp,smp,ht,hs]
   have e0:∀ R:yLO,(IObj.cells [p.ns.v,p.as.v,p.fs.v]::.free::.map (mKs nx) (mVs (IV.int .i64) nx) bs ck::.cells [.mapM (d+1) 2]::(J'++R))=(IObj.cells [p.ns.v,p.as.v,p.fs.v]::.free::.map (mKs nx) (mVs (IV.int .i64) nx) bs ck::.cells [.mapM (d+1) 2]::J')++R:=fun R=>rfl
   generalize hP:(IObj.cells [p.ns.v,p.as.v,p.fs.v]::.free::.map (mKs nx) (mVs (IV.int .i64) nx) bs ck::.cells [.mapM (d+1) 2]::J')=P at e0
   have hPl:P.length=J'.length+1+1+1+1:=by rw [← hP]; simp
   rw [e0,← hPl]
   refine hLp (0::(xs'++nx.map Prod.snd)) xs' (by simp only [zcc,zce,zdi]; omega) (by simp only [zcc,zce,zdi]; omega) (by omega) P nx bs ck (by rw [← hP]; rfl) (by rw [← hP]; rfl) (fun k=>?_) (fun z hz=>by simp [hz]) lv ?_ _ (by simp only [V0,sevalprocAttr,ht]) fun t2 lv2 sn bs2 ck2 J2 L hO2 hL2 hLl ht2=>?_
   ·rcases lkM_mem (z:=(0:Int)) (L:=nx) (id:=k) with h | h
    ·rw [h]; exact zdk ..
    ·exact zd0 _ (List.mem_append_right _ h)
   ·rcases hdv with h | ⟨b,h1,h2⟩
    ·exact .inl h
    ·refine .inr ⟨b+1+1+1+1,h1,?_⟩
     rw [← hP]
     exact h2
   ·clear ht
    simp only [zd,zh] at ht2
    obtain ⟨m,rfl⟩:∃ q,m=q+1:=⟨m - 1,by omega⟩
    have hgetJ:∀ (b:Nat) (x y z:IObj),J2[b]?=some z->(P++x::y::J2)[P.length+2+b]?=some z:=fun b x y z h=>by
     rw [zcb (by omega),show P.length+2+b - P.length=b+1+1 by omega]
     exact h
    have hUl:(0::(xs'++nx.map Prod.snd)).length<=200000:=by simp only [zcc,zce,zdi]; omega
    obtain ⟨cs,hcs1,hcs2⟩:=cys_fz (n:=m) (D:=d+1) (own:=P++.map (mKs sn) (mVs IV.bool sn) bs2 ck2::.cells [.mapM (d+1) P.length]::J2) (by omega) (L:=L) fun z hz=>by
     obtain ⟨⟨b,h1,h2⟩,⟨h',r',h3,h4⟩,h5⟩:=hL2 z hz
     exact ⟨⟨_,h1,hgetJ b _ _ _ h2⟩,by omega,by rw [h3]; simp⟩
    have hcl:cs.length=L.length:=by
     have:=congrArg List.length hcs1
     simpa using this
    simp only [i64,IC.sub,V0,sevalprocAttr,ht2]
    refine fin _ _ lv2 _ (rowQ yy cs (by omega)) ?_ he0.symm (fun c hc=>?_) (by rw [ZB]; omega) (by simp only [V0,sevalprocAttr,ht2])
    ·rcases hO2 with ⟨rfl,rfl⟩ | ⟨b,hne,rfl,hb⟩
     ·have:cs=[]:=by
       cases cs with
       | nil=>rfl
       | cons _ _=>simp at hcl
      subst this
      exact y3 _ (by omega) _ _
     ·rw [frz_slM (hgetJ b _ _ _ hb) (zu cyP_len |>.trans (by omega)) hcs2]
      cases cs with
      | nil=>simp at hcl; exact absurd (zcv.1 hcl.symm) hne
      | cons c cs=>rw [← hcl]; rfl
    ·rw [ZB] at hc
     have hm:c.l∈L.map Prod.snd:=by rw [← hcs1]; exact List.mem_map_of_mem hc
     obtain ⟨z,hz,hzc⟩:=List.mem_map.1 hm
     obtain ⟨_,⟨h',r',h3,h4⟩,h5⟩:=hL2 z hz
     rw [← hzc]
     exact ⟨⟨h',r',h3,hD h' (hperm.mem_iff.1 h4)⟩,by omega⟩
 obtain ⟨r,h1,cs,rfl,h2,h3⟩:=main
 exact ⟨cs,h1,h2,h3⟩
theorem cycles_gives (hT:TabCl Ftab) (hSc:SumCl S) (hS:NoS S) (hSp:∀ args,S 37 args=none) (p:Pn) (h1:p.ns.l.length<=1000000) (hfv:FewVia p) (ha:2*p.as.l.length<65536) (hna:2*p.as.l.length*p.ns.l.length<65536) :
  ∃ (v:Bool) (cs:SlOf 1 cyG),(∀ c∈cs.l,HeadOK p c.l/\c.l.length<=200000)/\cs.l.length<=65536/\(∃ N,GivesN S N 64 [.agg p.c] (.tuple [cs.v,.int .i64 (planE p v)]))/\∃ Np,GivesN S Np 37 [.agg p.c] (.int .i64 (planE p v)):=by
 obtain ⟨v,N,hP,hN⟩:=cycles_run hT hSc hS hSp p h1 hfv ha hna
 obtain ⟨cs,h1,h2,h3⟩:=hN N (zcf _) 0 (fun _=>[]) [] [] 0
 refine ⟨v,cs,h2,h3,⟨N,Ze hT hSc (ns hS (by rfl)) rfl rfl (fun k=>?_) ?_ h1⟩,hP⟩
 ·rw [zdc,zbu,zd5]
 ·show clF 5 _=true
  simp only [clF,zd9,List.all_nil,Bool.and_true]
  exact cyc_cl cs 1
end
end
section
def FinE (m d:Nat) (out:yLM) (rs:List IRes) (Q:IV->Prop) (o:Out) (st:St):Prop:=(o=.normal∨o=.ret)/\∃ v w,resultI d out st rs=some v/\freeze m d st.own v=some w/\Q w
section
variable {m d:Nat} {out:yLM} {rs:List IRes} {Q:IV->Prop} {st:St}
theorem y9:FinE m d out rs Q .ret st=∃ v w,resultI d out st rs=some v/\freeze m d st.own v=some w/\Q w:=propext ⟨fun h=>h.2,fun h=>⟨.inr rfl,h⟩⟩
end
theorem Zt {S:ySM} {f:FuncId} {i:IFn} {args:List IV} {m d:Nat} {out:yLM} {ownV own:yLO} {id:Nat} {Q:IV->Prop} (hS:S f args=none) (hi:Ftab f=some i) (hm:i.mode=0) (hl:args.length<=i.ntmps)
  (h:∀ t,Slots i.ntmps t (slotsOf 0 args)->Ex (callN Ftab S m) (d+1) (fun l=>if l=d then ownV else out l) m i.body (FinE m (d+1) (fun l=>if l=d then ownV else out l) i.res Q) ⟨t,[]⟩):∃ v,callN Ftab S (m+1) d out ownV own id f args=some (.r,v,own)/\Q v:=by
 have main:∃ r,callN Ftab S (m+1) d out ownV own id f args=some r/\∃ v,r=(Eff.r,v,own)/\Q v:=by
  refine Zr hS hi (by rw [hm]; decide) hl fun t ht=>(h t ht).mono ?_
  rintro o st ⟨h1,v,w,h2,h3,h4⟩
  exact ⟨h1,v,_,h2,by rw [hm]; simp [leave,h3],w,rfl,h4⟩
 obtain ⟨r,h1,v,rfl,h2⟩:=main
 exact ⟨v,h1,h2⟩
theorem pathL_len {p:Pn} (h:FewVia p) (id:Int):2<=(pathL p id).length/\(pathL p id).length<=100002:=by
 have:=fewD h id
 unfold pathL
 simp only [zcc,zce,zci]
 omega
section
variable {S:ySM}
theorem dart_calls (hS:NoS S) (p:Pn) (hfv:FewVia p) (z:Int):∃ N,∀ m,N<=m->∃ (a:Ac) (q':SlOf 2 Pt.c),(pathOk p (absI z)=true->q'.l=pathL p (absI z))/\(∀ d out ownV own id,callN Ftab S m d out ownV own id 110 [.agg p.c,iv z]=some (.r,.tuple [.agg a.c,.bool (dartOk p z)],own)) /\
  ∀ d out ownV own id,callN Ftab S m d out ownV own id 32 [.agg p.c,iv (absI z)]=some (.r,.tuple [q'.v,iv (bif pathOk p (absI z) then 0 else 7)],own):=by
 obtain ⟨a,N1,_,h1⟩:=at_arcOf hS p z hfv
 obtain ⟨q',h2,N2,h3⟩:=ZA hS p (absI z) hfv
 exact ⟨N1+N2,fun m hm=>⟨a,q',h2,h1 m (by omega),h3 m (by omega)⟩⟩
theorem twice_run (hS:NoS S) (p:Pn) (hfv:FewVia p) (c:SlOf 1 intc):∃ N,∀ m,N<=m->∀ d out ownV own id,∃ z:Int,callN Ftab S m d out ownV own id 92 [.agg p.c,c.v]=some (.r,.int .i64 z,own):=by
 obtain ⟨N,hN⟩:=Yb c.l fun z _=>dart_calls hS p hfv z
 refine ⟨N+c.l.length+200000,fun m hm d out ownV own id=>?_⟩
 obtain ⟨m,rfl⟩:∃ q,m=q+2:=⟨m - 2,by omega⟩
 have main:∃ v,callN Ftab S (m+1+1) d out ownV own id 92 [.agg p.c,c.v]=some (.r,v,own)/\∃ z:Int,v=.int .i64 z:=by
  refine Zt (i:=i92) (ns hS (by rfl)) rfl rfl (lb rfl) fun t hfr=>?_
  simp only [V2,Nat.reduceAdd,i92,Pn.c] at hfr
  generalize (fun l=>if l=d then ownV else out l:yLM)=out2
  suffices hsuf:∀ K:yKM,(∀ t' O (z:Int),Slots 84 t' [(4,.int .i64 z)]->K .ret ⟨t',O⟩)->Ex (callN Ftab S (m+1)) (d+1) out2 (m+1) i92.body K ⟨t,[]⟩ from hsuf _ fun t' O z ht=>by
   simp only [zd,zh] at ht
   rw [y9]
   refine ⟨.int .i64 z,.int .i64 z,?_,rfl,z,rfl⟩
   simp only [i92,V0,sevalprocAttr,ht]
  intro K fin
  have hcf:=c.few
  have hab:∀ z:Int,(if wrapI .i64 (0 - z) > z then wrapI .i64 (0 - z) else z)=absI z:=fun _=>rfl
  cases hb:decide ((512:Int)<(c.l.length:Int))
  rotate_left
  ·simp only [i92,V0,sevalprocAttr,hfr,gt_iff_lt,hb]
   exact fin _ _ 0 (by simp only [V0,sevalprocAttr,hfr])
  simp only [i92,V0,sevalprocAttr,hfr,gt_iff_lt,hb]
  refine zb (fun jj st=>∃ (i:Nat) (n:Int) (J:yLO),c.l.length - i<=jj/\i<=c.l.length/\st.own=.cells [p.ns.v,p.as.v,p.fs.v]::J/\Slots 84 st.t [(1,c.v),(2,.ptrM (d+1) 0 0),(4,.int .i64 n),(16,c.v),(17,iv (c.l.length:Nat)),(18,iv i)]) c.l.length (by omega) ⟨0,0,[],by omega,by omega,rfl,by simp only [V0,sevalprocAttr,hfr,zcp]⟩ ?_
  clear hfr
  rintro jj ⟨t,own⟩ KA ⟨i,n,J,hjj,hi,ho,hfr⟩ hnA heA hrA
  dsimp only at ho hfr
  subst ho
  simp only [V3] at hfr
  by_cases h:i<c.l.length
  ·have hx:c.l[i]?=some c.l[i]:=zb7 h
   obtain ⟨a,q',hq',ca,cp⟩:=hN _ (zdj h) (m+1) (by omega)
   generalize c.l[i]=z at hx ca cp hq'
   have hrd:rdN (c.l.flatMap intc) (i*1) 1=some [.int .i64 z]:=(zc zi 0 1 hx (by omega)).trans rfl
   have hw:wrapI .i64 ((i:Int)+1)=((i+1:Nat):Int):=we
   simp only [Pn.c,Ac.c,zg] at ca cp
   have hg:∀ k,J.length+(k+1)=J.length+k+1:=fun k=>rfl
   cases hd:dartOk p z
   ·simp only [V0,sevalprocAttr,hfr,h,za c h,hrd,ca,hd]
    refine hrA _ ?_
    exact fin _ _ 0 (by simp only [V0,sevalprocAttr,hfr])
   ·cases hpo:pathOk p (absI z)
    ·simp only [V0,sevalprocAttr,hfr,h,za c h,hrd,ca,hd,hab,cp,hpo,cond_false,show ((7:Int) != 0)=true from rfl]
     refine hrA _ ?_
     exact fin _ _ 0 (by simp only [V0,sevalprocAttr,hfr])
    ·have hql:=pathL_len hfv (absI z)
     rw [← hq' hpo] at hql
     obtain ⟨g1,g2⟩:=hql
     have hqf:=q'.few
     have hw1:wrapI .i64 ((q'.l.length:Int) - 1)=((q'.l.length - 1:Nat):Int):=we
     simp only [V0,sevalprocAttr,hfr,h,za c h,hrd,ca,hd,hab,cp,hpo,cond_true,show ((0:Int) != 0)=false from rfl,hw1]
     refine zb (fun jj st=>∃ (k:Nat) (s:Int) (J:yLO),q'.l.length - 1 - k<=jj/\k<=q'.l.length - 1/\st.own=.cells [p.ns.v,p.as.v,p.fs.v]::J/\Slots 84 st.t [(1,c.v),(2,.ptrM (d+1) 0 0),(4,.int .i64 n),(6,.int .i64 z),(9,q'.v),(11,.int .i64 s),(16,c.v),(17,iv (c.l.length:Nat)),(18,iv i),(43,iv (q'.l.length - 1:Nat)),(44,iv k)]) (q'.l.length - 1) (by omega) ⟨0,0,_,by omega,by omega,rfl,by simp only [V0,sevalprocAttr,hfr,hw1,zcp]⟩ ?_
     clear hfr
     rintro jj ⟨t,own⟩ KB ⟨k,s,J,hjj2,hk,ho,hfr⟩ hnB heB hrB
     dsimp only at ho hfr
     subst ho
     simp only [V3] at hfr
     by_cases h2:k<q'.l.length - 1
     ·have h3:k<q'.l.length:=by omega
      have h4:k+1<q'.l.length:=by omega
      have hx1:q'.l[k]?=some q'.l[k]:=zb7 h3
      have hx2:q'.l[k+1]?=some q'.l[k+1]:=zb7 h4
      generalize q'.l[k]=y1 at hx1
      generalize q'.l[k+1]=y2 at hx2
      have r10:rdN (q'.l.flatMap Pt.c) (k*2) 1=some [.int .i64 y1.x]:=(zc Pt.c_len 0 1 hx1 (by omega)).trans rfl
      have r11:rdN (q'.l.flatMap Pt.c) (k*2+1) 1=some [.int .i64 y1.y]:=(zc Pt.c_len 1 1 hx1 (by omega)).trans rfl
      have r20:rdN (q'.l.flatMap Pt.c) ((k+1)*2) 1=some [.int .i64 y2.x]:=(zc Pt.c_len 0 1 hx2 (by omega)).trans rfl
      have r21:rdN (q'.l.flatMap Pt.c) ((k+1)*2+1) 1=some [.int .i64 y2.y]:=(zc Pt.c_len 1 1 hx2 (by omega)).trans rfl
      have hwk:wrapI .i64 ((k:Int)+1)=((k+1:Nat):Int):=we
      simp only [V0,sevalprocAttr,hfr,h2,za q' h3,za q' h4,r10,r11,r20,r21,hwk]
      refine ⟨by simp [comm],?_⟩
      simp only [V0,sevalprocAttr,hfr,hwk]
      exact hnB _ (q'.l.length - 1 - (k+1)) (by omega) ⟨k+1,wrapI .i64 (s+wrapI .i64 (wrapI .i64 (y1.x*y2.y) - wrapI .i64 (y2.x*y1.y))),_,by omega,by omega,rfl,by simp only [V0,sevalprocAttr,hfr,hwk]⟩
     ·simp only [V0,sevalprocAttr,hfr,h2]
      refine heB _ _ ?_
      cases hz:decide (z<0)
      ·simp only [V0,sevalprocAttr,hfr,hz,hw]
       exact hnA _ (c.l.length - (i+1)) (by omega) ⟨i+1,wrapI .i64 (n+s),_,by omega,by omega,rfl,by simp only [V0,sevalprocAttr,hfr,hw]⟩
      ·simp only [V0,sevalprocAttr,hfr,hz,hw]
       exact hnA _ (c.l.length - (i+1)) (by omega) ⟨i+1,wrapI .i64 (n+wrapI .i64 (0 - s)),_,by omega,by omega,rfl,by simp only [V0,sevalprocAttr,hfr,hw]⟩
  ·simp only [V0,sevalprocAttr,hfr,h]
   refine heA _ _ ?_
   simp only [V0,sevalprocAttr,hfr]
   exact fin _ _ n (by simp only [V0,sevalprocAttr,hfr])
 obtain ⟨v,h1,z,rfl⟩:=main
 exact ⟨z,h1⟩
theorem twice_gives (hT:TabCl Ftab) (hSc:SumCl S) (hS:NoS S) (p:Pn) (hfv:FewVia p) (c:SlOf 1 intc):∃ (z:Int) (N:Nat),GivesN S N 92 [.agg p.c,c.v] (.int .i64 z):=by
 obtain ⟨N,hN⟩:=twice_run hS p hfv c
 obtain ⟨z,h1⟩:=hN N (zcf _) 0 (fun _=>[]) [] [] 0
 refine ⟨z,N,Ze hT hSc (ns hS (by rfl)) rfl rfl (fun k=>?_) rfl h1⟩
 rw [zdc,zdc,zbu,Z0 in_sh,zd5]
end
end
section
def plV (q:SlOf 2 Pt.c):IV:=q.v
def nilP:SlOf 2 Pt.c:=nilS _ _
def PathsOK (p:Pn) (L:List (Int × SlOf 2 Pt.c)):Prop:=∀ a∈p.as.l,pathOk p a.id=true->2<=(lkM nilP L a.id).l.length
theorem pts_cl (q:SlOf 2 Pt.c) (n:Nat):clF (n+2) q.v=true:=by
 have hh:∀ (cs:List IV) (k:Nat) (v:IV),Sl 2 cs k v->cs.all (clF (n+1))=true->clF (n+2) v=true:=fun cs k v h hc=>by
  cases h with
  | nil=>rfl
  | row cs n tight hl=>exact hc
 refine hh _ _ _ q.ok ?_
 rw [zdh]
 intro x hx
 obtain ⟨a,_,ha⟩:=zdy.1 hx
 simp only [Pt.c,zcx,zc1,or_false] at ha
 rcases ha with rfl | rfl <;> rfl
theorem YJ (L:List (Int × SlOf 2 Pt.c)) (n:Nat):clF (n+3) (.mapC (mKs L) (mVs plV L))=true:=by
 simp only [clF,zcm,zdh]
 refine ⟨fun x hx=>?_,fun x hx=>?_⟩
 ·obtain ⟨a,_,rfl⟩:=List.mem_map.1 hx
  rfl
 ·obtain ⟨a,_,rfl⟩:=List.mem_map.1 hx
  exact pts_cl _ _
theorem paths_fz {n D:Nat} {own:yLO} (hn:4<=n) {i:Nat} {L:List (Int × SlOf 2 Pt.c)} {bs:List Nat} {ck:Nat} (h:own[i]?=some (.map (mKs L) (mVs plV L) bs ck)):freeze n D own (.mapM D i)=some (.mapC (mKs L) (mVs plV L)):=by
 obtain ⟨n,rfl⟩:∃ q,n=q+1:=⟨n - 1,by omega⟩
 have h1:(mKs L).mapM (freeze n D own)=some (mKs L):=zG fun x hx=>by
  obtain ⟨a,_,rfl⟩:=List.mem_map.1 hx
  exact zy n (by omega) _ _
 have h2:(mVs plV L).mapM (freeze n D own)=some (mVs plV L):=zG fun x hx=>by
  obtain ⟨a,_,rfl⟩:=List.mem_map.1 hx
  exact yJ ptC_fz a.2 n (by omega) _ _
 simp only [freeze,if_true,h,h1,h2]
section
variable {S:ySM}
theorem paths_run (hS:NoS S) (p:Pn) (hfv:FewVia p):∃ N,∀ m,N<=m->∀ d out ownV own id,∃ L:List (Int × SlOf 2 Pt.c),callN Ftab S m d out ownV own id 65 [.agg p.c]=some (.r,.mapC (mKs L) (mVs plV L),own)/\PathsOK p L:=by
 have hcall:∀ a∈p.as.l,∃ N,∀ m,N<=m->∃ q':SlOf 2 Pt.c,(pathOk p a.id=true->q'.l=pathL p a.id)/\∀ d out ownV own id,callN Ftab S m d out ownV own id 32 [.agg p.c,iv a.id]=some (.r,.tuple [q'.v,iv (bif pathOk p a.id then 0 else 7)],own):=fun a _=>by
  obtain ⟨q',h1,N,h2⟩:=ZA hS p a.id hfv
  exact ⟨N,fun m hm=>⟨q',h1,h2 m hm⟩⟩
 obtain ⟨N,hN⟩:=Yb p.as.l hcall
 refine ⟨N+p.as.l.length+200000,fun m hm d out ownV own id=>?_⟩
 obtain ⟨m,rfl⟩:∃ q,m=q+2:=⟨m - 2,by omega⟩
 have main:∃ v,callN Ftab S (m+1+1) d out ownV own id 65 [.agg p.c]=some (.r,v,own)/\∃ L:List (Int × SlOf 2 Pt.c),v=.mapC (mKs L) (mVs plV L)/\PathsOK p L:=by
  refine Zt (i:=i65) (ns hS (by rfl)) rfl rfl (lb rfl) fun t hfr=>?_
  simp only [V2,Nat.reduceAdd,i65,Pn.c] at hfr
  generalize (fun l=>if l=d then ownV else out l:yLM)=out2
  suffices hsuf:∀ K:yKM,(∀ t' O (L:List (Int × SlOf 2 Pt.c)) bs ck,O[1]?=some (.map (mKs L) (mVs plV L) bs ck)->PathsOK p L->Slots 31 t' [(2,.mapM (d+1) 1)]->K .ret ⟨t',O⟩)->Ex (callN Ftab S (m+1)) (d+1) out2 (m+1) i65.body K ⟨t,[]⟩ from hsuf _ fun t' O L bs ck hO hL ht=>by
   simp only [zd,zh] at ht
   rw [y9]
   refine ⟨_,_,?_,paths_fz (by omega) hO,L,rfl,hL⟩
   simp only [i65,V0,sevalprocAttr,ht]
  intro K fin
  have haf:=p.as.few
  have cmp:∀ a b,(IV.mapM a b).cells=[.mapM a b]:=fun _ _=>rfl
  simp only [i65,V0,sevalprocAttr,hfr]
  refine zb (fun jj st=>∃ (i:Nat) (L:List (Int × SlOf 2 Pt.c)) (bs:List Nat) (ck:Nat) (J:yLO),p.as.l.length - i<=jj/\i<=p.as.l.length/\(∀ a∈p.as.l.take i,pathOk p a.id=true->2<=(lkM nilP L a.id).l.length)/\st.own=.cells [p.ns.v,p.as.v,p.fs.v]::.map (mKs L) (mVs plV L) bs ck::J/\Slots 31 st.t [(1,.ptrM (d+1) 0 0),(3,.mapM (d+1) 1),(10,p.as.v),(11,iv (p.as.l.length:Nat)),(12,iv i)]) p.as.l.length (by omega) ⟨0,[],[],0,[],by omega,by omega,fun a ha=>by simp at ha,rfl,by simp only [V0,sevalprocAttr,hfr,zcp]⟩ ?_
  clear hfr
  rintro jj ⟨t,own⟩ KA ⟨i,L,bs,ck,J,hjj,hi,hL,ho,hfr⟩ hnA heA hrA
  dsimp only at ho hfr
  subst ho
  simp only [V3] at hfr
  by_cases h:i<p.as.l.length
  ·have hx:p.as.l[i]?=some p.as.l[i]:=zb7 h
   obtain ⟨q',hq',cp⟩:=hN _ (zdj h) (m+1) (by omega)
   generalize p.as.l[i]=x at hx cp hq'
   have hrd:rdN (p.as.l.flatMap Ac.c) (i*6) 6=some [.int .i64 x.id,.int .i64 x.fr,.int .i64 x.to,x.via.v,.int .i64 x.l,.int .i64 x.r]:=(zc Ac.c_len 0 6 hx (by omega)).trans rfl
   have hw:wrapI .i64 ((i:Int)+1)=((i+1:Nat):Int):=we
   simp only [Pn.c,zg] at cp
   have htk:∀ a,a∈p.as.l.take (i+1)->a∈p.as.l.take i∨a=x:=fun a ha=>by
    rw [zd1,hx] at ha
    simpa using ha
   cases hpo:pathOk p x.id
   ·simp only [V0,sevalprocAttr,hfr,h,za p.as h,hrd,cp,hpo,cond_false,show ((7:Int)==0)=false from rfl,hw]
    refine hnA _ (p.as.l.length - (i+1)) (by omega) ⟨i+1,L,bs,ck,_,by omega,by omega,fun a ha hp=>?_,rfl,by simp only [V0,sevalprocAttr,hfr,hw]⟩
    rcases htk a ha with h1 | rfl
    ·exact hL a h1 hp
    ·rw [hpo] at hp
     cases hp
   ·have hql:=pathL_len hfv x.id
    rw [← hq' hpo] at hql
    obtain ⟨bs',ck',hup⟩:=upd_m (u:=plV) L bs ck x.id q'
    have hup2:=fun C n0 ownV own t a b c=>hup C (d+1) out2 n0 1 ownV own t a b c
    simp only [show plV q'=q'.v from rfl] at hup2
    simp only [V0,sevalprocAttr,hfr,h,za p.as h,hrd,cp,hpo,cond_true,show ((0:Int)==0)=true from rfl,hup2,hw]
    refine hnA _ (p.as.l.length - (i+1)) (by omega) ⟨i+1,putM L x.id q',bs',ck',_,by omega,by omega,fun a ha hp=>?_,rfl,by simp only [V0,sevalprocAttr,hfr,hw]⟩
    rw [zap]
    by_cases he:a.id=x.id
    ·rw [if_pos he]; exact hql.1
    ·rw [if_neg he]
     rcases htk a ha with h1 | rfl
     ·exact hL a h1 hp
     ·exact absurd rfl he
  ·simp only [V0,sevalprocAttr,hfr,h]
   refine heA _ _ ?_
   simp only [V0,sevalprocAttr,hfr]
   refine fin _ _ L bs ck rfl ?_ (by simp only [V0,sevalprocAttr,hfr])
   rw [zcr (by omega)] at hL
   exact hL
 obtain ⟨v,h1,L,rfl,h2⟩:=main
 exact ⟨L,h1,h2⟩
theorem paths_gives (hT:TabCl Ftab) (hSc:SumCl S) (hS:NoS S) (p:Pn) (hfv:FewVia p):∃ (L:List (Int × SlOf 2 Pt.c)),PathsOK p L/\∃ (N:Nat),GivesN S N 65 [.agg p.c] (.mapC (mKs L) (mVs plV L)):=by
 obtain ⟨N,hN⟩:=paths_run hS p hfv
 obtain ⟨L,h1,h2⟩:=hN N (zcf _) 0 (fun _=>[]) [] [] 0
 refine ⟨L,h2,N,Ze hT hSc (ns hS (by rfl)) rfl rfl (fun k=>?_) (YJ L 2) h1⟩
 rw [zdc,zbu,zd5]
end
end
section
section
variable {S:ySM}
theorem encl_a (hS:NoS S) {m D:Nat} {out:yLM} (hm:12<=m) (K:yKM) (t:List IV) (a b q:Pt) (x1 x2:IObj) (J:yLO) (ja jb:Nat) (ha:J[ja]?=some (.cells [.int .i64 a.x,.int .i64 a.y])) (hb:J[jb]?=some (.cells [.int .i64 b.x,.int .i64 b.y]))
  (hfr:Slots 56 t [(2,.ptrM D 0 0),(3,.ptrM D 1 0),(4,.ptrM D 2 0),(5,.ptrM D (ja+1+1+1) 0),(6,.ptrM D (jb+1+1+1) 0)])
  (hK:∀ t' v,Slots 56 t' [(2,.ptrM D 0 0),(3,.ptrM D 1 0),(4,.ptrM D 2 0),(5,.ptrM D (ja+1+1+1) 0),(6,.ptrM D (jb+1+1+1) 0),(12,.bool v)]->K .normal ⟨t',.cells [.int .i64 q.x,.int .i64 q.y]::x1::x2::(J++[.free])⟩) :
  Ex (callN Ftab S m) D out m (i137.body.sub [1,0,1,1,0]) K ⟨t,.cells [.int .i64 q.x,.int .i64 q.y]::x1::x2::J⟩:=by
 simp only [V3] at hfr
 have fa:(J++[IObj.free])[ja]?=some (.cells [.int .i64 a.x,.int .i64 a.y]):=by rw [zb8 (zb6.1 ha).1]; exact ha
 have fb:(J++[IObj.free])[jb]?=some (.cells [.int .i64 b.x,.int .i64 b.y]):=by rw [zb8 (zb6.1 hb).1]; exact hb
 have c0:=at_side hS a b q m (by omega)
 simp only [Pt.c,zg] at c0
 cases h1:decide (a.y<=q.y)
 ·simp only [i137,IC.sub,V0,sevalprocAttr,hfr,fa,fb,h1]
  exact hK _ false (by simp only [V0,sevalprocAttr,hfr])
 ·cases h2:decide (q.y<b.y)
  ·simp only [i137,IC.sub,V0,sevalprocAttr,hfr,fa,fb,h1,h2]
   exact hK _ false (by simp only [V0,sevalprocAttr,hfr])
  ·simp only [i137,IC.sub,V0,sevalprocAttr,hfr,fa,fb,h1,h2,c0,gt_iff_lt]
   exact hK _ (decide (0<sideI a b q)) (by simp only [V0,sevalprocAttr,hfr])
theorem encl_b (hS:NoS S) {m D:Nat} {out:yLM} (hm:12<=m) (K:yKM) (t:List IV) (a b q:Pt) (x1 x2:IObj) (J:yLO) (ja jb:Nat) (ha:J[ja]?=some (.cells [.int .i64 a.x,.int .i64 a.y])) (hb:J[jb]?=some (.cells [.int .i64 b.x,.int .i64 b.y]))
  (hfr:Slots 56 t [(2,.ptrM D 0 0),(3,.ptrM D 1 0),(4,.ptrM D 2 0),(5,.ptrM D (ja+1+1+1) 0),(6,.ptrM D (jb+1+1+1) 0)])
  (hK:∀ t' v,Slots 56 t' [(2,.ptrM D 0 0),(3,.ptrM D 1 0),(4,.ptrM D 2 0),(5,.ptrM D (ja+1+1+1) 0),(6,.ptrM D (jb+1+1+1) 0),(34,.bool v)]->K .normal ⟨t',.cells [.int .i64 q.x,.int .i64 q.y]::x1::x2::(J++[.free])⟩) :
  Ex (callN Ftab S m) D out m (i137.body.sub [1,0,1,1,1,1,0]) K ⟨t,.cells [.int .i64 q.x,.int .i64 q.y]::x1::x2::J⟩:=by
 simp only [V3] at hfr
 have fa:(J++[IObj.free])[ja]?=some (.cells [.int .i64 a.x,.int .i64 a.y]):=by rw [zb8 (zb6.1 ha).1]; exact ha
 have fb:(J++[IObj.free])[jb]?=some (.cells [.int .i64 b.x,.int .i64 b.y]):=by rw [zb8 (zb6.1 hb).1]; exact hb
 have c0:=at_side hS a b q m (by omega)
 simp only [Pt.c,zg] at c0
 cases h1:decide (b.y<=q.y)
 ·simp only [i137,IC.sub,V0,sevalprocAttr,hfr,fa,fb,h1]
  exact hK _ false (by simp only [V0,sevalprocAttr,hfr])
 ·cases h2:decide (q.y<a.y)
  ·simp only [i137,IC.sub,V0,sevalprocAttr,hfr,fa,fb,h1,h2]
   exact hK _ false (by simp only [V0,sevalprocAttr,hfr])
  ·simp only [i137,IC.sub,V0,sevalprocAttr,hfr,fa,fb,h1,h2,c0]
   exact hK _ (decide (sideI a b q<0)) (by simp only [V0,sevalprocAttr,hfr])
theorem encl1_run (hS:NoS S) {m D:Nat} {out:yLM} (hm:16<=m) (a b q:Pt) (on odd:Bool) (J ownV:yLO):∃ on' odd' J',∀ id,callN Ftab S m D out ownV (.cells [.int .i64 q.x,.int .i64 q.y]::.cells [.bool on]::.cells [.bool odd]::J) id 137 [.agg [.int .i64 a.x,.int .i64 a.y],.agg [.int .i64 b.x,.int .i64 b.y],.ptrM D 0 0,.ptrM D 1 0,.ptrM D 2 0]=some (.x,.tuple [],.cells [.int .i64 q.x,.int .i64 q.y]::.cells [.bool on']::.cells [.bool odd']::J'):=by
 obtain ⟨m,rfl⟩:∃ q,m=q+1:=⟨m - 1,by omega⟩
 have main:∃ v own',(∀ id,callN Ftab S (m+1) D out ownV (.cells [.int .i64 q.x,.int .i64 q.y]::.cells [.bool on]::.cells [.bool odd]::J) id 137 [.agg [.int .i64 a.x,.int .i64 a.y],.agg [.int .i64 b.x,.int .i64 b.y],.ptrM D 0 0,.ptrM D 1 0,.ptrM D 2 0]=some (.x,v,own'))/\(v=.tuple []/\∃ on' odd' J',own'=.cells [.int .i64 q.x,.int .i64 q.y]::.cells [.bool on']::.cells [.bool odd']::J'):=by
  refine zt (i:=i137) (ns hS (by rfl)) rfl rfl (lb rfl) fun t hfr=>?_
  simp only [V2,Nat.reduceAdd,i137] at hfr
  suffices hsuf:∀ K:yKM,(∀ t' on' odd' J',K .normal ⟨t',.cells [.int .i64 q.x,.int .i64 q.y]::.cells [.bool on']::.cells [.bool odd']::J'⟩)->Ex (callN Ftab S m) D out m i137.body K ⟨t,.cells [.int .i64 q.x,.int .i64 q.y]::.cells [.bool on]::.cells [.bool odd]::J⟩ from hsuf _ fun t' on' odd' J'=>by
   simp only [i137,zr,yk]
   exact ⟨_,rfl,rfl,_,_,_,rfl⟩
  intro K fin
  have hA:=fun K t x1 x2 J ja jb ha hb hfr hK=>@encl_a S hS m D out (by omega) K t a b q x1 x2 J ja jb ha hb hfr hK
  have hB:=fun K t x1 x2 J ja jb ha hb hfr hK=>@encl_b S hS m D out (by omega) K t a b q x1 x2 J ja jb ha hb hfr hK
  have c0:=at_on hS a b q m (by omega)
  simp only [Pt.c,zg] at c0
  rw [show i137.body=.seq (i137.body.sub [0]) (.block 0 (.seq (i137.body.sub [1,0,0]) (.cond (.tmp 7) (i137.body.sub [1,0,1,0]) (.seq (i137.body.sub [1,0,1,1,0]) (.cond (.tmp 12) (i137.body.sub [1,0,1,1,1,0]) (.seq (i137.body.sub [1,0,1,1,1,1,0]) (i137.body.sub [1,0,1,1,1,1,1]))))))) from rfl]
  generalize i137.body.sub [1,0,1,1,0]=TA at hA ⊢
  generalize i137.body.sub [1,0,1,1,1,1,0]=TB at hB ⊢
  have g0:∀ (x:IObj) (R:yLO),(J++x::R)[J.length]?=some x:=fun x R=>by simp
  have g1:∀ (x y:IObj) (R:yLO),(J++x::y::R)[J.length+1]?=some y:=fun x y R=>by simp
  have s0:∀ (x y:IObj) (R:yLO),(J++x::R).set J.length y=J++y::R:=fun x y R=>by simp
  have s1:∀ (x y z:IObj) (R:yLO),(J++x::y::R).set (J.length+1) z=J++x::z::R:=fun x y z R=>by simp
  cases hon:onI a b q
  ·simp only [i137,IC.sub,V0,sevalprocAttr,hfr,g0,g1,s0,s1,c0,hon]
   refine hA _ _ _ _ _ J.length (J.length+1) (by simp) (by simp) (by simp only [V0,sevalprocAttr,hfr]) fun t' v ht=>?_
   clear hfr
   simp only [zd,zh] at ht
   cases v
   ·simp only [V0,sevalprocAttr,ht]
    refine hB _ _ _ _ _ J.length (J.length+1) (by simp) (by simp) (by simp only [V0,sevalprocAttr,ht]) fun t2 v ht2=>?_
    clear ht
    simp only [zd,zh] at ht2
    cases v
    ·simp only [V0,sevalprocAttr,ht2]
     exact fin _ _ _ _
    ·simp only [V0,sevalprocAttr,ht2]
     exact fin _ _ _ _
   ·simp only [V0,sevalprocAttr,ht]
    exact fin _ _ _ _
  ·simp only [i137,IC.sub,V0,sevalprocAttr,hfr,g0,g1,s0,s1,c0,hon]
   exact fin _ _ _ _
 obtain ⟨v,own',h1,rfl,on',odd',J',rfl⟩:=main
 exact ⟨on',odd',J',h1⟩
end
end
section
theorem paths_few:∀ (L:List (Int × SlOf 2 Pt.c)),∃ B,∀ kv∈L,kv.2.l.length<=B
 | []=>⟨0,fun _ h=>by simp at h⟩
 | x::L=>by
  obtain ⟨B,hB⟩:=paths_few L
  refine ⟨B+x.2.l.length,fun kv h=>?_⟩
  rcases zcx.1 h with rfl | h
  ·omega
  ·have:=hB kv h
   omega
section
variable {S:ySM}
theorem yr {f:FuncId} {i:IFn} {args:List IV} {m d:Nat} {out:yLM} {ownV ownV' own:yLO} {id id':Nat} (hS:S f args=none) (hi:Ftab f=some i) (hm:i.mode=2):callN Ftab S m d out ownV own id f args=callN Ftab S m d out ownV' own id' f args:=by
 cases m with
 | zero=>rfl
 | succ m=>simp only [callN,hS,hi,hm,if_true]
theorem encl1_any (hS:NoS S) {m D:Nat} {out:yLM} (hm:16<=m) (a b q:Pt) (on odd:Bool) (J:yLO):∃ on' odd' J',∀ ownV id,callN Ftab S m D out ownV (.cells [.int .i64 q.x,.int .i64 q.y]::.cells [.bool on]::.cells [.bool odd]::J) id 137 [.agg [.int .i64 a.x,.int .i64 a.y],.agg [.int .i64 b.x,.int .i64 b.y],.ptrM D 0 0,.ptrM D 1 0,.ptrM D 2 0]=some (.x,.tuple [],.cells [.int .i64 q.x,.int .i64 q.y]::.cells [.bool on']::.cells [.bool odd']::J'):=by
 obtain ⟨on',odd',J',h⟩:=encl1_run (D:=D) (out:=out) hS hm a b q on odd J []
 exact ⟨on',odd',J',fun ownV id=>(yr (ns hS (by rfl)) rfl rfl).trans (h 0)⟩
theorem segs_run (hS:NoS S) {m D:Nat} {out:yLM} (c:SlOf 1 intc) (L:List (Int × SlOf 2 Pt.c)) (B:Nat) (hB:∀ kv∈L,kv.2.l.length<=B) (hm:c.l.length+B+20<=m) (q:Pt) (on odd:Bool) (J:yLO):∃ on' odd' J',∀ ownV id,callN Ftab S m D out ownV (.cells [.int .i64 q.x,.int .i64 q.y]::.cells [.bool on]::.cells [.bool odd]::J) id 136 [.mapC (mKs L) (mVs plV L),c.v,.fn 137 [] [.ptrM D 0 0,.ptrM D 1 0,.ptrM D 2 0]]=some (.x,.tuple [],.cells [.int .i64 q.x,.int .i64 q.y]::.cells [.bool on']::.cells [.bool odd']::J'):=by
 obtain ⟨m,rfl⟩:∃ q,m=q+1:=⟨m - 1,by omega⟩
 have main:∃ v own',(∀ id,callN Ftab S (m+1) D out [] (.cells [.int .i64 q.x,.int .i64 q.y]::.cells [.bool on]::.cells [.bool odd]::J) id 136 [.mapC (mKs L) (mVs plV L),c.v,.fn 137 [] [.ptrM D 0 0,.ptrM D 1 0,.ptrM D 2 0]]=some (.x,v,own'))/\(v=.tuple []/\∃ on' odd' J',own'=.cells [.int .i64 q.x,.int .i64 q.y]::.cells [.bool on']::.cells [.bool odd']::J'):=by
  refine zt (i:=i136) (ns hS (by rfl)) rfl rfl (lb rfl) fun t hfr=>?_
  simp only [V2,Nat.reduceAdd,i136] at hfr
  have hcf:=c.few
  have hab:∀ z:Int,(if wrapI .i64 (0 - z) > z then wrapI .i64 (0 - z) else z)=absI z:=fun _=>rfl
  simp only [i136,V0,sevalprocAttr,hfr]
  refine zb (fun jj st=>∃ (i:Nat) (on odd:Bool) (J:yLO),c.l.length - i<=jj/\i<=c.l.length/\st.own=.cells [.int .i64 q.x,.int .i64 q.y]::.cells [.bool on]::.cells [.bool odd]::J/\Slots 40 st.t [(0,.mapC (mKs L) (mVs plV L)),(2,.fn 137 [] [.ptrM D 0 0,.ptrM D 1 0,.ptrM D 2 0]),(10,c.v),(11,iv (c.l.length:Nat)),(12,iv i)]) c.l.length (by omega) ⟨0,on,odd,J,by omega,by omega,rfl,by simp only [V0,sevalprocAttr,hfr,zcp]⟩ ?_
  clear hfr
  rintro jj ⟨t,own⟩ KA ⟨i,on,odd,J,hjj,hi,ho,hfr⟩ hnA heA hrA
  dsimp only at ho hfr
  subst ho
  simp only [V3] at hfr
  by_cases h:i<c.l.length
  ·obtain ⟨z,hx⟩:=gx (l:=c.l) (i:=i) h
   have hrd:rdN (c.l.flatMap intc) (i*1) 1=some [.int .i64 z]:=(zc zi 0 1 hx (by omega)).trans rfl
   have hw:wrapI .i64 ((i:Int)+1)=((i+1:Nat):Int):=we
   have evL:∀ (C:Call) (n0:Nat) (ownV own:yLO) (t:List IV) (a b:Opd),ρ t a=.mapC (mKs L) (mVs plV L)->ρ t b=.int .i64 (absI z)->evOp C D out n0 ownV own t (.lookup .nilsl (false,[1]) false a b)=some (.p,(lkM nilP L (absI z)).v,own):=fun C n0 ownV own t a b h1 h2=>ev_lookC (u:=plV) nilP (absI z) rfl h1 h2
   have hpB:(lkM nilP L (absI z)).l.length<=B:=by
    rcases lkM_mem (z:=nilP) (L:=L) (id:=absI z) with h | h
    ·rw [h]; exact Nat.zero_le _
    ·obtain ⟨kv,hkv,he⟩:=List.mem_map.1 h
     rw [← he]
     exact hB kv hkv
   generalize lkM nilP L (absI z)=pa at evL hpB
   have hpf:=pa.few
   simp only [V0,sevalprocAttr,hfr,h,za c h,hrd,hab,evL]
   refine zb (fun jj st=>∃ (k:Nat) (on odd:Bool) (J:yLO),pa.l.length+1 - k<=jj/\1<=k/\k<=pa.l.length+1/\st.own=.cells [.int .i64 q.x,.int .i64 q.y]::.cells [.bool on]::.cells [.bool odd]::J/\Slots 40 st.t [(0,.mapC (mKs L) (mVs plV L)),(2,.fn 137 [] [.ptrM D 0 0,.ptrM D 1 0,.ptrM D 2 0]),(8,pa.v),(9,iv k),(10,c.v),(11,iv (c.l.length:Nat)),(12,iv i)]) (pa.l.length+1) (by omega) ⟨1,on,odd,J,by omega,by omega,by omega,rfl,by simp only [V0,sevalprocAttr,hfr,Int.natCast_one]⟩ ?_
   clear hfr
   rintro jj ⟨t,own⟩ KB ⟨k,on,odd,J,hjj2,hk1,hk,ho,hfr⟩ hnB heB hrB
   dsimp only at ho hfr
   subst ho
   simp only [V3] at hfr
   by_cases h2:k<pa.l.length
   ·have h3:k - 1<pa.l.length:=by omega
    have hx1:pa.l[k - 1]?=some pa.l[k - 1]:=zb7 h3
    have hx2:pa.l[k]?=some pa.l[k]:=zb7 h2
    generalize pa.l[k - 1]=y1 at hx1
    generalize pa.l[k]=y2 at hx2
    have r1:rdN (pa.l.flatMap Pt.c) ((k - 1)*2) 2=some [.int .i64 y1.x,.int .i64 y1.y]:=(zc Pt.c_len 0 2 hx1 (by omega)).trans rfl
    have r2:rdN (pa.l.flatMap Pt.c) (k*2) 2=some [.int .i64 y2.x,.int .i64 y2.y]:=(zc Pt.c_len 0 2 hx2 (by omega)).trans rfl
    have hwk:wrapI .i64 ((k:Int)+1)=((k+1:Nat):Int):=we
    have hwm:wrapI .i64 ((k:Int) - 1)=((k - 1:Nat):Int):=we
    obtain ⟨on',odd',J',hc⟩:=encl1_any (D:=D) (out:=out) hS (m:=m) (by omega) y1 y2 q on odd (J++[.free])
    simp only [V0,sevalprocAttr,hfr,h2,za pa h2,za pa h3,r1,r2,hwm,hc]
    refine ⟨by simp [comm],?_⟩
    simp only [V0,sevalprocAttr,hfr,hwk]
    exact hnB _ (pa.l.length+1 - (k+1)) (by omega) ⟨k+1,on',odd',J',by omega,by omega,by omega,rfl,by simp only [V0,sevalprocAttr,hfr,hwk]⟩
   ·simp only [V0,sevalprocAttr,hfr,h2]
    refine heB _ _ ?_
    simp only [V0,sevalprocAttr,hfr,hw]
    exact hnA _ (c.l.length - (i+1)) (by omega) ⟨i+1,on,odd,J,by omega,by omega,rfl,by simp only [V0,sevalprocAttr,hfr,hw]⟩
  ·simp only [V0,sevalprocAttr,hfr,h]
   refine heA _ _ ?_
   simp only [V0,sevalprocAttr,hfr,zr,yk]
   exact ⟨_,rfl,rfl,on,odd,J,rfl⟩
 obtain ⟨v,own',h1,rfl,on',odd',J',rfl⟩:=main
 exact ⟨on',odd',J',fun ownV id=>(yr (ns hS (by rfl)) rfl rfl).trans (h1 0)⟩
theorem encl_run (hS:NoS S) (c:SlOf 1 intc) (L:List (Int × SlOf 2 Pt.c)) (q:Pt):∃ N,∀ m,N<=m->∀ d out ownV own id,∃ b:Bool,callN Ftab S m d out ownV own id 111 [.mapC (mKs L) (mVs plV L),c.v,.agg q.c]=some (.r,.bool b,own):=by
 obtain ⟨B,hB⟩:=paths_few L
 refine ⟨c.l.length+B+30,fun m hm d out ownV own id=>?_⟩
 obtain ⟨m,rfl⟩:∃ q,m=q+2:=⟨m - 2,by omega⟩
 have main:∃ v,callN Ftab S (m+1+1) d out ownV own id 111 [.mapC (mKs L) (mVs plV L),c.v,.agg q.c]=some (.r,v,own)/\∃ b:Bool,v=.bool b:=by
  refine Zt (i:=i111) (ns hS (by rfl)) rfl rfl (lb rfl) fun t hfr=>?_
  simp only [V2,Nat.reduceAdd,i111,Pt.c,zg] at hfr
  generalize (fun l=>if l=d then ownV else out l:yLM)=out2
  suffices hsuf:∀ K:yKM,(∀ t' O (b:Bool),Slots 18 t' [(6,.bool b)]->K .ret ⟨t',O⟩)->Ex (callN Ftab S (m+1)) (d+1) out2 (m+1) i111.body K ⟨t,[]⟩ from hsuf _ fun t' O b ht=>by
   simp only [zd,zh] at ht
   rw [y9]
   refine ⟨.bool b,.bool b,?_,rfl,b,rfl⟩
   simp only [i111,V0,sevalprocAttr,ht]
  intro K fin
  obtain ⟨on',odd',J',hc⟩:=segs_run (D:=d+1) (out:=out2) hS (m:=m+1) c L B hB (by omega) q false false [.free]
  cases odd'
  ·simp only [i111,V0,sevalprocAttr,hfr,hc]
   exact fin _ _ false (by simp only [V0,sevalprocAttr,hfr])
  ·simp only [i111,V0,sevalprocAttr,hfr,hc]
   exact fin _ _ (!on') (by simp only [V0,sevalprocAttr,hfr])
 obtain ⟨v,h1,b,rfl⟩:=main
 exact ⟨b,h1⟩
theorem map_sh {k:Nat} (L:List (Int × SlOf 2 Pt.c)):sh k (.mapC (mKs L) (mVs plV L))=.mapC (mKs L) (mVs plV L):=zbp (YJ L 2)
theorem encl_gives (hT:TabCl Ftab) (hSc:SumCl S) (hS:NoS S) (c:SlOf 1 intc) (L:List (Int × SlOf 2 Pt.c)) (q:Pt):∃ (b:Bool) (N:Nat),GivesN S N 111 [.mapC (mKs L) (mVs plV L),c.v,.agg q.c] (.bool b):=by
 obtain ⟨N,hN⟩:=encl_run hS c L q
 obtain ⟨b,h1⟩:=hN N (zcf _) 0 (fun _=>[]) [] [] 0
 refine ⟨b,N,Ze hT hSc (ns hS (by rfl)) rfl rfl (fun k=>?_) rfl h1⟩
 simp only [zdc,zd5,map_sh,Z0 in_sh,sh,pt_sh]
end
end
section
structure ArB where
 tw:Int
 oc:SlOf 1 intc
 iv:IV
 ic:List (SlOf 1 intc)
 av:IV
 al:List Int
def arG (a:ArB):List IV:=[.int .i64 a.tw,a.oc.v,a.iv,a.av]
theorem yL (a:ArB):(arG a).length=4:=rfl
section
variable {S:ySM}
theorem find_run (hT:TabCl Ftab) (hSc:SumCl S) (hS:NoS S) (U:List (SlOf 1 intc)) (L:List (Int × SlOf 2 Pt.c)) (q:Pt):∃ N,∀ (A:List ArB) m,N+A.length<=m->A≠[]->A.length<=1000000->(∀ a∈A,a.oc∈U)->∀ D out ownV own id b,ownV[b]?=some (.cells (A.flatMap arG)) ->
  ∃ i:Nat,i<A.length/\callN Ftab S m D out ownV own id 93 [.mapC (mKs L) (mVs plV L),.slM D b 0 A.length A.length 4 false,.agg q.c]=some (.r,.int .i64 (i:Nat),own):=by
 have hcall:∀ c∈U,∃ N,∀ m,N<=m->∃ b:Bool,∀ d out ownV own id,callN Ftab S m d out ownV own id 111 [.mapC (mKs L) (mVs plV L),c.v,.agg q.c]=some (.r,.bool b,own):=fun c _=>by
  obtain ⟨b,N,h⟩:=encl_gives hT hSc hS c L q
  exact ⟨N,fun m hm=>⟨b,h m hm⟩⟩
 obtain ⟨N,hN⟩:=Yb U hcall
 refine ⟨N+10,fun A m hm hA0 hAl hAU d out ownV own id b hb=>?_⟩
 obtain ⟨m,rfl⟩:∃ q,m=q+2:=⟨m - 2,by omega⟩
 have hA1:1<=A.length:=by
  cases A with
  | nil=>exact absurd rfl hA0
  | cons _ _=>simp
 have main:∃ v,callN Ftab S (m+1+1) d out ownV own id 93 [.mapC (mKs L) (mVs plV L),.slM d b 0 A.length A.length 4 false,.agg q.c]=some (.r,v,own)/\∃ i:Nat,v=.int .i64 (i:Nat)/\i<A.length:=by
  refine Zt (i:=i93) (ns hS (by rfl)) rfl rfl (lb rfl) fun t hfr=>?_
  simp only [V2,Nat.reduceAdd,i93,Pt.c,zg] at hfr
  have ho2:(fun l=>if l=d then ownV else out l:yLM) d=ownV:=if_pos rfl
  generalize (fun l=>if l=d then ownV else out l:yLM)=out2 at ho2
  suffices hsuf:∀ K:yKM,(∀ t' O (i:Nat),i<A.length->Slots 42 t' [(6,iv i)]->K .ret ⟨t',O⟩)->Ex (callN Ftab S (m+1)) (d+1) out2 (m+1) i93.body K ⟨t,[]⟩ from hsuf _ fun t' O i hi ht=>by
   simp only [zd,zh] at ht
   rw [y9]
   refine ⟨iv i,iv i,?_,rfl,i,rfl,hi⟩
   simp only [i93,V0,sevalprocAttr,ht]
  intro K fin
  have e1:(d=d+1)=False:=eq_false (by omega)
  have e2:(d<d+1)=True:=eq_true (by omega)
  simp only [i93,V0,sevalprocAttr,hfr]
  refine zb (fun jj st=>∃ (i best:Nat) (J:yLO),A.length - i<=jj/\1<=i/\i<=A.length/\best<A.length/\st.own=.cells [.int .i64 q.x,.int .i64 q.y]::J/\Slots 42 st.t [(0,.mapC (mKs L) (mVs plV L)),(1,.slM d b 0 A.length A.length 4 false),(5,.ptrM (d+1) 0 0),(7,iv best),(8,iv i)]) A.length (by omega) ⟨1,0,[],by omega,by omega,by omega,by omega,rfl,by simp only [V0,sevalprocAttr,hfr,zcp,Int.natCast_one]⟩ ?_
  clear hfr
  rintro jj ⟨t,own⟩ KA ⟨i,best,J,hjj,hi1,hi,hbest,ho,hfr⟩ hnA heA hrA
  dsimp only at ho hfr
  subst ho
  simp only [V3] at hfr
  by_cases h:i<A.length
  ·have hx:A[i]?=some A[i]:=zb7 h
   obtain ⟨bb,hc⟩:=hN _ (hAU _ (zdj h)) (m+1) (by omega)
   generalize A[i]=x at hx hc
   obtain ⟨y,hx2⟩:=gx (l:=A) (i:=best) hbest
   simp only [Pt.c,zg] at hc
   have r0:rdN (A.flatMap arG) (i*4) 1=some [.int .i64 x.tw]:=(zc yL 0 1 hx (by omega)).trans rfl
   have r1:rdN (A.flatMap arG) (i*4+1) 1=some [x.oc.v]:=(zc yL 1 1 hx (by omega)).trans rfl
   have r2:rdN (A.flatMap arG) (best*4) 1=some [.int .i64 y.tw]:=(zc yL 0 1 hx2 (by omega)).trans rfl
   have i1:∀ own,iaddrV own 4 (.slM d b 0 A.length A.length 4 false) (.int .i64 (i:Int))=some (.p,.ptrM d b (i*4),own):=fun own=>by
    have:=zI (own:=own) (l:=d) (b:=b) (off:=0) (cap:=A.length) (z:=4) (z':=4) (tight:=false) (k:=.i64) h
    rw [zcq] at this
    exact this
   have i2:∀ own,iaddrV own 4 (.slM d b 0 A.length A.length 4 false) (.int .i64 (best:Int))=some (.p,.ptrM d b (best*4),own):=fun own=>by
    have:=zI (own:=own) (l:=d) (b:=b) (off:=0) (cap:=A.length) (z:=4) (z':=4) (tight:=false) (k:=.i64) hbest
    rw [zcq] at this
    exact this
   have hw:wrapI .i64 ((i:Int)+1)=((i+1:Nat):Int):=we
   have hnext:∀ t' O (best':Nat),best'<A.length->Slots 42 t' [(0,.mapC (mKs L) (mVs plV L)),(1,.slM d b 0 A.length A.length 4 false),(5,.ptrM (d+1) 0 0),(7,iv best'),(8,iv (i+1:Nat))]->KA .normal ⟨t',.cells [.int .i64 q.x,.int .i64 q.y]::O⟩:=fun t' O best' hb' ht=>hnA _ (A.length - (i+1)) (by omega) ⟨i+1,best',O,by omega,by omega,by omega,hb',rfl,ht⟩
   cases h0:((best:Int)==0)
   ·cases ht:decide (x.tw<y.tw)
    ·simp only [V0,sevalprocAttr,hfr,h,i1,i2,r0,r1,r2,e1,e2,ho2,hb,hc,h0,ht]
     refine ⟨by simp [comm],?_⟩
     simp only [V0,sevalprocAttr,hfr,hw]
     exact hnext _ _ best hbest (by simp only [V0,sevalprocAttr,hfr])
    ·cases bb
     ·simp only [V0,sevalprocAttr,hfr,h,i1,i2,r0,r1,r2,e1,e2,ho2,hb,hc,h0,ht]
      refine ⟨by simp [comm],?_⟩
      simp only [V0,sevalprocAttr,hfr,hw]
      exact hnext _ _ best hbest (by simp only [V0,sevalprocAttr,hfr])
     ·simp only [V0,sevalprocAttr,hfr,h,i1,i2,r0,r1,r2,e1,e2,ho2,hb,hc,h0,ht]
      refine ⟨by simp [comm],?_⟩
      simp only [V0,sevalprocAttr,hfr,hw]
      exact hnext _ _ i h (by simp only [V0,sevalprocAttr,hfr])
   ·cases bb
    ·simp only [V0,sevalprocAttr,hfr,h,i1,i2,r0,r1,r2,e1,e2,ho2,hb,hc,h0]
     refine ⟨by simp [comm],?_⟩
     simp only [V0,sevalprocAttr,hfr,hw]
     exact hnext _ _ best hbest (by simp only [V0,sevalprocAttr,hfr])
    ·simp only [V0,sevalprocAttr,hfr,h,i1,i2,r0,r1,r2,e1,e2,ho2,hb,hc,h0]
     refine ⟨by simp [comm],?_⟩
     simp only [V0,sevalprocAttr,hfr,hw]
     exact hnext _ _ i h (by simp only [V0,sevalprocAttr,hfr])
  ·simp only [V0,sevalprocAttr,hfr,h]
   refine heA _ _ ?_
   simp only [V0,sevalprocAttr,hfr]
   exact fin _ _ best hbest (by simp only [V0,sevalprocAttr,hfr])
 obtain ⟨v,h1,i,rfl,h2⟩:=main
 exact ⟨i,h2,h1⟩
end
end
section
theorem mode0_id {S:ySM} {f:FuncId} {i:IFn} {args:List IV} {m d:Nat} {out:yLM} {ownV own:yLO} {id id':Nat} (hS:S f args=none) (hi:Ftab f=some i) (hm:i.mode=0):callN Ftab S m d out ownV own id f args=callN Ftab S m d out ownV own id' f args:=by
 cases m with
 | zero=>rfl
 | succ m =>
  have h2:¬ (0=2):=by decide
  have h1:¬ (0=1):=by decide
  have h3:¬ (0=3):=by decide
  simp only [callN,hS,hi,hm,if_neg h2,if_neg h3,leave,if_neg h1]
def OwnT {α:Type} (g:α->List IV) (sz d k0:Nat) (B:Nat->Nat) (τ:Nat) (J:yLO) (lv:IV) (xs:List α):Prop:=(xs=[]/\lv=.nilsl)∨∃ b,xs≠[]/\lv=.slM d (k0+b) 0 xs.length xs.length sz false/\J[b]?=some (.cells (xs.flatMap g))/\B b=τ
section
variable {α:Type} {g:α->List IV} {sz d k0 τ:Nat} {B:Nat->Nat} {J:yLO} {lv:IV} {xs:List α}
theorem OwnT.more (h:OwnT g sz d k0 B τ J lv xs) (r:yLO):OwnT g sz d k0 B τ (J++r) lv xs:=by
 rcases h with h | ⟨b,hne,h1,h2,h3⟩
 ·exact .inl h
 ·exact .inr ⟨b,hne,h1,by rw [zb8 (zb6.1 h2).1]; exact h2,h3⟩
theorem OwnT.len (h:OwnT g sz d k0 B τ J lv xs) {D:Nat} {out:yLM} {ownV own:yLO}:lenV D out ownV own 1 lv=some (.p,.int .i64 (xs.length:Nat),own):=by
 rcases h with ⟨rfl,rfl⟩ | ⟨b,_,rfl,_⟩ <;> rfl
theorem OwnT.scal (h:OwnT g sz d k0 B τ J lv xs):lv.scalar=true:=by
 rcases h with ⟨_,rfl⟩ | ⟨b,_,rfl,_⟩ <;> rfl
theorem OwnT.cells (h:OwnT g sz d k0 B τ J lv xs):lv.cells=[lv]:=by
 rcases h with ⟨_,rfl⟩ | ⟨b,_,rfl,_⟩ <;> rfl
def putB (B:Nat->Nat) (nb τ:Nat):Nat->Nat:=fun j=>if j=nb then τ else B j
theorem YK (hs:∀ a,(g a).length=sz) {n0 slot k:Nat} {Pre R:yLO} {ys:List α} (hk0:Pre.length=k0) (h:OwnT g sz d k0 B τ J lv xs) (hy:ys.length≠0) (hx:xs.length+ys.length<=1073741824) (hk:n0+slot=k0+(J.length+k)) (hf:R[k]?=some .free) (hsc:(ys.flatMap g).all IV.scalar=true) :
  ∃ e lv' J2,(∀ lk:Nat->Nat->Option IObj,(∀ j x,j<k0+J.length->(Pre++(J++R))[j]?=some x->lk d j=some x)->appendI d n0 lk (Pre++(J++R)) sz lv (ys.flatMap g) ys.length slot=some (e,lv',Pre++J2))/\(e=.a∨∃ i s,e=.k i s)/\OwnT g sz d k0 (putB B (J.length+k) τ) τ J2 lv' (xs++ys)/\J2.length=(J++R).length /\
   ∀ {β:Type} {g':β->List IV} {sz' τ':Nat} {lv0:IV} {zs:List β},τ'≠τ->OwnT g' sz' d k0 B τ' J lv0 zs->OwnT g' sz' d k0 (putB B (J.length+k) τ) τ' J2 lv0 zs:=by
 subst hk0
 have hkl:k<R.length:=(zb6.1 hf).1
 have hget:(J++R)[J.length+k]?=some .free:=by
  rw [zcb (by omega),zdd]
  exact hf
 have hlt:J.length+k<(J++R).length:=by rw [zce]; omega
 have hne:xs++ys≠[]:=by
  intro he
  exact hy (by rw [(List.append_eq_nil_iff.1 he).2]; rfl)
 rcases h with ⟨rfl,rfl⟩ | ⟨b,_,rfl,h2,h3⟩
 ·refine ⟨.a,.slM d (n0+slot) 0 ys.length ys.length sz false,(J++R).set (J.length+k) (.cells (ys.flatMap g)),fun lk _=>?_,.inl rfl,.inr ⟨J.length+k,hne,by rw [hk]; simp,?_,if_pos rfl⟩,by rw [zdn],fun {β g' sz' τ' lv0 zs} hτ hO=>?_⟩
  ·rw [ZV hy (by unfold bound; simp at hx; omega)]
   unfold mkAt
   rw [hk,zZ,hget]
   simp only [zf]
   rw [yc]
  ·rw [zdb hlt]
   rfl
  ·rcases hO with hO | ⟨b,hne,h1,h2,h3⟩
   ·exact .inl hO
   ·have hb:=(zb6.1 h2).1
    refine .inr ⟨b,hne,h1,?_,?_⟩
    ·rw [zc5 (by omega),zb8 hb]
     exact h2
    ·unfold putB
     rw [if_neg (by omega)]
     exact h3
 ·have hb:b<J.length:=(zb6.1 h2).1
  have hb2:(J++R)[b]?=some (.cells (xs.flatMap g)):=by rw [zb8 hb]; exact h2
  refine ⟨.k (Pre.length+b) (n0+slot),.slM d (n0+slot) 0 (xs.length+ys.length) (xs.length+ys.length) sz false,((J++R).set b .gone).set (J.length+k) (.cells (xs.flatMap g++ys.flatMap g)),fun lk hlk=>?_,.inr ⟨_,_,rfl⟩,.inr ⟨J.length+k,hne,by rw [hk]; simp,?_,if_pos rfl⟩,by rw [zdn,zdn],fun {β g' sz' τ' lv0 zs} hτ hO=>?_⟩
  ·rw [y5 hy hx (zu hs) hsc (hlk _ _ (by omega) (by rw [zZ]; exact hb2))]
   unfold killAt
   rw [hk,zZ,hget]
   simp only [zf]
   rw [yc,yc]
  ·rw [zdb (by rw [zdn]; exact hlt)]
   simp
  ·rcases hO with hO | ⟨b',hne,h1,h2',h3'⟩
   ·exact .inl hO
   ·have hb':=(zb6.1 h2').1
    have hbb:b≠b':=fun he=>hτ (by rw [← h3',← he,h3])
    refine .inr ⟨b',hne,h1,?_,?_⟩
    ·rw [zc5 (by omega),zc5 hbb,zb8 hb']
     exact h2'
    ·unfold putB
     rw [if_neg (by omega)]
     exact h3'
theorem OwnT.set_other {β:Type} {g':β->List IV} {sz' τ' b:Nat} {lv0:IV} {zs:List β} {o:IObj} (hb:B b=τ) (hτ:τ'≠τ) (hO:OwnT g' sz' d k0 B τ' J lv0 zs):OwnT g' sz' d k0 B τ' (J.set b o) lv0 zs:=by
 rcases hO with hO | ⟨b',hne,h1,h2,h3⟩
 ·exact .inl hO
 ·have hbb:b≠b':=fun he=>hτ (by rw [← h3,← he,hb])
  exact .inr ⟨b',hne,h1,by rw [zc5 hbb]; exact h2,h3⟩
end
theorem frz_list {α:Type} {g:α->List IV} {sz:Nat} (hs:∀ a,(g a).length=sz) {n D b:Nat} {own:yLO} {xs:List α} {c':List IV} (hf:(xs.flatMap g).mapM (freeze n D own)=some c') (hb:own[b]?=some (.cells (xs.flatMap g))):freeze (n+1) D own (.slM D b 0 xs.length xs.length sz false)=some (.slC c' xs.length sz false):=by
 have hseg:seg (xs.flatMap g) 0 (xs.length*sz)=some (xs.flatMap g):=by
  unfold seg
  rw [zf,zu hs,if_pos (by omega),List.drop_zero,zcr (by rw [zu hs]; omega)]
 simp only [freeze,if_true,hb,hseg,zch,hf,zb9,zcw]
theorem ownT_fz {α:Type} {g:α->List IV} {sz:Nat} (hs:∀ a,(g a).length=sz) {n D k0 τ:Nat} {B:Nat->Nat} {Pre J:yLO} {lv:IV} {xs:List α} (hk0:Pre.length=k0) (hf:∀ a,∀ x∈g a,Fz n x) (hx:xs.length<9223372036854775808) (h:OwnT g sz D k0 B τ J lv xs):freeze (n+1) D (Pre++J) lv=some (rowQ hs xs hx).v:=by
 subst hk0
 rcases h with ⟨rfl,rfl⟩ | ⟨b,hne,rfl,h2,_⟩
 ·exact y3 _ (by omega) _ _
 ·have hm:(xs.flatMap g).mapM (freeze n D (Pre++J))=some (xs.flatMap g):=zG fun x hx=>by
   obtain ⟨a,_,ha⟩:=zdy.1 hx
   exact hf a x ha n (zcf _) _ _
  rw [frz_list hs hm (by rw [zZ]; exact h2)]
  cases xs with
  | nil=>exact absurd rfl hne
  | cons x xs=>rfl
end
section
theorem wrN_left:∀ {vs a b:List IV} {k:Nat},k+vs.length<=a.length->wrN (a++b) k vs=wrN a k vs++b
 | [],_,_,_,_=>rfl
 | v::vs,a,b,k,h=>by
  simp only [zcc] at h
  simp only [wrN]
  rw [List.set_append_left _ _ (by omega)]
  exact wrN_left (by rw [zdn]; omega)
theorem wrN_right:∀ {vs a b:List IV} {k:Nat},wrN (a++b) (a.length+k) vs=a++wrN b k vs
 | [],_,_,_=>rfl
 | v::vs,a,b,k=>by
  simp only [wrN]
  rw [zdl _ _ (by omega),zdd,zcl]
  exact wrN_right
theorem YL {α:Type} {g:α->List IV} {sz:Nat} (hs:∀ a,(g a).length=sz):∀ {xs:List α} {i k:Nat} {x x':α} {vs:List IV},xs[i]?=some x->k+vs.length<=sz->g x'=wrN (g x) k vs->wrN (xs.flatMap g) (i*sz+k) vs=(xs.set i x').flatMap g
 | [],i,k,x,x',vs,h,_,_=>by simp at h
 | y::xs,0,k,x,x',vs,h,hk,he=>by
  simp only [zc2,zca] at h
  subst h
  rw [List.set_cons_zero,zcs,zcs,he,zdf,zcq,wrN_left (by rw [hs]; exact hk)]
 | y::xs,i+1,k,x,x',vs,h,hk,he=>by
  simp only [zcg] at h
  rw [zd3,zcs,zcs,← YL hs h hk he,show (i+1)*sz+k=(g y).length+(i*sz+k) by rw [hs,Nat.succ_mul]; omega,wrN_right]
def nilC:SlOf 1 intc:=nilS _ _
structure DivOK (D:Nat) (U:List (SlOf 1 intc)) (n1 n2 n3:Nat) (J:yLO) (B:Nat->Nat) (lv:IV) (A:List ArB) (rv:IV) (rc:List (SlOf 1 intc)):Prop where
 l:OwnT arG 4 D 1 B 0 J lv A
 ne:A≠[]
 len:A.length<=n1+1
 r:OwnT cyG 1 D 1 B 1 J rv rc
 rl:rc.length<=n1
 rU:∀ c∈rc,c∈U
 el:∀ i a,A[i]?=some a->OwnT cyG 1 D 1 B (2+2*i) J a.iv a.ic/\OwnT intc 1 D 1 B (3+2*i) J a.av a.al/\a.ic.length<=n2/\a.al.length<=n3/\(∀ c∈a.ic,c∈U)/\(0<i->a.oc∈U)/\a.oc∈nilC::U
section
variable {D n1 n2 n3:Nat} {U:List (SlOf 1 intc)} {J:yLO} {B:Nat->Nat} {lv rv:IV} {A:List ArB} {rc:List (SlOf 1 intc)}
theorem DivOK.more (h:DivOK D U n1 n2 n3 J B lv A rv rc) (r:yLO):DivOK D U n1 n2 n3 (J++r) B lv A rv rc :=
 ⟨h.l.more r,h.ne,h.len,h.r.more r,h.rl,h.rU,fun i a ha=>by
  obtain ⟨h1,h2,h3⟩:=h.el i a ha
  exact ⟨h1.more r,h2.more r,h3⟩⟩
theorem DivOK.blk (h:DivOK D U n1 n2 n3 J B lv A rv rc):∃ b,lv=.slM D (1+b) 0 A.length A.length 4 false/\J[b]?=some (.cells (A.flatMap arG))/\B b=0:=by
 rcases h.l with ⟨h0,_⟩ | ⟨b,_,h1,h2,h3⟩
 ·exact absurd h0 h.ne
 ·exact ⟨b,h1,h2,h3⟩
theorem DivOK.set {m2 m3:Nat} {J2:yLO} {B2:Nat->Nat} {b i:Nat} {a a':ArB} (h:DivOK D U n1 n2 n3 J B lv A rv rc) (hl:lv=.slM D (1+b) 0 A.length A.length 4 false) (hb:J2[b]?=some (.cells (A.flatMap arG))) (hB:B2 b=0) (ha:A[i]?=some a) (hoc:a'.oc=a.oc)
  (hr:OwnT cyG 1 D 1 B2 1 J2 rv rc) (hm2:n2<=m2) (hm3:n3<=m3)
  (hel:∀ j x,A[j]?=some x->j≠i->OwnT cyG 1 D 1 B2 (2+2*j) J2 x.iv x.ic/\OwnT intc 1 D 1 B2 (3+2*j) J2 x.av x.al)
  (h1:OwnT cyG 1 D 1 B2 (2+2*i) J2 a'.iv a'.ic) (h2:OwnT intc 1 D 1 B2 (3+2*i) J2 a'.av a'.al) (h3:a'.ic.length<=m2) (h4:a'.al.length<=m3) (h5:∀ c∈a'.ic,c∈U) :
  DivOK D U n1 m2 m3 (J2.set b (.cells ((A.set i a').flatMap arG))) B2 lv (A.set i a') rv rc:=by
 have hil:=(zb6.1 ha).1
 have hbl:=(zb6.1 hb).1
 refine ⟨.inr ⟨b,fun he=>h.ne (by have:=congrArg List.length he; simpa using this),by rw [hl,zdn],zdb hbl,hB⟩,fun he=>h.ne (by have:=congrArg List.length he; simpa using this),by rw [zdn]; exact h.len,OwnT.set_other hB (by omega) hr,h.rl,h.rU,fun j x hx=>?_⟩
 by_cases hj:j=i
 ·subst hj
  rw [zdb hil] at hx
  cases hx
  obtain ⟨_,_,_,_,_,h6,h7⟩:=h.el j a ha
  exact ⟨OwnT.set_other hB (by omega) h1,OwnT.set_other hB (by omega) h2,h3,h4,h5,by rw [hoc]; exact h6,by rw [hoc]; exact h7⟩
 ·rw [zc5 (Ne.symm hj)] at hx
  obtain ⟨_,_,g3,g4,g5⟩:=h.el j x hx
  obtain ⟨g1,g2⟩:=hel j x hx hj
  exact ⟨OwnT.set_other hB (by omega) g1,OwnT.set_other hB (by omega) g2,by omega,by omega,g5⟩
end
section
variable {S:ySM}
theorem div_one (hS:NoS S) {m D:Nat} {out:yLM} {K:yKM} (p:Pn) (cs:SlOf 1 cyG) (hcl:cs.l.length<=65536) (hm:cs.l.length+20<=m) (mv:IV) (J0:yLO) (B0:Nat->Nat) (lv0:IV) (A0:List ArB) (h0:DivOK D cs.l 0 0 0 J0 B0 lv0 A0 .nilsl [])
  (htw:∀ c∈cs.l,∃ z:Int,∀ d out ownV own id,callN Ftab S m d out ownV own id 92 [.agg p.c,c.v]=some (.r,.int .i64 z,own))
  (t:List IV) (hfr:Slots 110 t [(1,cs.v),(2,mv),(3,.ptrM D 0 0),(7,lv0),(8,.nilsl)])
  (hK:∀ t' J B lv A rv rc,DivOK D cs.l cs.l.length 0 0 J B lv A rv rc->Slots 110 t' [(2,mv),(3,.ptrM D 0 0),(7,lv),(8,rv)]->K .normal ⟨t',.cells [p.ns.v,p.as.v,p.fs.v]::J⟩) :
  Ex (callN Ftab S m) D out m (i66.body.sub [1,1,1,0]) K ⟨t,.cells [p.ns.v,p.as.v,p.fs.v]::J0⟩:=by
 simp only [V3] at hfr
 have hcf:=cs.few
 simp only [i66,IC.sub,V0,sevalprocAttr,hfr]
 refine zb (fun jj st=>∃ (i:Nat) (J:yLO) (B:Nat->Nat) (lv:IV) (A:List ArB) (rv:IV) (rc:List (SlOf 1 intc)),cs.l.length - i<=jj/\i<=cs.l.length/\DivOK D cs.l i 0 0 J B lv A rv rc/\st.own=.cells [p.ns.v,p.as.v,p.fs.v]::J/\Slots 110 st.t [(2,mv),(3,.ptrM D 0 0),(7,lv),(8,rv),(21,cs.v),(22,iv (cs.l.length:Nat)),(23,iv i)]) cs.l.length (by omega) ⟨0,J0,B0,lv0,A0,.nilsl,[],by omega,by omega,h0,rfl,by simp only [V0,sevalprocAttr,hfr,zcp]⟩ ?_
 clear hfr h0
 rintro jj ⟨t,own⟩ KA ⟨i,J,B,lv,A,rv,rc,hjj,hi,hD,ho,hfr⟩ hnA heA hrA
 dsimp only at ho hfr
 subst ho
 simp only [V3] at hfr
 by_cases h:i<cs.l.length
 ·have hx:cs.l[i]?=some cs.l[i]:=zb7 h
  have hmem:=zdj h
  obtain ⟨z,hz⟩:=htw _ hmem
  generalize cs.l[i]=c at hx hmem hz
  have hrd:rdN (cs.l.flatMap cyG) (i*1) 1=some [c.v]:=(zc yy 0 1 hx (by omega)).trans rfl
  have hw:wrapI .i64 ((i:Int)+1)=((i+1:Nat):Int):=we
  simp only [Pn.c] at hz
  have hlen:=hD.len
  have hrl:=hD.rl
  cases hp:decide (0<z)
  ·obtain ⟨e,rv2,J2,happ,_,hO2,hl2,hoth⟩:=YK (k0:=1) (Pre:=[.cells [p.ns.v,p.as.v,p.fs.v]]) (n0:=J.length+1+1) (slot:=0) (k:=1) (R:=[.free,.free]) yy rfl hD.r (ys:=[c]) (by simp) (by simp only [zcc,zci]; omega) (by omega) rfl (by simp [cyG,ZT])
   have happ:=happ (look D out (.cells [p.ns.v,p.as.v,p.fs.v]::(J++[.free,.free]))) (fun j x hj hx=>by simp only [look,if_true]; exact hx)
   simp only [zcu,zc4,zcs,zdo,cyG,zcc,zci,zda,zcq] at happ
   simp only [V0,sevalprocAttr,hfr,h,za cs h,hrd,hz,gt_iff_lt,hp,rep,zw,zF,zJ,Y2,happ,hw]
   refine hnA _ (cs.l.length - (i+1)) (by omega) ⟨i+1,J2,_,lv,A,rv2,rc++[c],by omega,by omega,⟨hoth (by omega) hD.l,hD.ne,by omega,hO2,by simp only [zce,zcc,zci]; omega,fun y hy=>?_,fun j a ha=>?_⟩,rfl,by simp only [V0,sevalprocAttr,hfr,hw]⟩
   ·rcases zd4.1 hy with hy | hy
    ·exact hD.rU y hy
    ·rw [zd8.1 hy]; exact hmem
   ·obtain ⟨g1,g2,g3⟩:=hD.el j a ha
    exact ⟨hoth (by omega) g1,hoth (by omega) g2,g3⟩
  ·obtain ⟨e,lv2,J2,happ,_,hO2,hl2,hoth⟩:=YK (k0:=1) (Pre:=[.cells [p.ns.v,p.as.v,p.fs.v]]) (n0:=J.length+1+1) (slot:=1) (k:=2) (R:=[.free,.cells [.int .i64 z,c.v,.nilsl,.nilsl],.free]) yL rfl hD.l (ys:=[⟨z,c,.nilsl,[],.nilsl,[]⟩]) (by simp) (by simp only [zcc,zci]; omega) (by omega) rfl (by simp only [zcs,zdo,zda,arG,zd9,List.all_nil,ZT,zba,Z9,Bool.and_true,Bool.and_self])
   have happ:=happ (look D out (.cells [p.ns.v,p.as.v,p.fs.v]::(J++[.free,.cells [.int .i64 z,c.v,.nilsl,.nilsl],.free]))) (fun j x hj hx=>by simp only [look,if_true]; exact hx)
   simp only [zcu,zc4,zcs,zdo,arG,zcc,zci,zda,zcq] at happ
   have hci:cellsI (look D out (.cells [p.ns.v,p.as.v,p.fs.v]::(J++[.free,.cells [.int .i64 z,c.v,.nilsl,.nilsl],.free]))) 4 (.slM D (J.length+1+1) 0 1 1 4 false)=some ([.int .i64 z,c.v,.nilsl,.nilsl],1):=by
    simp [cellsI,look,seg,zf]
   simp only [V0,sevalprocAttr,hfr,h,za cs h,hrd,hz,gt_iff_lt,hp,rep,ev_mslice,e_mslice,zw,zF,zJ,hci,happ,hw]
   refine hnA _ (cs.l.length - (i+1)) (by omega) ⟨i+1,J2,_,lv2,_,rv,rc,by omega,by omega,⟨hO2,by simp,by simp only [zce,zcc,zci]; omega,hoth (by omega) hD.r,by omega,hD.rU,fun j a ha=>?_⟩,rfl,by simp only [V0,sevalprocAttr,hfr,hw]⟩
   by_cases hj:j<A.length
   ·rw [zb8 hj] at ha
    obtain ⟨g1,g2,g3⟩:=hD.el j a ha
    exact ⟨hoth (by omega) g1,hoth (by omega) g2,g3⟩
   ·rw [zcb (by omega)] at ha
    have hj0:j - A.length=0:=by
     have:=(zb6.1 ha).1
     simp at this
     omega
    rw [hj0] at ha
    cases ha
    exact ⟨.inl ⟨rfl,rfl⟩,.inl ⟨rfl,rfl⟩,zcf _,zcf _,fun _ h=>by simp at h,fun _=>hmem,zd0 _ hmem⟩
 ·simp only [V0,sevalprocAttr,hfr,h]
  refine heA _ _ ?_
  simp only [V0,sevalprocAttr,hfr]
  have hii:i=cs.l.length:=by omega
  subst hii
  exact hK _ _ _ _ _ _ _ hD (by simp only [V0,sevalprocAttr,hfr])
end
end
section
def FindOK (S:ySM) (m n:Nat) (U:List (SlOf 1 intc)) (L:List (Int × SlOf 2 Pt.c)) (q:Pt):Prop:=∀ (A:List ArB),A≠[]->A.length<=n->(∀ a∈A,a.oc∈nilC::U)->∀ D out ownV own id b,ownV[b]?=some (.cells (A.flatMap arG)) ->
  ∃ i:Nat,i<A.length/\callN Ftab S m D out ownV own id 93 [.mapC (mKs L) (mVs plV L),.slM D b 0 A.length A.length 4 false,.agg q.c]=some (.r,.int .i64 (i:Nat),own)
theorem arG_rd {A:List ArB} {k j:Nat} {a:ArB} (ha:A[k]?=some a) (hj:j+1<=4):rdN (A.flatMap arG) (k*4+j) 1=rdN (arG a) j 1:=zc yL j 1 ha hj
theorem DivOK.oc {D n1 n2 n3:Nat} {U:List (SlOf 1 intc)} {J:yLO} {B:Nat->Nat} {lv rv:IV} {A:List ArB} {rc:List (SlOf 1 intc)} (h:DivOK D U n1 n2 n3 J B lv A rv rc):∀ a∈A,a.oc∈nilC::U:=fun a ha=>by
 obtain ⟨i,hi⟩:=List.getElem?_of_mem ha
 exact (h.el i a hi).2.2.2.2.2.2
section
variable {S:ySM}
theorem div_two (hS:NoS S) {m D:Nat} {out:yLM} {K:yKM} (p:Pn) (cs:SlOf 1 cyG) (hcl:cs.l.length<=65536) (hm:cs.l.length+20<=m) (L:List (Int × SlOf 2 Pt.c)) (J0:yLO) (B0:Nat->Nat) (lv:IV) (A0:List ArB) (rv:IV) (rc:List (SlOf 1 intc)) (h0:DivOK D cs.l cs.l.length 0 0 J0 B0 lv A0 rv rc)
  (hfd:∀ c∈cs.l,∃ (y:Pt) (h:Int) (r:List Int),c.l=h::r/\(lkM nilP L (absI h)).l[0]?=some y/\FindOK S m (cs.l.length+1) cs.l L y)
  (t:List IV) (hfr:Slots 110 t [(2,.mapC (mKs L) (mVs plV L)),(3,.ptrM D 0 0),(7,lv),(8,rv)])
  (hK:∀ t' J B A,DivOK D cs.l cs.l.length cs.l.length 0 J B lv A rv rc->Slots 110 t' [(2,.mapC (mKs L) (mVs plV L)),(3,.ptrM D 0 0),(7,lv)]->K .normal ⟨t',.cells [p.ns.v,p.as.v,p.fs.v]::J⟩) :
  Ex (callN Ftab S m) D out m (i66.body.sub [1,1,1,1,0]) K ⟨t,.cells [p.ns.v,p.as.v,p.fs.v]::J0⟩:=by
 simp only [V3] at hfr
 have hrl:=h0.rl
 have hlen0:=fun ownV own=>OwnT.len h0.r (D:=D) (out:=out) (ownV:=ownV) (own:=own)
 have hab:∀ z:Int,(if wrapI .i64 (0 - z) > z then wrapI .i64 (0 - z) else z)=absI z:=fun _=>rfl
 simp only [i66,IC.sub,V0,sevalprocAttr,hfr,hlen0]
 refine zb (fun jj st=>∃ (i:Nat) (J:yLO) (B:Nat->Nat) (A:List ArB),rc.length - i<=jj/\i<=rc.length/\DivOK D cs.l cs.l.length i 0 J B lv A rv rc/\st.own=.cells [p.ns.v,p.as.v,p.fs.v]::J/\Slots 110 st.t [(2,.mapC (mKs L) (mVs plV L)),(3,.ptrM D 0 0),(7,lv),(43,rv),(44,iv (rc.length:Nat)),(45,iv i)]) rc.length (by omega) ⟨0,J0,B0,A0,by omega,by omega,h0,rfl,by simp only [V0,sevalprocAttr,hfr,zcp]⟩ ?_
 clear hfr h0
 rintro jj ⟨t,own⟩ KA ⟨i,J,B,A,hjj,hi,hD,ho,hfr⟩ hnA heA hrA
 dsimp only at ho hfr
 subst ho
 simp only [V3] at hfr
 by_cases h:i<rc.length
 ·have hx:rc[i]?=some rc[i]:=zb7 h
  have hmem:=hD.rU _ (zdj h)
  generalize rc[i]=c at hx hmem
  obtain ⟨y,hh,r,hcl2,hy,hfy⟩:=hfd c hmem
  generalize hpa:lkM nilP L (absI hh)=pa at hy
  obtain ⟨br,hrv,hrb⟩:∃ br,rv=.slM D (1+br) 0 rc.length rc.length 1 false/\J[br]?=some (.cells (rc.flatMap cyG)):=by
   rcases hD.r with ⟨h1,_⟩ | ⟨b,_,h1,h2,_⟩
   ·rw [h1] at h; simp at h
   ·exact ⟨b,h1,h2⟩
  obtain ⟨b,hlv,hb,hB⟩:=hD.blk
  have gr:∀ x:IObj,(x::J)[1+br]?=some (.cells (rc.flatMap cyG)):=fun x=>by rw [Nat.add_comm 1 br,zcg]; exact hrb
  have gl:∀ (x:IObj) (R:yLO),(x::(J++R))[1+b]?=some (.cells (A.flatMap arG)):=fun x R=>by rw [Nat.add_comm 1 b,zcg,zb8 (zb6.1 hb).1]; exact hb
  have hlA:A.length<=cs.l.length+1:=hD.len
  obtain ⟨k,hk,hfind⟩:∃ k:Nat,k<A.length/\∀ id,callN Ftab S m D out (.cells [p.ns.v,p.as.v,p.fs.v]::(J++[.free])) (.cells [p.ns.v,p.as.v,p.fs.v]::(J++[.free])) id 93 [.mapC (mKs L) (mVs plV L),lv,.agg [.int .i64 y.x,.int .i64 y.y]]=some (.r,.int .i64 (k:Nat),.cells [p.ns.v,p.as.v,p.fs.v]::(J++[.free])):=by
   obtain ⟨k,hk,hc⟩:=hfy A hD.ne hlA hD.oc D out (.cells [p.ns.v,p.as.v,p.fs.v]::(J++[.free])) (.cells [p.ns.v,p.as.v,p.fs.v]::(J++[.free])) 0 (1+b) (gl _ _)
   refine ⟨k,hk,fun id=>?_⟩
   rw [hlv]
   simp only [Pt.c,zg] at hc
   rw [← hc]
   exact mode0_id (ns hS (by rfl)) rfl rfl
  obtain ⟨a,ha⟩:=gx (l:=A) (i:=k) hk
  obtain ⟨g1,g2,g3,g4,g5,g6,g7⟩:=hD.el k a ha
  have hrd:rdN (rc.flatMap cyG) (i*1) 1=some [c.v]:=(zc yy 0 1 hx (by omega)).trans rfl
  have hra:rdN (A.flatMap arG) (k*4+2) 1=some [a.iv]:=(arG_rd ha (by omega)).trans rfl
  have hw:wrapI .i64 ((i:Int)+1)=((i+1:Nat):Int):=we
  have hir:∀ own,iaddrV own 1 (.slM D (1+br) 0 rc.length rc.length 1 false) (.int .i64 (i:Int))=some (.p,.ptrM D (1+br) (i*1),own):=fun own=>by
   have:=zI (own:=own) (l:=D) (b:=1+br) (off:=0) (cap:=rc.length) (z:=1) (z':=1) (tight:=false) (k:=.i64) h
   rw [zcq] at this
   exact this
  have hil:∀ own,iaddrV own 4 (.slM D (1+b) 0 A.length A.length 4 false) (.int .i64 (k:Int))=some (.p,.ptrM D (1+b) (k*4),own):=fun own=>by
   have:=zI (own:=own) (l:=D) (b:=1+b) (off:=0) (cap:=A.length) (z:=4) (z':=4) (tight:=false) (k:=.i64) hk
   rw [zcq] at this
   exact this
  have hc0:0<c.l.length:=by rw [hcl2]; simp
  have hic:∀ own,iaddrV own 1 c.v (.int .i64 0)=some (.p,.ptrC (c.l.flatMap intc) (0*1),own):=fun own=>za c (i:=0) hc0
  have hp0:0<pa.l.length:=(zb6.1 hy).1
  have hip:∀ own,iaddrV own 2 pa.v (.int .i64 0)=some (.p,.ptrC (pa.l.flatMap Pt.c) (0*2),own):=fun own=>za pa (i:=0) hp0
  have hrc:rdN (c.l.flatMap intc) (0*1) 1=some [.int .i64 hh]:=(zc (l:=c.l) (i:=0) (x:=hh) zi 0 1 (by rw [hcl2]; rfl) (by omega)).trans rfl
  have hrp:rdN (pa.l.flatMap Pt.c) (0*2) 2=some [.int .i64 y.x,.int .i64 y.y]:=(zc Pt.c_len 0 2 hy (by omega)).trans rfl
  have evL:∀ (C:Call) (n0:Nat) (ownV own:yLO) (t:List IV) (a b:Opd),ρ t a=.mapC (mKs L) (mVs plV L)->ρ t b=.int .i64 (absI hh)->evOp C D out n0 ownV own t (.lookup .nilsl (false,[1]) false a b)=some (.p,pa.v,own):=fun C n0 ownV own t a b h1 h2=>(ev_lookC (u:=plV) nilP (absI hh) rfl h1 h2).trans (by rw [hpa]; rfl)
  obtain ⟨e,iv2,J2,happ,_,hO2,hl2,hoth⟩:=YK (k0:=1) (Pre:=[.cells [p.ns.v,p.as.v,p.fs.v]]) (n0:=J.length+1+1) (slot:=0) (k:=1) (R:=[.free,.free]) yy rfl g1 (ys:=[c]) (by simp) (by simp only [zcc,zci]; omega) (by omega) rfl (by simp [cyG,ZT])
  have happ:=happ (look D out (.cells [p.ns.v,p.as.v,p.fs.v]::(J++[.free,.free]))) (fun j x hj hx=>by simp only [look,if_true]; exact hx)
  simp only [zcu,zc4,zcs,zdo,cyG,zcc,zci,zda,zcq] at happ
  have hb2:J2[b]?=some (.cells (A.flatMap arG))/\putB B (J.length+1) (2+2*k) b=0:=by
   rcases hoth (by omega) hD.l with ⟨h1,_⟩ | ⟨b',_,h1,h2,h3⟩
   ·exact absurd h1 hD.ne
   ·rw [hlv] at h1
    injection h1 with _ hbb
    have:b'=b:=by omega
    subst this
    exact ⟨h2,h3⟩
  have hset:=hD.set hlv hb2.1 hb2.2 ha (a':={ a with iv:=iv2,ic:=a.ic++[c] }) rfl (hoth (by omega) hD.r) (m2:=i+1) (m3:=0) (by omega) (by omega) (fun j x hx hj=>by
   obtain ⟨q1,q2,_⟩:=hD.el j x hx
   exact ⟨hoth (by omega) q1,hoth (by omega) q2⟩) hO2 (hoth (by omega) g2) (by simp only [zce,zcc,zci]; omega) g4 (fun z hz=>by
   rcases zd4.1 hz with hz | hz
   ·exact g5 z hz
   ·rw [zd8.1 hz]; exact hmem)
  have gl2:∀ x:IObj,(x::J2)[1+b]?=some (.cells (A.flatMap arG)):=fun x=>by rw [Nat.add_comm 1 b,zcg]; exact hb2.1
  have sl2:∀ (x y:IObj),(x::J2).set (1+b) y=x::J2.set b y:=fun x y=>by rw [Nat.add_comm 1 b,zd3]
  have hfit:k*4+2+1<=(A.flatMap arG).length:=by rw [zu yL]; omega
  have hwr:wrN (A.flatMap arG) (k*4+2) [iv2]=(A.set k { a with iv:=iv2,ic:=a.ic++[c] }).flatMap arG:=YL yL ha (by simp) rfl
  have sc2:=hO2.scal
  have cl2:=hO2.cells
  have glx:∀ (x:IObj) (u v:IObj),(x::(J++[u,v]))[1+b]?=some (.cells (A.flatMap arG)):=fun x u v=>gl x _
  simp only [V0,sevalprocAttr,hfr,h,hrv,hlv,hir,gr,hrd,hic,hrc,hab,evL]
  rw [hlv] at hfind
  refine ⟨by simp [comm],?_⟩
  simp only [V0,sevalprocAttr,hfr,hlv,hip,hrp,hfind,hil,glx,hra,rep,zw,zF,zJ,Y2,happ,gl2,sl2,hfit,hwr,sc2,cl2,hw]
  exact hnA _ (rc.length - (i+1)) (by omega) ⟨i+1,_,_,_,by omega,by omega,hset,rfl,by simp only [V0,sevalprocAttr,hfr,hw,hlv,hrv]⟩
 ·simp only [V0,sevalprocAttr,hfr,h]
  refine heA _ _ ?_
  simp only [V0,sevalprocAttr,hfr]
  refine hK _ _ _ _ ⟨hD.l,hD.ne,hD.len,hD.r,hD.rl,hD.rU,fun j x hx=>?_⟩ (by simp only [V0,sevalprocAttr,hfr])
  obtain ⟨q1,q2,q3,q4⟩:=hD.el j x hx
  exact ⟨q1,q2,by omega,q4⟩
end
end
section
section
variable {S:ySM}
theorem div_three (hS:NoS S) {m D:Nat} {out:yLM} {K:yKM} (p:Pn) (hpa:p.as.l.length<=1000000) (hpn:p.ns.l.length<=1000000) (cs:SlOf 1 cyG) (hcl:cs.l.length<=65536) (hm:p.ns.l.length+p.as.l.length+20<=m) (L:List (Int × SlOf 2 Pt.c)) (J0:yLO) (B0:Nat->Nat) (lv:IV) (A0:List ArB) (rv:IV) (rc:List (SlOf 1 intc)) (h0:DivOK D cs.l cs.l.length cs.l.length 0 J0 B0 lv A0 rv rc)
  (hfd:∀ n∈p.ns.l,FindOK S m (cs.l.length+1) cs.l L n.at')
  (t:List IV) (hfr:Slots 110 t [(2,.mapC (mKs L) (mVs plV L)),(3,.ptrM D 0 0),(7,lv)])
  (hK:∀ t' J B A,DivOK D cs.l cs.l.length cs.l.length p.ns.l.length J B lv A rv rc->Slots 110 t' [(7,lv)]->K .normal ⟨t',.cells [p.ns.v,p.as.v,p.fs.v]::J⟩) :
  Ex (callN Ftab S m) D out m (i66.body.sub [1,1,1,1,1,0]) K ⟨t,.cells [p.ns.v,p.as.v,p.fs.v]::J0⟩:=by
 simp only [V3] at hfr
 simp only [i66,IC.sub,V0,sevalprocAttr,hfr]
 refine zb (fun jj st=>∃ (i:Nat) (J:yLO) (B:Nat->Nat) (A:List ArB),p.ns.l.length - i<=jj/\i<=p.ns.l.length/\DivOK D cs.l cs.l.length cs.l.length i J B lv A rv rc/\st.own=.cells [p.ns.v,p.as.v,p.fs.v]::J/\Slots 110 st.t [(2,.mapC (mKs L) (mVs plV L)),(3,.ptrM D 0 0),(7,lv),(79,p.ns.v),(80,iv (p.ns.l.length:Nat)),(81,iv i)]) p.ns.l.length (by omega) ⟨0,J0,B0,A0,by omega,by omega,h0,rfl,by simp only [V0,sevalprocAttr,hfr,zcp]⟩ ?_
 clear hfr h0
 rintro jj ⟨t,own⟩ KA ⟨i,J,B,A,hjj,hi,hD,ho,hfr⟩ hnA heA hrA
 dsimp only at ho hfr
 subst ho
 simp only [V3] at hfr
 by_cases h:i<p.ns.l.length
 ·have hx:p.ns.l[i]?=some p.ns.l[i]:=zb7 h
  have hfy:=hfd _ (zdj h)
  generalize p.ns.l[i]=nd at hx hfy
  have hrd:rdN (p.ns.l.flatMap Nd.c) (i*3) 3=some [.int .i64 nd.id,.int .i64 nd.at'.x,.int .i64 nd.at'.y]:=(zc Nd.c_len 0 3 hx (by omega)).trans rfl
  have hw:wrapI .i64 ((i:Int)+1)=((i+1:Nat):Int):=we
  have cd:=at_degree hS p nd.id hpa m (by omega)
  simp only [Pn.c,zg] at cd
  cases hdz:(((degN p.as.l nd.id:Nat):Int)==0)
  ·simp only [V0,sevalprocAttr,hfr,h,za p.ns h,hrd,cd,hdz,hw]
   refine hnA _ (p.ns.l.length - (i+1)) (by omega) ⟨i+1,_,B,A,by omega,by omega,?_,rfl,by simp only [V0,sevalprocAttr,hfr,hw]⟩
   have:=hD.more [.cells [.int .i64 nd.id,.int .i64 nd.at'.x,.int .i64 nd.at'.y],.free]
   exact ⟨this.l,this.ne,this.len,this.r,this.rl,this.rU,fun j x hx=>by
    obtain ⟨q1,q2,q3,q4,q5⟩:=this.el j x hx
    exact ⟨q1,q2,q3,by omega,q5⟩⟩
  ·obtain ⟨b,hlv,hb,hB⟩:=hD.blk
   have gl:∀ (x:IObj) (R:yLO),(x::(J++R))[1+b]?=some (.cells (A.flatMap arG)):=fun x R=>by rw [Nat.add_comm 1 b,zcg,zb8 (zb6.1 hb).1]; exact hb
   have hlA:A.length<=cs.l.length+1:=hD.len
   have hbl:=(zb6.1 hb).1
   obtain ⟨k,hk,hfind⟩:∃ k:Nat,k<A.length/\∀ id,callN Ftab S m D out (.cells [p.ns.v,p.as.v,p.fs.v]::(J++[.cells [.int .i64 nd.id,.int .i64 nd.at'.x,.int .i64 nd.at'.y],.free,.free])) (.cells [p.ns.v,p.as.v,p.fs.v]::(J++[.cells [.int .i64 nd.id,.int .i64 nd.at'.x,.int .i64 nd.at'.y],.free,.free])) id 93 [.mapC (mKs L) (mVs plV L),lv,.agg [.int .i64 nd.at'.x,.int .i64 nd.at'.y]]=some (.r,.int .i64 (k:Nat),.cells [p.ns.v,p.as.v,p.fs.v]::(J++[.cells [.int .i64 nd.id,.int .i64 nd.at'.x,.int .i64 nd.at'.y],.free,.free])):=by
    obtain ⟨k,hk,hc⟩:=hfy A hD.ne hlA hD.oc D out (.cells [p.ns.v,p.as.v,p.fs.v]::(J++[.cells [.int .i64 nd.id,.int .i64 nd.at'.x,.int .i64 nd.at'.y],.free,.free])) (.cells [p.ns.v,p.as.v,p.fs.v]::(J++[.cells [.int .i64 nd.id,.int .i64 nd.at'.x,.int .i64 nd.at'.y],.free,.free])) 0 (1+b) (gl _ _)
    refine ⟨k,hk,fun id=>?_⟩
    rw [hlv]
    simp only [Pt.c,zg] at hc
    rw [← hc]
    exact mode0_id (ns hS (by rfl)) rfl rfl
   obtain ⟨a,ha⟩:=gx (l:=A) (i:=k) hk
   obtain ⟨g1,g2,g3,g4,g5,g6,g7⟩:=hD.el k a ha
   have hra:rdN (A.flatMap arG) (k*4+3) 1=some [a.av]:=(arG_rd ha (by omega)).trans rfl
   have hil:∀ own,iaddrV own 4 (.slM D (1+b) 0 A.length A.length 4 false) (.int .i64 (k:Int))=some (.p,.ptrM D (1+b) (k*4),own):=fun own=>by
    have:=zI (own:=own) (l:=D) (b:=1+b) (off:=0) (cap:=A.length) (z:=4) (z':=4) (tight:=false) (k:=.i64) hk
    rw [zcq] at this
    exact this
   obtain ⟨e,av2,J2,happ,hee,hO2,hl2,hoth⟩:=YK (k0:=1) (Pre:=[.cells [p.ns.v,p.as.v,p.fs.v]]) (n0:=J.length+3+1) (slot:=0) (k:=3) (R:=[.cells [.int .i64 nd.id,.int .i64 nd.at'.x,.int .i64 nd.at'.y],.free,.free,.free]) zi rfl g2 (ys:=[nd.id]) (by simp) (by simp only [zcc,zci]; omega) (by omega) rfl rfl
   have hhid:∀ (j:Nat) (x:IObj),j<J.length+3+1->(IObj.cells [p.ns.v,p.as.v,p.fs.v]::(J++[.cells [.int .i64 nd.id,.int .i64 nd.at'.x,.int .i64 nd.at'.y],.free,.free,.free]))[j]?=some x->(hide [] (J.length+3+1) (IObj.cells [p.ns.v,p.as.v,p.fs.v]::(J++[.cells [.int .i64 nd.id,.int .i64 nd.at'.x,.int .i64 nd.at'.y],.free,.free,.free])))[j]?=some x:=fun j x hj hx=>by
    rw [zB,hx]
    simp [hj]
   have happ:=happ (look D out (hide [] (J.length+3+1) (.cells [p.ns.v,p.as.v,p.fs.v]::(J++[.cells [.int .i64 nd.id,.int .i64 nd.at'.x,.int .i64 nd.at'.y],.free,.free,.free])))) (fun j x hj hx=>by simp only [look,if_true]; exact hhid j x (by omega) hx)
   simp only [zcu,zc4,zcs,zdo,intc,zg,zcc,zci,zda,zcq] at happ
   have hg1:=hhid (1+b) _ (by omega) (gl _ _)
   have hg2:=hhid (J.length+1) (.cells [.int .i64 nd.id,.int .i64 nd.at'.x,.int .i64 nd.at'.y]) (by omega) (by simp)
   have hb2:J2[b]?=some (.cells (A.flatMap arG))/\putB B (J.length+3) (3+2*k) b=0:=by
    rcases hoth (by omega) hD.l with ⟨h1,_⟩ | ⟨b',_,h1,h2,h3⟩
    ·exact absurd h1 hD.ne
    ·rw [hlv] at h1
     injection h1 with _ hbb
     have:b'=b:=by omega
     subst this
     exact ⟨h2,h3⟩
   have hset:=hD.set hlv hb2.1 hb2.2 ha (a':={ a with av:=av2,al:=a.al++[nd.id] }) rfl (hoth (by omega) hD.r) (m2:=cs.l.length) (m3:=i+1) (by omega) (by omega) (fun j x hx hj=>by
    obtain ⟨q1,q2,_⟩:=hD.el j x hx
    exact ⟨hoth (by omega) q1,hoth (by omega) q2⟩) (hoth (by omega) g1) hO2 g3 (by simp only [zce,zcc,zci]; omega) g5
   have gl2:∀ x:IObj,(x::J2)[1+b]?=some (.cells (A.flatMap arG)):=fun x=>by rw [Nat.add_comm 1 b,zcg]; exact hb2.1
   have sl2:∀ (x y:IObj),(x::J2).set (1+b) y=x::J2.set b y:=fun x y=>by rw [Nat.add_comm 1 b,zd3]
   have hfit:k*4+3+1<=(A.flatMap arG).length:=by rw [zu yL]; omega
   have hwr:wrN (A.flatMap arG) (k*4+3) [av2]=(A.set k { a with av:=av2,al:=a.al++[nd.id] }).flatMap arG:=YL yL ha (by simp) rfl
   have sc2:=hO2.scal
   have cl2:=hO2.cells
   rw [hlv] at hfind
   simp only [V0,sevalprocAttr,hfr,h,za p.ns h,hrd,cd,hdz,hlv,hfind,hil,hg1,hg2,hra,rep,zw,zF,zJ,yG,happ,gl2,sl2,hfit,hwr,sc2,cl2,hw]
   refine ⟨?_,?_⟩
   ·rcases hee with rfl | ⟨_,_,rfl⟩ <;> simp [comm]
   ·simp only [V0,sevalprocAttr,hfr,hlv,hw]
    exact hnA _ (p.ns.l.length - (i+1)) (by omega) ⟨i+1,_,_,_,by omega,by omega,hset,rfl,by simp only [V0,sevalprocAttr,hfr,hw,hlv]⟩
 ·simp only [V0,sevalprocAttr,hfr,h]
  refine heA _ _ ?_
  simp only [V0,sevalprocAttr,hfr]
  refine hK _ _ _ _ ⟨hD.l,hD.ne,hD.len,hD.r,hD.rl,hD.rU,fun j x hx=>?_⟩ (by simp only [V0,sevalprocAttr,hfr])
  obtain ⟨q1,q2,q3,q4,q5⟩:=hD.el j x hx
  exact ⟨q1,q2,q3,by omega,q5⟩
end
end
section
structure Ar where
 tw:Int
 oc:SlOf 1 intc
 ic:SlOf 1 cyG
 al:SlOf 1 intc
def arF (a:Ar):List IV:=[.int .i64 a.tw,a.oc.v,a.ic.v,a.al.v]
theorem arF_len (a:Ar):(arF a).length=4:=rfl
def AreasOK (U:List (SlOf 1 intc)) (l:List Ar):Prop:=l≠[]/\l.length<=U.length+1/\∀ i a,l[i]?=some a->a.ic.l.length<=U.length/\(∀ c∈a.ic.l,c∈U)/\(0<i->a.oc∈U)/\a.oc∈nilC::U
theorem areas_fz {f:IV->Option IV} {Q:ArB->Ar->Prop}:∀ {A:List ArB},(∀ a∈A,∃ a',Q a a'/\(arG a).mapM f=some (arF a'))->∃ As:List Ar,As.length=A.length/\(∀ (i:Nat) (a:ArB),A[i]?=some a->∃ a',As[i]?=some a'/\Q a a')/\(A.flatMap arG).mapM f=some (As.flatMap arF)
 | [],_=>⟨[],rfl,fun i a h=>by simp at h,rfl⟩
 | a::A,h=>by
  obtain ⟨As,h1,h2,h3⟩:=areas_fz (A:=A) fun x hx=>h x (zd0 _ hx)
  obtain ⟨a',hq,hm⟩:=h a (zdk ..)
  refine ⟨a'::As,by simp [h1],fun i x hx=>?_,?_⟩
  ·cases i with
   | zero=>simp only [zc2,zca] at hx; subst hx; exact ⟨a',rfl,hq⟩
   | succ i=>exact h2 i x (by simpa using hx)
  ·rw [zcs,zcs,List.mapM_append,hm,h3]
   rfl
theorem abs_id {i h:Int} (h1:1<=i) (h2:i<=4611686018427387904) (hh:h=i∨h=wrapI .i64 (0 - i)):absI h=i:=by
 have w1:wrapI .i64 (0 - i)=-i:=Zp (by omega) (by omega) (by omega)
 rcases hh with rfl | rfl
 ·unfold absI
  rw [w1,if_neg (by omega)]
 ·unfold absI
  rw [w1,show wrapI .i64 (0 - -i)=i from Zp (by omega) (by omega) (by omega),if_pos (by omega)]
theorem YM (q:SlOf 4 arF) (n:Nat):clF (n+4) q.v=true:=by
 have hh:∀ (cs:List IV) (k:Nat) (v:IV),Sl 4 cs k v->cs.all (clF (n+3))=true->clF (n+4) v=true:=fun cs k v h hc=>by
  cases h with
  | nil=>rfl
  | row cs n tight hl=>exact hc
 refine hh _ _ _ q.ok ?_
 rw [zdh]
 intro x hx
 obtain ⟨a,_,ha⟩:=zdy.1 hx
 simp only [arF,zcx,zc1,or_false] at ha
 rcases ha with rfl | rfl | rfl | rfl
 ·rfl
 ·exact ZD _ _
 ·exact cyc_cl _ _
 ·exact ZD _ _
section
variable {S:ySM}
theorem find_ok (hT:TabCl Ftab) (hSc:SumCl S) (hS:NoS S) (U:List (SlOf 1 intc)) (hU:U.length<=65536) (L:List (Int × SlOf 2 Pt.c)) (q:Pt):∃ N,∀ m,N<=m->FindOK S m (U.length+1) U L q:=by
 obtain ⟨N,hN⟩:=find_run hT hSc hS (nilC::U) L q
 exact ⟨N+U.length+1,fun m hm A hA hl hU' D out ownV own id b hb=>hN A m (by omega) hA (by omega) hU' D out ownV own id b hb⟩
theorem divide_run (hT:TabCl Ftab) (hSc:SumCl S) (hS:NoS S) (p:Pn) (hfv:FewVia p) (hpa:p.as.l.length<=1000000) (hpn:p.ns.l.length<=1000000) (hpos:∀ a∈p.as.l,1<=a.id/\a.id<=4611686018427387904) (cs:SlOf 1 cyG) (hcl:cs.l.length<=65536) (hhd:∀ c∈cs.l,HeadOK p c.l) (L:List (Int × SlOf 2 Pt.c)) (hL:PathsOK p L) :
  ∃ N,∀ m,N<=m->∀ d out ownV own id,∃ As:SlOf 4 arF,callN Ftab S m d out ownV own id 66 [.agg p.c,cs.v,.mapC (mKs L) (mVs plV L)]=some (.r,As.v,own)/\AreasOK cs.l As.l:=by
 have htw:∀ c∈cs.l,∃ N,∀ m,N<=m->∃ z:Int,∀ d out ownV own id,callN Ftab S m d out ownV own id 92 [.agg p.c,c.v]=some (.r,.int .i64 z,own):=fun c _=>by
  obtain ⟨z,N,h⟩:=twice_gives hT hSc hS p hfv c
  exact ⟨N,fun m hm=>⟨z,h m hm⟩⟩
 have hfc:∀ c∈cs.l,∃ N,∀ m,N<=m->∃ (y:Pt) (h:Int) (r:List Int),c.l=h::r/\(lkM nilP L (absI h)).l[0]?=some y/\FindOK S m (cs.l.length+1) cs.l L y:=fun c hc=>by
  obtain ⟨h,r,h1,a,ha,hh,hpo⟩:=hhd c hc
  obtain ⟨q1,q2⟩:=hpos a ha
  have hab:=abs_id q1 q2 hh
  have h2:=hL a ha hpo
  obtain ⟨N,hN⟩:=find_ok hT hSc hS cs.l hcl L ((lkM nilP L (absI h)).l[0]'(by rw [hab]; omega))
  exact ⟨N,fun m hm=>⟨_,h,r,h1,zb7 _,hN m hm⟩⟩
 have hfn:∀ n∈p.ns.l,∃ N,∀ m,N<=m->FindOK S m (cs.l.length+1) cs.l L n.at':=fun n _=>find_ok hT hSc hS cs.l hcl L n.at'
 obtain ⟨N1,hN1⟩:=Yb cs.l htw
 obtain ⟨N2,hN2⟩:=Yb cs.l hfc
 obtain ⟨N3,hN3⟩:=Yb p.ns.l hfn
 refine ⟨N1+N2+N3+cs.l.length+p.ns.l.length+p.as.l.length+40,fun m hm d out ownV own id=>?_⟩
 obtain ⟨m,rfl⟩:∃ q,m=q+6:=⟨m - 6,by omega⟩
 have main:∃ v,callN Ftab S (m+5+1) d out ownV own id 66 [.agg p.c,cs.v,.mapC (mKs L) (mVs plV L)]=some (.r,v,own)/\∃ As:SlOf 4 arF,v=As.v/\AreasOK cs.l As.l:=by
  refine Zt (i:=i66) (ns hS (by rfl)) rfl rfl (lb rfl) fun t hfr=>?_
  simp only [V2,Nat.reduceAdd,i66,Pn.c] at hfr
  generalize (fun l=>if l=d then ownV else out l:yLM)=out2
  suffices hsuf:∀ K:yKM,(∀ t' J B lv A rv rc,DivOK (d+1) cs.l cs.l.length cs.l.length p.ns.l.length J B lv A rv rc->Slots 110 t' [(6,lv)]->K .ret ⟨t',.cells [p.ns.v,p.as.v,p.fs.v]::J⟩)->Ex (callN Ftab S (m+5)) (d+1) out2 (m+5) i66.body K ⟨t,[]⟩ from hsuf _ fun t' J B lv A rv rc hD ht=>by
   simp only [zd,zh] at ht
   rw [y9]
   obtain ⟨b,hlv,hb,hB⟩:=hD.blk
   obtain ⟨As,h1,h2,h3⟩:=areas_fz (A:=A) (f:=freeze (m+4) (d+1) (.cells [p.ns.v,p.as.v,p.fs.v]::J)) (Q:=fun a a'=>a'.oc=a.oc/\a'.ic.l=a.ic) fun a ha=>by
    obtain ⟨i,hi⟩:=List.getElem?_of_mem ha
    obtain ⟨q1,q2,q3,q4,q5⟩:=hD.el i a hi
    have f1:=ownT_fz (Pre:=[.cells [p.ns.v,p.as.v,p.fs.v]]) (n:=m+3) yy rfl (fun c x hx=>by
     simp only [cyG,zcx,zc1,or_false] at hx
     subst hx
     exact (yJ (fun a x hx=>by
      simp only [intc,zcx,zc1,or_false] at hx
      subst hx
      exact zy) c).le (by omega)) (by omega) q1
    have f2:=ownT_fz (Pre:=[.cells [p.ns.v,p.as.v,p.fs.v]]) (n:=m+3) zi rfl (fun c x hx=>by
     simp only [intc,zcx,zc1,or_false] at hx
     subst hx
     exact zy.le (by omega)) (by omega) q2
    simp only [zcu,zc4] at f1 f2
    have f3:freeze (m+4) (d+1) (.cells [p.ns.v,p.as.v,p.fs.v]::J) a.oc.v=some a.oc.v:=yJ (fun a x hx=>by
      simp only [intc,zcx,zc1,or_false] at hx
      subst hx
      exact zy) a.oc _ (by omega) _ _
    refine ⟨⟨a.tw,a.oc,rowQ yy a.ic (by omega),rowQ zi a.al (by omega)⟩,⟨rfl,ZB _ _ _⟩,?_⟩
    have f0:freeze (m+4) (d+1) (.cells [p.ns.v,p.as.v,p.fs.v]::J) (.int .i64 a.tw)=some (.int .i64 a.tw):=rfl
    simp only [arG,arF,zdg,List.mapM_nil,f0,f1,f2,f3,zdz,zdp,zch]
   have hne:As≠[]:=fun he=>hD.ne (by rw [he] at h1; exact zcv.1 h1.symm)
   have hlen:=hD.len
   refine ⟨lv,(rowQ arF_len As (by omega)).v,by simp only [i66,V0,sevalprocAttr,ht],?_,rowQ arF_len As (by omega),rfl,?_⟩
   ·rw [hlv,frz_list yL h3 (by rw [Nat.add_comm 1 b,zcg]; exact hb)]
    rw [← h1]
    cases As with
    | nil=>exact absurd rfl hne
    | cons _ _=>rfl
   ·rw [ZB]
    refine ⟨hne,by omega,fun i a' ha'=>?_⟩
    have hi:i<A.length:=by rw [← h1]; exact (zb6.1 ha').1
    obtain ⟨a2,hx,hq1,hq2⟩:=h2 i A[i] (zb7 hi)
    rw [ha'] at hx
    cases hx
    obtain ⟨_,_,q3,q4,q5,q6,q7⟩:=hD.el i _ (zb7 hi)
    rw [hq1,hq2]
    exact ⟨q3,q5,q6,q7⟩
  intro K fin
  rw [show i66.body=.seq (i66.body.sub [0]) (.seq (i66.body.sub [1,0]) (.seq (i66.body.sub [1,1,0]) (.seq (i66.body.sub [1,1,1,0]) (.seq (i66.body.sub [1,1,1,1,0]) (.seq (i66.body.sub [1,1,1,1,1,0]) (i66.body.sub [1,1,1,1,1,1])))))) from rfl]
  have hL1:=fun {K:yKM} mv J0 B0 lv0 A0 h0 htw t hfr hK=>@div_one S hS (m+5) (d+1) out2 K p cs hcl (by omega) mv J0 B0 lv0 A0 h0 htw t hfr hK
  have hL2:=fun {K:yKM} J0 B0 lv A0 rv rc h0 hfd t hfr hK=>@div_two S hS (m+5) (d+1) out2 K p cs hcl (by omega) L J0 B0 lv A0 rv rc h0 hfd t hfr hK
  have hL3:=fun {K:yKM} J0 B0 lv A0 rv rc h0 hfd t hfr hK=>@div_three S hS (m+5) (d+1) out2 K p hpa hpn cs hcl (by omega) L J0 B0 lv A0 rv rc h0 hfd t hfr hK
  generalize i66.body.sub [1,1,1,0]=T1 at hL1 ⊢
  generalize i66.body.sub [1,1,1,1,0]=T2 at hL2 ⊢
  generalize i66.body.sub [1,1,1,1,1,0]=T3 at hL3 ⊢
  simp only [i66,IC.sub,V0,sevalprocAttr,hfr,rep,ev_mslice,e_mslice,mkAt]
  refine hL1 (.mapC (mKs L) (mVs plV L)) [.cells [.int .i64 0,.nilsl,.nilsl,.nilsl]] (fun _=>0) (.slM (d+1) 1 0 1 1 4 false) [⟨0,nilC,.nilsl,[],.nilsl,[]⟩] ⟨.inr ⟨0,by simp,rfl,rfl,rfl⟩,by simp,by simp,.inl ⟨rfl,rfl⟩,zcf _,fun _ h=>by simp at h,fun i a ha=>?_⟩ (fun c hc=>hN1 c hc (m+5) (by omega)) _ (by simp only [V0,sevalprocAttr,hfr]) fun t1 J1 B1 lv1 A1 rv rc hD1 ht1=>?_
  ·cases i with
   | succ i=>simp at ha
   | zero =>
    simp only [zc2,zca] at ha
    subst ha
    exact ⟨.inl ⟨rfl,rfl⟩,.inl ⟨rfl,rfl⟩,zcf _,zcf _,fun _ h=>by simp at h,fun h=>by omega,zdk ..⟩
  simp only [V0,sevalprocAttr]
  refine hL2 J1 B1 lv1 A1 rv rc hD1 (fun c hc=>hN2 c hc (m+5) (by omega)) t1 ht1 fun t2 J2 B2 A2 hD2 ht2=>?_
  simp only [V0,sevalprocAttr]
  refine hL3 J2 B2 lv1 A2 rv rc hD2 (fun n hn=>hN3 n hn (m+5) (by omega)) t2 ht2 fun t3 J3 B3 A3 hD3 ht3=>?_
  simp only [zd,zh] at ht3
  simp only [i66,IC.sub,V0,sevalprocAttr,ht3]
  exact fin _ _ _ _ _ _ _ hD3 (by simp only [V0,sevalprocAttr,ht3])
 obtain ⟨v,h1,As,rfl,h2⟩:=main
 exact ⟨As,h1,h2⟩
theorem divide_gives (hT:TabCl Ftab) (hSc:SumCl S) (hS:NoS S) (p:Pn) (hfv:FewVia p) (hpa:p.as.l.length<=1000000) (hpn:p.ns.l.length<=1000000) (hpos:∀ a∈p.as.l,1<=a.id/\a.id<=4611686018427387904) (cs:SlOf 1 cyG) (hcl:cs.l.length<=65536) (hhd:∀ c∈cs.l,HeadOK p c.l) (L:List (Int × SlOf 2 Pt.c)) (hL:PathsOK p L) :
  ∃ As:SlOf 4 arF,AreasOK cs.l As.l/\∃ N,GivesN S N 66 [.agg p.c,cs.v,.mapC (mKs L) (mVs plV L)] As.v:=by
 obtain ⟨N,hN⟩:=divide_run hT hSc hS p hfv hpa hpn hpos cs hcl hhd L hL
 obtain ⟨As,h1,h2⟩:=hN N (zcf _) 0 (fun _=>[]) [] [] 0
 refine ⟨As,h2,N,Ze hT hSc (ns hS (by rfl)) rfl rfl (fun k=>?_) (YM As 1) h1⟩
 simp only [zdc,zd5,map_sh,zbu,clF_sh (cyc_cl cs 2)]
end
end
section
section
variable {S:ySM}
theorem acyc_gives (hS:NoS S) (a:Ar) (ha:a.ic.l.length<=65536):∃ q:SlOf 1 cyG,q.l=a.oc::a.ic.l/\∃ N,GivesN S N 96 [.agg (arF a)] q.v:=by
 have hoc:Fz 3 a.oc.v:=yJ (fun a x hx=>by
  simp only [intc,zcx,zc1,or_false] at hx
  subst hx
  exact zy) a.oc
 by_cases h0:a.ic.l.length=0
 ·refine ⟨mkRow yy [a.oc] 1 true rfl (by omega),by rw [zcv.1 h0]; rfl,10,yd (i:=i96) (ns hS (by rfl)) rfl rfl (lb rfl) 9 fun m hm d out t hfr=>?_⟩
  simp only [V2,Nat.reduceAdd,i96,arF] at hfr
  have hap:∀ n0 lk (own:yLO),appendI d n0 lk own 1 (.slC [a.oc.v] 1 1 true) (a.ic.l.flatMap cyG) a.ic.l.length 0=some (.r,.slC [a.oc.v] 1 1 true,own):=fun n0 lk own=>by
   unfold appendI
   rw [if_pos h0]
  simp only [i96,V0,sevalprocAttr,hfr,rep,zw,zF,zJ,zT,hap,zY]
  refine ⟨_,rfl,?_⟩
  exact fz_slC (k:=3) (fun x hx=>by
   simp only [zcx,zc1,or_false] at hx
   subst hx
   exact hoc) m (by omega) _ _
 ·have hlen:(a.oc::a.ic.l).length=1+a.ic.l.length:=by rw [zcc]; omega
  refine ⟨mkRow yy (a.oc::a.ic.l) (1+a.ic.l.length) false hlen (by omega),rfl,10,yd (i:=i96) (ns hS (by rfl)) rfl rfl (lb rfl) 9 fun m hm d out t hfr=>?_⟩
  simp only [V2,Nat.reduceAdd,i96,arF] at hfr
  have hap:∀ lk (b:IObj),appendI d 1 lk [b,.free] 1 (.slC [a.oc.v] 1 1 true) (a.ic.l.flatMap cyG) a.ic.l.length 0=some (.a,.slM d 1 0 (1+a.ic.l.length) (1+a.ic.l.length) 1 false,[b,.cells ((a.oc::a.ic.l).flatMap cyG)]):=fun lk b=>by
   unfold appendI
   rw [if_neg h0]
   simp only
   rw [if_pos ⟨by unfold bound; omega,trivial⟩]
   simp [seg,zf,mkAt,cyG]
  simp only [i96,V0,sevalprocAttr,hfr,rep,zw,zF,zJ,zT,hap,zY]
  refine ⟨_,rfl,?_⟩
  have:=y4 (k:=3) (m:=m) (d:=d) (i:=1) (n:=1+a.ic.l.length) (own:=[.cells (arF a),.cells ((a.oc::a.ic.l).flatMap cyG)]) (tight:=false) (g:=cyG) (fun c x hx=>by
   simp only [cyG,zcx,zc1,or_false] at hx
   subst hx
   exact yJ (fun a x hx=>by
    simp only [intc,zcx,zc1,or_false] at hx
    subst hx
    exact zy) c) (by omega) hlen yy rfl
  exact this
theorem fc_inner (hS:NoS S) {m D:Nat} {out:yLM} {K:yKM} (p:Pn) (q:SlOf 1 cyG) (hq:q.l.length<=1000000) (hm:q.l.length+200010<=m) (hcl:∀ c∈q.l,c.l.length<=200000) (hside:∀ c∈q.l,∀ z∈c.l,∀ d out ownV own id,callN Ftab S m d out ownV own id 95 [.agg p.c,iv z]=some (.r,.int .i64 (sideZ p z),own))
  (t:List IV) (face:Int) (i n:Nat) (lv asv:IV) (x1:IObj) (J:yLO)
  (hfr:Slots 71 t [(2,.ptrM D 0 0),(4,lv),(6,.mapM D 1),(9,.int .i64 face),(15,asv),(16,iv n),(17,iv i),(40,q.v),(41,iv (q.l.length:Nat)),(42,.int .i64 0)])
  (hK:∀ t' R,Slots 71 t' [(2,.ptrM D 0 0),(4,lv),(6,.mapM D 1),(9,.int .i64 face),(15,asv),(16,iv n),(17,iv i)]->K .normal ⟨t',.cells [p.ns.v,p.as.v,p.fs.v]::x1::(J++R)⟩)
  (hR:∀ t' O,Slots 71 t' [(4,.nilsl),(5,.bool false)]->K .ret ⟨t',O⟩) :
  Ex (callN Ftab S m) D out m (i67.body.sub [1,1,0,1,0,0,1,1,0,0,1,1,1,0,1]) K ⟨t,.cells [p.ns.v,p.as.v,p.fs.v]::x1::J⟩:=by
 simp only [V3] at hfr
 have hqf:=q.few
 simp only [i67,IC.sub,V0,sevalprocAttr]
 refine zb (fun jj st=>∃ (k:Nat) (R:yLO),q.l.length - k<=jj/\k<=q.l.length/\st.own=.cells [p.ns.v,p.as.v,p.fs.v]::x1::(J++R)/\Slots 71 st.t [(2,.ptrM D 0 0),(4,lv),(6,.mapM D 1),(9,.int .i64 face),(15,asv),(16,iv n),(17,iv i),(40,q.v),(41,iv (q.l.length:Nat)),(42,iv k)]) q.l.length (by omega) ⟨0,[],by omega,by omega,by rw [zda],by simp only [V0,sevalprocAttr,hfr,zcp]⟩ ?_
 clear hfr
 rintro jj ⟨t,own⟩ KA ⟨k,R,hjj,hk,ho,hfr⟩ hnA heA hrA
 dsimp only at ho hfr
 subst ho
 simp only [V3] at hfr
 by_cases h:k<q.l.length
 ·have hx:q.l[k]?=some q.l[k]:=zb7 h
  have hc:=hcl _ (zdj h)
  have hsd:=hside _ (zdj h)
  generalize q.l[k]=c at hx hc hsd
  have hrd:rdN (q.l.flatMap cyG) (k*1) 1=some [c.v]:=(zc yy 0 1 hx (by omega)).trans rfl
  have hw:wrapI .i64 ((k:Int)+1)=((k+1:Nat):Int):=we
  have hcf:=c.few
  simp only [V0,sevalprocAttr,hfr,h,za q h,hrd]
  refine zb (fun jj st=>∃ (l:Nat) (R:yLO),c.l.length - l<=jj/\l<=c.l.length/\st.own=.cells [p.ns.v,p.as.v,p.fs.v]::x1::(J++R)/\Slots 71 st.t [(2,.ptrM D 0 0),(4,lv),(6,.mapM D 1),(9,.int .i64 face),(15,asv),(16,iv n),(17,iv i),(40,q.v),(41,iv (q.l.length:Nat)),(42,iv k),(46,c.v),(47,iv (c.l.length:Nat)),(48,iv l)]) c.l.length (by omega) ⟨0,R,by omega,by omega,rfl,by simp only [V0,sevalprocAttr,hfr,zcp]⟩ ?_
  clear hfr
  rintro jj ⟨t,own⟩ KB ⟨l,R,hjj2,hl,ho,hfr⟩ hnB heB hrB
  dsimp only at ho hfr
  subst ho
  simp only [V3] at hfr
  by_cases h2:l<c.l.length
  ·have hx2:c.l[l]?=some c.l[l]:=zb7 h2
   have hz:=hsd _ (zdj h2)
   generalize c.l[l]=z at hx2 hz
   have hrd2:rdN (c.l.flatMap intc) (l*1) 1=some [.int .i64 z]:=(zc zi 0 1 hx2 (by omega)).trans rfl
   have hw2:wrapI .i64 ((l:Int)+1)=((l+1:Nat):Int):=we
   simp only [Pn.c,zg] at hz
   cases hb:(sideZ p z != face)
   ·simp only [V0,sevalprocAttr,hfr,h2,za c h2,hrd2,hz,hb,hw2]
    exact hnB _ (c.l.length - (l+1)) (by omega) ⟨l+1,R++[.free],by omega,by omega,rfl,by simp only [V0,sevalprocAttr,hfr,hw2]⟩
   ·simp only [V0,sevalprocAttr,hfr,h2,za c h2,hrd2,hz,hb]
    refine hrB _ ?_
    simp only [V0,sevalprocAttr]
    refine hrA _ ?_
    simp only [V0,sevalprocAttr]
    exact hR _ _ (by simp only [V0,sevalprocAttr,hfr])
  ·simp only [V0,sevalprocAttr,hfr,h2]
   refine heB _ _ ?_
   simp only [V0,sevalprocAttr,hfr,hw]
   exact hnA _ (q.l.length - (k+1)) (by omega) ⟨k+1,R,by omega,by omega,rfl,by simp only [V0,sevalprocAttr,hfr,hw]⟩
 ·simp only [V0,sevalprocAttr,hfr,h]
  refine heA _ _ ?_
  simp only [V0,sevalprocAttr,hfr]
  exact hK _ _ (by simp only [V0,sevalprocAttr,hfr])
end
end
section
section
variable {S:ySM}
theorem fc_tail (hS:NoS S) {m D:Nat} {out:yLM} {K:yKM} (p:Pn) (a:Ar) (q:SlOf 1 cyG) (hq:q.l.length<=1000000) (hm:q.l.length+200010<=m) (hcl:∀ c∈q.l,c.l.length<=200000) (hcyc:∀ d out ownV own id,callN Ftab S m d out ownV own id 96 [.agg (arF a)]=some (.r,q.v,own)) (hside:∀ c∈q.l,∀ z∈c.l,∀ d out ownV own id,callN Ftab S m d out ownV own id 95 [.agg p.c,iv z]=some (.r,.int .i64 (sideZ p z),own))
  (t:List IV) (face:Int) (i n ja:Nat) (lv asv:IV) (x1:IObj) (J:yLO) (xs:List Int) (hO:OwnJ intc 1 D 2 J lv xs) (hx:xs.length<=1000000) (hja:J[ja]?=some (.cells [.int .i64 a.tw,a.oc.v,a.ic.v,a.al.v]))
  (hfr:Slots 71 t [(2,.ptrM D 0 0),(4,lv),(6,.mapM D 1),(8,.ptrM D (ja+1+1) 0),(9,.int .i64 face),(15,asv),(16,iv n),(17,iv i)])
  (hK:∀ t' lv' J',OwnJ intc 1 D 2 J' lv' (xs++[face])->Slots 71 t' [(2,.ptrM D 0 0),(4,lv'),(6,.mapM D 1),(15,asv),(16,iv n),(17,iv i)]->K .normal ⟨t',.cells [p.ns.v,p.as.v,p.fs.v]::x1::J'⟩)
  (hR:∀ t' O,Slots 71 t' [(4,.nilsl),(5,.bool false)]->K .ret ⟨t',O⟩) :
  Ex (callN Ftab S m) D out m (i67.body.sub [1,1,0,1,0,0,1,1,0,0,1,1,1]) K ⟨t,.cells [p.ns.v,p.as.v,p.fs.v]::x1::J⟩:=by
 simp only [V3] at hfr
 rw [show i67.body.sub [1,1,0,1,0,0,1,1,0,0,1,1,1]=.seq (.seq (i67.body.sub [1,1,0,1,0,0,1,1,0,0,1,1,1,0,0]) (i67.body.sub [1,1,0,1,0,0,1,1,0,0,1,1,1,0,1])) (i67.body.sub [1,1,0,1,0,0,1,1,0,0,1,1,1,1]) from rfl]
 have hI:=fun {K:yKM} t lv x1 J hfr hK hR=>@fc_inner S hS m D out K p q hq hm hcl hside t face i n lv asv x1 J hfr hK hR
 generalize i67.body.sub [1,1,0,1,0,0,1,1,0,0,1,1,1,0,1]=T at hI ⊢
 have fa:(J++[IObj.free])[ja]?=some (.cells [.int .i64 a.tw,a.oc.v,a.ic.v,a.al.v]):=by rw [zb8 (zb6.1 hja).1]; exact hja
 simp only [arF] at hcyc
 simp only [i67,IC.sub,V0,sevalprocAttr,hfr,fa,hcyc]
 refine hI _ lv _ _ (by simp only [V0,sevalprocAttr,hfr]) (fun t' R ht=>?_) (fun t' O ht=>?_)
 ·clear hfr
  simp only [zd,zh] at ht
  obtain ⟨e,lv',J2,happ,hO2⟩:=YC (Pre:=[.cells [p.ns.v,p.as.v,p.fs.v],x1]) (J:=J++[IObj.free]++R) (n0:=(J++[IObj.free]++R).length+1+1) (slot:=0) (k:=0) (out:=out) (R:=[.free]) zi ((hO.more [.free]).more R) (ys:=[face]) (by simp) (by simp only [zcc,zci]; omega) (by simp only [zcc,zci]; omega) rfl rfl
  simp only [zcu,zc4,zcs,zdo,intc,zg,zcc,zci,zda,zcq,zcy] at happ
  simp only [V0,sevalprocAttr,ht,rep,zw,zF,zJ,yG]
  have hn0:(J++.free::R).length=J.length+(R.length+1):=by simp
  simp only [hn0] at happ
  simp only [V0,sevalprocAttr,happ,ht]
  exact hK _ _ _ hO2 (by simp only [V0,sevalprocAttr,ht])
 ·simp only [V0,sevalprocAttr]
  exact hR _ _ ht
theorem sideZ_arc {p:Pn} {z:Int} (h:sideZ p z≠0):∃ a∈p.as.l,sideZ p z=a.l∨sideZ p z=a.r:=by
 unfold sideZ at h ⊢
 cases hd:dartOk p z
 ·rw [hd] at h
  exact absurd rfl h
 ·unfold dartOk at hd
  rw [zcm] at hd
  have h2:=hd.2
  unfold arcD
  cases hf:arcF p (absI z) with
  | none=>rw [hf] at h2; cases h2
  | some a =>
   refine ⟨a,List.mem_of_find?_eq_some hf,?_⟩
   simp only [cond_true,zdx]
   cases decide (0<z)
   ·exact .inr rfl
   ·exact .inl rfl
def SeenOK (p:Pn) (Ls:List (Int × Bool)):Prop:=(Ls.map Prod.fst).Nodup/\∀ kv∈Ls,kv.2=true/\kv.1≠0/\∃ a∈p.as.l,kv.1=a.l∨kv.1=a.r
theorem seen_put {p:Pn} {Ls:List (Int × Bool)} {f:Int} (h:SeenOK p Ls) (hf:lkM false Ls f=false) (h0:f≠0) (ha:∃ a∈p.as.l,f=a.l∨f=a.r):SeenOK p (putM Ls f true):=by
 have hnone:(Ls.findIdx? fun kv=>f==kv.1)=none:=by
  rw [List.findIdx?_eq_none_iff]
  intro kv hkv
  cases hb:f==kv.1
  ·rfl
  ·exfalso
   have hfe:f=kv.1:=by simpa using hb
   unfold lkM at hf
   cases hfind:Ls.find? fun kv=>f==kv.1 with
   | none =>
    rw [List.find?_eq_none] at hfind
    exact hfind kv hkv hb
   | some kv' =>
    rw [hfind] at hf
    have h1:=(h.2 kv' (List.mem_of_find?_eq_some hfind)).1
    simp only [zb9,zdx,h1] at hf
    cases hf
 unfold putM
 rw [hnone]
 rw [List.findIdx?_eq_none_iff] at hnone
 refine ⟨?_,fun kv hkv=>?_⟩
 ·rw [List.map_append,List.nodup_append]
  refine ⟨h.1,by simp,fun x hx y hy=>?_⟩
  simp only [zdc,zd5,zd8] at hy
  subst hy
  obtain ⟨kv,hkv,rfl⟩:=List.mem_map.1 hx
  have:=hnone kv hkv
  intro he
  rw [he] at this
  simp at this
 ·rcases zd4.1 hkv with hkv | hkv
  ·exact h.2 kv hkv
  ·rw [zd8.1 hkv]
   exact ⟨rfl,h0,ha⟩
def FacesOK (p:Pn) (ok:Bool):Prop:=ok=true->∃ ks:List Int,ks.Nodup/\ks.length=p.fs.l.length/\∀ k∈ks,k≠0/\∃ a∈p.as.l,k=a.l∨k=a.r
theorem faces_run (hS:NoS S) (p:Pn) (hfv:FewVia p) (U:List (SlOf 1 intc)) (hU:U.length<=65536) (hUc:∀ c∈U,c.l.length<=200000) (hUne:∀ c∈U,c.l≠[]) (As:SlOf 4 arF) (hA:AreasOK U As.l):∃ N,∀ m,N<=m->∀ d out ownV own id,∃ (xs:SlOf 1 intc) (ok:Bool),callN Ftab S m d out ownV own id 67 [.agg p.c,As.v]=some (.r,.tuple [xs.v,.bool ok],own)/\FacesOK p ok:=by
 have hsd:∀ c∈nilC::U,∃ N,∀ m,N<=m->∀ z∈c.l,∀ d out ownV own id,callN Ftab S m d out ownV own id 95 [.agg p.c,iv z]=some (.r,.int .i64 (sideZ p z),own):=fun c _=>by
  have h1:∀ z∈c.l,∃ N,∀ m,N<=m->∀ d out ownV own id,callN Ftab S m d out ownV own id 95 [.agg p.c,iv z]=some (.r,.int .i64 (sideZ p z),own):=fun z _=>at_sideZ hS p z hfv
  obtain ⟨N,hN⟩:=Yb c.l h1
  exact ⟨N,fun m hm z hz=>hN z hz m hm⟩
 have hcy:∀ a∈As.l,∃ N,∀ m,N<=m->∃ q:SlOf 1 cyG,q.l=a.oc::a.ic.l/\∀ d out ownV own id,callN Ftab S m d out ownV own id 96 [.agg (arF a)]=some (.r,q.v,own):=fun a ha=>by
  obtain ⟨i,hi⟩:=List.getElem?_of_mem ha
  obtain ⟨q,h1,N,h2⟩:=acyc_gives hS a (by have:=(hA.2.2 i a hi).1; omega)
  exact ⟨N,fun m hm=>⟨q,h1,h2 m hm⟩⟩
 obtain ⟨N1,hN1⟩:=Yb (nilC::U) hsd
 obtain ⟨N2,hN2⟩:=Yb As.l hcy
 have hAl:=hA.2.1
 refine ⟨N1+N2+400000,fun m hm d out ownV own id=>?_⟩
 obtain ⟨m,rfl⟩:∃ q,m=q+6:=⟨m - 6,by omega⟩
 have main:∃ v,callN Ftab S (m+5+1) d out ownV own id 67 [.agg p.c,As.v]=some (.r,v,own)/\∃ (xs:SlOf 1 intc) (ok:Bool),v=.tuple [xs.v,.bool ok]/\FacesOK p ok:=by
  refine Zt (i:=i67) (ns hS (by rfl)) rfl rfl (lb rfl) fun t hfr=>?_
  simp only [V2,Nat.reduceAdd,i67,Pn.c] at hfr
  generalize (fun l=>if l=d then ownV else out l:yLM)=out2
  suffices hsuf:∀ K:yKM,(∀ t' x0 x1 J lv xs ok,OwnJ intc 1 (d+1) 2 J lv xs->xs.length<=1000000->FacesOK p ok->Slots 71 t' [(4,lv),(5,.bool ok)]->K .ret ⟨t',x0::x1::J⟩)->(∀ t' O,Slots 71 t' [(4,.nilsl),(5,.bool false)]->K .ret ⟨t',O⟩)->Ex (callN Ftab S (m+5)) (d+1) out2 (m+5) i67.body K ⟨t,[]⟩ from hsuf _ (fun t' x0 x1 J lv xs ok hO hx hok ht=>by
   simp only [zd,zh] at ht
   rw [y9]
   have hf:=YB (Pre:=[x0,x1]) (m:=m+4) zi (fun a x hx=>by
    simp only [intc,zcx,zc1,or_false] at hx
    subst hx
    exact zy) (by omega) (show xs.length<9223372036854775808 by omega) hO
   refine ⟨.tuple [lv,.bool ok],.tuple [(rowQ zi xs (by omega)).v,.bool ok],by simp only [i67,V0,sevalprocAttr,ht],?_,_,ok,rfl,hok⟩
   have h2:freeze (m+4) (d+1) (x0::x1::J) (.bool ok)=some (.bool ok):=rfl
   simp only [zcu,zc4] at hf
   rw [show m+5=(m+4)+1 from rfl]
   unfold freeze
   simp only [zdg,List.mapM_nil,hf,h2,zdz,zdp,zch,zb9]) (fun t' O ht=>by
   simp only [zd,zh] at ht
   rw [y9]
   exact ⟨.tuple [.nilsl,.bool false],.tuple [nilC.v,.bool false],by simp only [i67,V0,sevalprocAttr,ht],rfl,nilC,false,rfl,fun h=>by cases h⟩)
  intro K fin finR
  have haf:=As.few
  rw [show i67.body=.seq (i67.body.sub [0]) (.seq (i67.body.sub [1,0]) (.seq (.seq (i67.body.sub [1,1,0,0]) (.block 0 (.loop (.seq (i67.body.sub [1,1,0,1,0,0,0]) (.seq (i67.body.sub [1,1,0,1,0,0,1,0]) (.seq (.block 1 (.seq (i67.body.sub [1,1,0,1,0,0,1,1,0,0,0]) (.seq (i67.body.sub [1,1,0,1,0,0,1,1,0,0,1,0]) (.seq (i67.body.sub [1,1,0,1,0,0,1,1,0,0,1,1,0]) (i67.body.sub [1,1,0,1,0,0,1,1,0,0,1,1,1]))))) (i67.body.sub [1,1,0,1,0,0,1,1,1]))))))) (.seq (i67.body.sub [1,1,1,0]) (i67.body.sub [1,1,1,1])))) from rfl]
  have hT:=fun {K:yKM} a q hq hm hcl hcyc hside t face i n ja lv asv x1 J xs hO hx hja hfr hK hR=>@fc_tail S hS (m+5) (d+1) out2 K p a q hq hm hcl hcyc hside t face i n ja lv asv x1 J xs hO hx hja hfr hK hR
  generalize i67.body.sub [1,1,0,1,0,0,1,1,0,0,1,1,1]=T at hT ⊢
  simp only [i67,IC.sub,V0,sevalprocAttr,hfr]
  refine zb (fun jj st=>∃ (i:Nat) (lv:IV) (J:yLO) (Ls:List (Int × Bool)) (bs:List Nat) (ck:Nat) (xs:List Int),As.l.length - i<=jj/\i<=As.l.length/\OwnJ intc 1 (d+1) 2 J lv xs/\xs.length<=i/\SeenOK p Ls/\st.own=.cells [p.ns.v,p.as.v,p.fs.v]::.map (mKs Ls) (mVs IV.bool Ls) bs ck::J/\Slots 71 st.t [(2,.ptrM (d+1) 0 0),(4,lv),(6,.mapM (d+1) 1),(15,As.v),(16,iv (As.l.length:Nat)),(17,iv i)]) As.l.length (by omega) ⟨0,.nilsl,[],[],[],0,[],by omega,by omega,.inl ⟨rfl,rfl⟩,by simp,⟨by simp,fun _ h=>by simp at h⟩,rfl,by simp only [V0,sevalprocAttr,hfr,zcp]⟩ ?_
  clear hfr
  rintro jj ⟨t,own⟩ KA ⟨i,lv,J,Ls,bs,ck,xs,hjj,hi,hO,hxl,hLs,ho,hfr⟩ hnA heA hrA
  dsimp only at ho hfr
  subst ho
  simp only [V3] at hfr
  by_cases h:i<As.l.length
  ·have hx:As.l[i]?=some As.l[i]:=zb7 h
   obtain ⟨q,hq1,hq2⟩:=hN2 _ (zdj h) (m+5) (by omega)
   generalize As.l[i]=a at hx hq1 hq2
   obtain ⟨a1,a2,a3,a4⟩:=hA.2.2 i a hx
   have hqU:∀ c∈q.l,c∈nilC::U:=fun c hc=>by
    rw [hq1] at hc
    rcases zcx.1 hc with rfl | hc
    ·exact a4
    ·exact zd0 _ (a2 c hc)
   have hqc:∀ c∈q.l,c.l.length<=200000:=fun c hc=>by
    rcases zcx.1 (hqU c hc) with rfl | h
    ·exact Nat.zero_le _
    ·exact hUc c h
   have hqs:∀ c∈q.l,∀ z∈c.l,∀ d out ownV own id,callN Ftab S (m+5) d out ownV own id 95 [.agg p.c,iv z]=some (.r,.int .i64 (sideZ p z),own):=fun c hc=>hN1 c (hqU c hc) (m+5) (by omega)
   have hql:q.l.length<=65537:=by rw [hq1,zcc]; omega
   have hrd:rdN (As.l.flatMap arF) (i*4) 4=some [.int .i64 a.tw,a.oc.v,a.ic.v,a.al.v]:=(zc arF_len 0 4 hx (by omega)).trans rfl
   have hw:wrapI .i64 ((i:Int)+1)=((i+1:Nat):Int):=we
   cases hp:decide ((0:Int)<(i:Int))
   ·simp only [V0,sevalprocAttr,hfr,h,za As h,hrd,gt_iff_lt,hp]
    refine hT a q (by omega) (by omega) hqc hq2 hqs _ 0 i As.l.length J.length lv As.v _ _ xs (hO.more _) (by omega) (by simp) (by simp only [V0,sevalprocAttr,hfr]) (fun t' lv' J' hO' ht=>?_) (fun t' O ht=>?_)
    ·simp only [V3] at ht
     simp only [V0,sevalprocAttr,ht,hw]
     exact hnA _ (As.l.length - (i+1)) (by omega) ⟨i+1,lv',J',Ls,bs,ck,_,by omega,by omega,hO',by simp only [zce,zcc,zci]; omega,hLs,rfl,by simp only [V0,sevalprocAttr,ht,hw]⟩
    ·simp only [V0,sevalprocAttr]
     refine hrA _ ?_
     simp only [V0,sevalprocAttr]
     exact finR _ _ ht
   ·have hi0:0<i:=by have:=of_decide_eq_true hp; omega
    have hoU:=a3 hi0
    obtain ⟨z,r,hzr⟩:∃ z r,a.oc.l=z::r:=by
     cases hl:a.oc.l with
     | nil=>exact absurd hl (hUne _ hoU)
     | cons z r=>exact ⟨z,r,rfl⟩
    have hz:=hN1 a.oc (zd0 _ hoU) (m+5) (by omega) z (by rw [hzr]; exact zdk ..)
    have hio:∀ own,iaddrV own 1 a.oc.v (.int .i64 0)=some (.p,.ptrC (a.oc.l.flatMap intc) (0*1),own):=fun own=>za a.oc (i:=0) (by rw [hzr]; simp)
    have hrz:rdN (a.oc.l.flatMap intc) (0*1) 1=some [.int .i64 z]:=(zc (l:=a.oc.l) (i:=0) (x:=z) zi 0 1 (by rw [hzr]; rfl) (by omega)).trans rfl
    simp only [Pn.c,zg] at hz
    have hdA:∀ (x y w z:IObj),(hide [] (J.length+1+1+1) (x::y::(J++[w,z])))[J.length+1+1]?=some w:=fun x y w z=>by rw [zB]; simp
    cases hf0:(sideZ p z==0)
    ·cases hs:lkM false Ls (sideZ p z)
     ·have evS:∀ (R:yLO) (C:Call) (n0:Nat) (own:yLO) (t:List IV) (a b:Opd),ρ t a=.mapM (d+1) 1->ρ t b=.int .i64 (sideZ p z)->evOp C (d+1) out2 n0 (.cells [p.ns.v,p.as.v,p.fs.v]::.map (mKs Ls) (mVs IV.bool Ls) bs ck::R) own t (.lookup (.bool false) (false,[1]) false a b)=some (.r,.bool (lkM false Ls (sideZ p z)),own):=fun R C n0 own t a b h1 h2=>ZO (bs:=bs) (ck:=ck) false (sideZ p z) rfl h1 h2 (by simp only [look,if_true,zcg,zc2])
      have hne:sideZ p z≠0:=by simpa using hf0
      have hLs2:=seen_put hLs hs hne (sideZ_arc hne)
      obtain ⟨bs',ck',hup⟩:=upd_m (u:=IV.bool) Ls bs ck (sideZ p z) true
      have hup2:=fun C n0 ownV own t a b c=>hup C (d+1) out2 n0 1 ownV own t a b c
      simp only [V0,sevalprocAttr,hfr,h,za As h,hrd,gt_iff_lt,hp,hio,hrz,hz,hdA,evS,hs,hf0]
      refine ⟨by simp [comm],?_⟩
      simp only [V0,sevalprocAttr,hfr,evS,hs,hf0,hup2]
      refine hT a q (by omega) (by omega) hqc hq2 hqs _ (sideZ p z) i As.l.length J.length lv As.v _ _ xs (hO.more _) (by omega) (by simp) (by simp only [V0,sevalprocAttr,hfr]) (fun t' lv' J' hO' ht=>?_) (fun t' O ht=>?_)
      ·simp only [V3] at ht
       simp only [V0,sevalprocAttr,ht,hw]
       exact hnA _ (As.l.length - (i+1)) (by omega) ⟨i+1,lv',J',_,bs',ck',_,by omega,by omega,hO',by simp only [zce,zcc,zci]; omega,hLs2,rfl,by simp only [V0,sevalprocAttr,ht,hw]⟩
      ·simp only [V0,sevalprocAttr]
       refine hrA _ ?_
       simp only [V0,sevalprocAttr]
       exact finR _ _ ht
     ·have evS:∀ (R:yLO) (C:Call) (n0:Nat) (own:yLO) (t:List IV) (a b:Opd),ρ t a=.mapM (d+1) 1->ρ t b=.int .i64 (sideZ p z)->evOp C (d+1) out2 n0 (.cells [p.ns.v,p.as.v,p.fs.v]::.map (mKs Ls) (mVs IV.bool Ls) bs ck::R) own t (.lookup (.bool false) (false,[1]) false a b)=some (.r,.bool (lkM false Ls (sideZ p z)),own):=fun R C n0 own t a b h1 h2=>ZO (bs:=bs) (ck:=ck) false (sideZ p z) rfl h1 h2 (by simp only [look,if_true,zcg,zc2])
      simp only [V0,sevalprocAttr,hfr,h,za As h,hrd,gt_iff_lt,hp,hio,hrz,hz,hdA,evS,hs,hf0]
      refine ⟨by simp [comm],?_⟩
      simp only [V0,sevalprocAttr,hfr,evS,hs,hf0]
      refine hrA _ ?_
      simp only [V0,sevalprocAttr]
      exact finR _ _ (by simp only [V0,sevalprocAttr,hfr])
    ·simp only [V0,sevalprocAttr,hfr,h,za As h,hrd,gt_iff_lt,hp,hio,hrz,hz,hdA,hf0]
     refine ⟨by simp [comm],?_⟩
     simp only [V0,sevalprocAttr,hfr,hf0]
     refine hrA _ ?_
     simp only [V0,sevalprocAttr]
     exact finR _ _ (by simp only [V0,sevalprocAttr,hfr])
  ·simp only [V0,sevalprocAttr,hfr,h]
   refine heA _ _ ?_
   have hlen:∀ (own:yLO),lenV (d+1) out2 (hide [] (J.length+1+1) (.cells [p.ns.v,p.as.v,p.fs.v]::.map (mKs Ls) (mVs IV.bool Ls) bs ck::J)) own 2 (.mapM (d+1) 1)=some (.r,.int .i64 (Ls.length:Nat),own):=fun own=>by
    simp [lenV,look,zB,mKs]
   simp only [V0,sevalprocAttr,hfr,hlen]
   refine ⟨by simp [comm],?_⟩
   simp only [V0,sevalprocAttr,hfr]
   refine fin _ _ _ _ _ _ ((Ls.length:Int)==(p.fs.l.length:Int)) hO (by omega) (fun hok=>⟨Ls.map Prod.fst,hLs.1,?_,fun k hk=>?_⟩) (by simp only [V0,sevalprocAttr,hfr])
   ·have:(Ls.length:Int)=(p.fs.l.length:Int):=by simpa using hok
    rw [zdi]
    omega
   ·obtain ⟨kv,hkv,rfl⟩:=List.mem_map.1 hk
    exact (hLs.2 kv hkv).2
 obtain ⟨v,h1,xs,ok,rfl,h2⟩:=main
 exact ⟨xs,ok,h1,h2⟩
end
end
section
theorem Zf:∀ {n:Nat} {v:IV},clF n v=true->Fz n v
 | 0,v,h=>by simp [clF] at h
 | n+1,v,h=>fun m hm lv own=>by
  obtain ⟨m,rfl⟩:∃ q,m=q+1:=⟨m - 1,by omega⟩
  have ih:∀ {cs:List IV},cs.all (clF n)=true->cs.mapM (freeze m lv own)=some cs:=fun h=>zG fun c hc=>Zf (zdh.1 h c hc) m (by omega) lv own
  cases v <;> simp only [clF,zcm,zco] at h <;> simp only [freeze] <;> first | rfl | (rw [ih h]; rfl) | (rw [ih h.1,ih h.2])
def RgnOK (p:Pn) (e:Int):Prop:=e=0->(∃ v,planE p v=0)/\FacesOK p true
theorem badId_pos {z:Int} (h:badId z=false):1<=z/\z<=4611686018427387904:=by
 simp only [badId,Bool.or_eq_false_iff,decide_eq_false_iff_not] at h
 omega
theorem plan_zero {p:Pn} {v:Bool} (h:planE p v=0):limI p=false/\limV p=false/\ordB p=true/\rngB p=true/\connE p (p.ns.l.map Nd.id)=0/\v=true:=by
 unfold planE at h
 cases h1:(limI p||limV p)
 ·rw [h1] at h
  rw [Bool.or_eq_false_iff] at h1
  cases h2:ordB p
  ·rw [h2] at h; simp at h
  ·rw [h2] at h
   cases h3:rngB p
   ·rw [h3] at h; simp at h
   ·rw [h3] at h
    cases h4:(connE p (p.ns.l.map Nd.id)==0)
    ·rw [h4] at h
     simp only [zd7,cond_false] at h
     rw [h] at h4
     simp at h4
    ·rw [h4] at h
     cases v
     ·simp at h
     ·exact ⟨h1.1,h1.2,rfl,rfl,by simpa using h4,rfl⟩
 ·rw [h1] at h; simp at h
theorem arcs_pos {p:Pn} {v:Bool} (h:planE p v=0):∀ a∈p.as.l,1<=a.id/\a.id<=4611686018427387904:=fun a ha=>by
 obtain ⟨_,_,_,h4,_⟩:=plan_zero h
 unfold rngB at h4
 simp only [zcm,Bool.not_eq_true',List.any_eq_false] at h4
 have:=h4.2.1 a.id (List.mem_map_of_mem ha)
 exact badId_pos (by simpa using this)
section
variable {S:ySM}
theorem read_gives (hT:TabCl Ftab) (hSc:SumCl S) (hS:NoS S) (hSp:∀ args,S 37 args=none) (p:Pn) (h1:p.ns.l.length<=1000000) (hfv:FewVia p) (ha:2*p.as.l.length<65536) (hna:2*p.as.l.length*p.ns.l.length<65536) :
  ∃ (a b c:IV) (e:Int) (N:Nat),GivesN S N 42 [.agg p.c] (.tuple [a,b,c,.int .i64 e])/\RgnOK p e/\clF 4 a=true/\clF 4 b=true/\clF 4 c=true/\(e=0->∃ Np,GivesN S Np 37 [.agg p.c] (.int .i64 0)):=by
 obtain ⟨v,cs,hc1,hc2,⟨N1,hN1⟩,hP⟩:=cycles_gives hT hSc hS hSp p h1 hfv ha hna
 cases he:(planE p v != 0)
 rotate_left
 ·refine ⟨.nilsl,.nilsl,.nilmap,planE p v,N1+10+1,yd (i:=i42) (ns hS (by rfl)) rfl rfl (lb rfl) (N1+10) fun m hm d out t hfr=>?_,fun h=>by simp [h] at he,rfl,rfl,rfl,fun h=>by simp [h] at he⟩
  simp only [V2,Nat.reduceAdd,i42,Pn.c] at hfr
  have c0:=fun dd oo ownV own id=>hN1 m (by omega) dd oo ownV own id
  simp only [Pn.c] at c0
  simp only [i42,V0,sevalprocAttr,hfr,c0,he]
  refine ⟨_,by simp only [resultI,zdg,List.mapM_nil,ZJ,V0,sevalprocAttr,hfr,zdz,zdp,zch]; rfl,?_⟩
  exact Zf (n:=2) rfl m (by omega) _ _
 have he0:planE p v=0:=by simpa using he
 obtain ⟨L,hL,N2,hN2⟩:=paths_gives hT hSc hS p hfv
 obtain ⟨As,hA,N3,hN3⟩:=divide_gives hT hSc hS p hfv (by omega) h1 (arcs_pos he0) cs hc2 (fun c hc=>(hc1 c hc).1) L hL
 obtain ⟨N4,hN4⟩:=faces_run hS p hfv cs.l hc2 (fun c hc=>(hc1 c hc).2) (fun c hc=>by
  obtain ⟨h,r,hh,_⟩:=(hc1 c hc).1
  rw [hh]
  simp) As hA
 obtain ⟨xs,ok,hf,hok⟩:=hN4 N4 (zcf _) 0 (fun _=>[]) [] [] 0
 have hf:=Ze hT hSc (ns hS (by rfl)) rfl rfl (fun k=>by
  simp only [zdc,zd5,zbu,clF_sh (YM As 2)]) (by
  show clF 5 _=true
  simp only [clF,zd9,List.all_nil,Bool.and_true]
  exact ZD xs 2) hf
 cases ok
 ·refine ⟨.nilsl,.nilsl,.nilmap,12,N1+N2+N3+N4+10+1,yd (i:=i42) (ns hS (by rfl)) rfl rfl (lb rfl) (N1+N2+N3+N4+10) fun m hm d out t hfr=>?_,(fun h=>absurd h (by decide)),rfl,rfl,rfl,fun h=>absurd h (by decide)⟩
  simp only [V2,Nat.reduceAdd,i42,Pn.c] at hfr
  have c0:=fun dd oo ownV own id=>hN1 m (by omega) dd oo ownV own id
  have c1:=fun dd oo ownV own id=>hN2 m (by omega) dd oo ownV own id
  have c2:=fun dd oo ownV own id=>hN3 m (by omega) dd oo ownV own id
  have c3:=fun dd oo ownV own id=>hf m (by omega) dd oo ownV own id
  simp only [Pn.c] at c0 c1 c2 c3
  have smp:(IV.mapC (mKs L) (mVs plV L)).scalar=true:=rfl
  have cmp:(IV.mapC (mKs L) (mVs plV L)).cells=[.mapC (mKs L) (mVs plV L)]:=rfl
  simp only [i42,V0,sevalprocAttr,smp,cmp,hfr,c0,he,c1,c2,c3]
  refine ⟨_,by simp only [resultI,zdg,List.mapM_nil,ZJ,V0,sevalprocAttr,hfr,zdz,zdp,zch]; rfl,?_⟩
  exact Zf (n:=2) rfl m (by omega) _ _
 ·refine ⟨As.v,xs.v,.mapC (mKs L) (mVs plV L),0,N1+N2+N3+N4+10+1,yd (i:=i42) (ns hS (by rfl)) rfl rfl (lb rfl) (N1+N2+N3+N4+10) fun m hm d out t hfr=>?_,fun _=>⟨⟨v,he0⟩,hok⟩,YM As 0,ZD xs 2,YJ L 1,fun _=>by rw [he0] at hP; exact hP⟩
  simp only [V2,Nat.reduceAdd,i42,Pn.c] at hfr
  have c0:=fun dd oo ownV own id=>hN1 m (by omega) dd oo ownV own id
  have c1:=fun dd oo ownV own id=>hN2 m (by omega) dd oo ownV own id
  have c2:=fun dd oo ownV own id=>hN3 m (by omega) dd oo ownV own id
  have c3:=fun dd oo ownV own id=>hf m (by omega) dd oo ownV own id
  simp only [Pn.c] at c0 c1 c2 c3
  have smp:(IV.mapC (mKs L) (mVs plV L)).scalar=true:=rfl
  have cmp:(IV.mapC (mKs L) (mVs plV L)).cells=[.mapC (mKs L) (mVs plV L)]:=rfl
  simp only [i42,V0,sevalprocAttr,smp,cmp,hfr,c0,he,c1,c2,c3]
  refine ⟨_,by simp only [resultI,zdg,List.mapM_nil,ZJ,V0,sevalprocAttr,hfr,zdz,zdp,zch]; rfl,?_⟩
  refine Zf (n:=5) ?_ m (by omega) _ _
  have q1:=YM As 0
  have q2:=ZD xs 2
  have q3:=YJ L 1
  rw [clF]
  simp only [zd9,List.all_nil,Bool.and_true,q1,q2,q3,Bool.and_self,zds]
  rfl
theorem region_gives (hT:TabCl Ftab) (hSc:SumCl S) (hS:NoS S) (hSp:∀ args,S 37 args=none) (hSg:∀ args,S 18 args=none) (p:Pn) (h1:p.ns.l.length<=1000000) (hfv:FewVia p) (ha:2*p.as.l.length<65536) (hna:2*p.as.l.length*p.ns.l.length<65536) :
  ∃ (e:Int) (N:Nat),GivesN S N 18 [.agg p.c] (.int .i64 e)/\RgnOK p e/\(e=0->∃ Np,GivesN S Np 37 [.agg p.c] (.int .i64 0)):=by
 obtain ⟨a,b,c,e,N,hN,hok,_,_,_,hP⟩:=read_gives hT hSc hS hSp p h1 hfv ha hna
 refine ⟨e,N+10+1,zj (i:=i18) (hSg _) rfl rfl (lb rfl) (N+10) (by omega) zy fun m hm d out t hfr=>?_,hok,hP⟩
 simp only [V2,Nat.reduceAdd,i18,Pn.c] at hfr
 have c0:=fun dd oo ownV own id=>hN m (by omega) dd oo ownV own id
 simp only [Pn.c] at c0
 simp only [i18,V0,sevalprocAttr,hfr,c0]
end
end
section
def kindZ (f:Ft):Int:=bif shapeI f.kind==3 then f.kind else 0
def keysF (f:Ft):List (Int × Int):=bif shapeI f.kind==2 then [] else f.parts.l.map fun x=>(kindZ f,x)
def partOk (p:Pn) (f:Ft) (x:Int):Bool:=bif shapeI f.kind==1 then (nodeF p x).isSome else bif shapeI f.kind==2 then (arcF p x).isSome else bif shapeI f.kind==3 then p.fs.l.contains x else false
def bad1 (f:Ft):Bool:=decide ((64:Int)<(f.parts.l.length:Int))
def bad3 (f:Ft):Bool:=decide (f.id<1)||(decide (1073741824<f.id)||(decide (f.cls<1)||decide (9<f.cls)))
def bad4 (f:Ft):Bool:=shapeI f.kind==0
def bad5 (nm:ByteArray->Int) (f:Ft):Bool:=!(f.name.1.toList==(bs []).toList)&&(nm f.name.1 != 0)
def bad6 (f:Ft):Bool:=(f.parts.l.length:Int)==0||(shapeI f.kind==1&&decide ((1:Int)<(f.parts.l.length:Int)))
def bad7 (p:Pn) (f:Ft):Bool:=f.parts.l.any fun x=>!partOk p f x
def disB (fs:List Ft):Bool:=!ascL (fs.map Ft.id)||fs.any fun f=>!ascL f.parts.l
def dupB (fs:List Ft):Bool:=!decide (fs.flatMap keysF).Nodup
def ruleE (nm:ByteArray->Int) (p:Pn) (fs:List Ft):Int:=bif decide ((128:Int)<(fs.length:Int)) then 3 else bif fs.any bad1 then 3 else bif disB fs then 10 else bif fs.any bad3 then 2 else bif fs.any bad4 then 9 else bif fs.any (bad5 nm) then 14 else bif fs.any bad6 then 1 else bif fs.any (bad7 p) then 7 else bif dupB fs then 13 else 0
structure FtOK (nm:ByteArray->Int) (p:Pn) (f:Ft):Prop where
 few:f.parts.l.length<=64
 asc:ascL f.parts.l=true
 ids:1<=f.id/\f.id<=1073741824/\1<=f.cls/\f.cls<=9
 shape:shapeI f.kind≠0
 name:bad5 nm f=false
 some:f.parts.l≠[]
 one:shapeI f.kind=1->f.parts.l.length<=1
 part:∀ x∈f.parts.l,partOk p f x=true
structure FtsOK (nm:ByteArray->Int) (p:Pn) (fs:List Ft):Prop where
 few:fs.length<=128
 each:∀ f∈fs,FtOK nm p f
 asc:ascL (fs.map Ft.id)=true
 keys:(fs.flatMap keysF).Nodup
theorem yz {b:Bool} {e r:Int} (he:e≠0):(bif b then e else r)=0↔b=false/\r=0:=by
 cases b <;> simp [he]
theorem zbx {nm:ByteArray->Int} {p:Pn} {fs:List Ft}:ruleE nm p fs=0↔FtsOK nm p fs:=by
 unfold ruleE
 rw [yz (by decide),yz (by decide),yz (by decide),yz (by decide),yz (by decide),yz (by decide),yz (by decide),yz (by decide),yz (by decide)]
 simp only [decide_eq_false_iff_not,List.any_eq_false,disB,Bool.or_eq_false_iff,Bool.not_eq_false',dupB,and_true,decide_eq_true_eq]
 constructor
 ·rintro ⟨h0,h1,⟨h2,h2'⟩,h3,h4,h5,h6,h7,h8⟩
  refine ⟨by omega,fun f hf=>?_,h2,h8⟩
  have g1:=h1 f hf
  have g2:=h2' f hf
  have g3:=h3 f hf
  have g4:=h4 f hf
  have g5:=h5 f hf
  have g6:=h6 f hf
  have g7:=h7 f hf
  simp only [bad1,decide_eq_true_eq,bad3,Bool.or_eq_true,bad4,beq_iff_eq,bad6,zcm,bad7,List.any_eq_true,not_exists,not_and,Bool.not_eq_true',Bool.not_eq_false] at g1 g2 g3 g4 g6 g7
  refine ⟨by omega,by simpa using g2,by omega,g4,by simpa using g5,fun h=>g6 (.inl (by rw [h]; rfl)),fun h=>?_,fun x hx=>by simpa using g7 x hx⟩
  have:=fun hh=>g6 (.inr ⟨h,hh⟩)
  omega
 ·rintro ⟨h0,h1,h2,h3⟩
  refine ⟨by omega,fun f hf=>?_,⟨h2,fun f hf=>?_⟩,fun f hf=>?_,fun f hf=>?_,fun f hf=>?_,fun f hf=>?_,fun f hf=>?_,h3⟩
  ·have:=(h1 f hf).few
   simp only [bad1,decide_eq_true_eq]
   omega
  ·simp [(h1 f hf).asc]
  ·have:=(h1 f hf).ids
   simp only [bad3,decide_eq_true_eq,Bool.or_eq_true]
   omega
  ·simp [bad4,(h1 f hf).shape]
  ·simp [(h1 f hf).name]
  ·have a:=(h1 f hf).some
   have b:=(h1 f hf).one
   simp only [bad6,Bool.or_eq_true,beq_iff_eq,zcm,decide_eq_true_eq,Int.natCast_eq_zero,zcv]
   rintro (h | ⟨h,h'⟩)
   ·exact a h
   ·have:=b h
    omega
  ·have a:=(h1 f hf).part
   simp only [bad7,List.any_eq_true,not_exists,not_and,Bool.not_eq_true',Bool.not_eq_false]
   exact a
theorem Y3:∀ {l:List Int},ascL l=true↔l.Pairwise (·<·)
 | []=>by simp [ascL]
 | [a]=>by simp [ascL]
 | a::b::t=>by
  have ih:=Y3 (l:=b::t)
  rw [ascL,zcm,decide_eq_true_eq,ih,List.pairwise_cons (a:=a)]
  constructor
  ·rintro ⟨h1,h2⟩
   refine ⟨fun x hx=>?_,h2⟩
   rcases zcx.1 hx with rfl | hx
   ·exact h1
   ·exact Int.lt_trans h1 ((List.pairwise_cons.1 h2).1 x hx)
  ·rintro ⟨h1,h2⟩
   exact ⟨h1 b (zdk ..),h2⟩
theorem ascL_sub {l l':List Int} (h:ascL l=true) (hs:l'.Sublist l):ascL l'=true:=Y3.2 ((Y3.1 h).sublist hs)
theorem flatMap_sub {α β:Type} (g:α->List β) {l l':List α} (h:l'.Sublist l):(l'.flatMap g).Sublist (l.flatMap g):=by
 induction h with
 | slnil=>exact .slnil
 | cons a _ ih=>rw [zcs]; exact ih.trans (List.sublist_append_right ..)
 | cons_cons a _ ih=>rw [zcs,zcs]; exact (List.Sublist.refl _).append ih
theorem FtsOK.sub {nm:ByteArray->Int} {p:Pn} {fs fs':List Ft} (h:FtsOK nm p fs) (hs:fs'.Sublist fs):FtsOK nm p fs' :=
 ⟨zd6 hs.length_le h.few,fun f hf=>h.each f (hs.subset hf),ascL_sub h.asc (hs.map _),h.keys.sublist (flatMap_sub keysF hs)⟩
theorem keysF_sub {f:Ft} {q:SlOf 1 intc} (h:q.l.Sublist f.parts.l):(keysF { f with parts:=q }).Sublist (keysF f):=by
 unfold keysF
 simp only
 cases shapeI f.kind==2
 ·exact h.map _
 ·exact .slnil
theorem FtOK.parts {nm:ByteArray->Int} {p:Pn} {f:Ft} {q:SlOf 1 intc} (h:FtOK nm p f) (h1:q.l.Sublist f.parts.l) (h2:q.l≠[]):FtOK nm p { f with parts:=q } :=
 ⟨zd6 h1.length_le h.few,ascL_sub h.asc h1,h.ids,h.shape,h.name,h2,fun hs=>zd6 h1.length_le (h.one hs),fun x hx=>h.part x (h1.subset hx)⟩
theorem set_split {α:Type} {l:List α} {i:Nat} {x:α} (h:l[i]?=some x) (y:α):∃ a b,l=a++x::b/\l.set i y=a++y::b/\a.length=i:=by
 obtain ⟨hi,rfl⟩:=zb6.1 h
 exact ⟨l.take i,l.drop (i+1),by simp,by rw [List.set_eq_take_append_cons_drop,if_pos hi],by simp; omega⟩
theorem FtsOK.set {nm:ByteArray->Int} {p:Pn} {fs:List Ft} {i:Nat} {f:Ft} {q:SlOf 1 intc} (h:FtsOK nm p fs) (hi:fs[i]?=some f) (h1:q.l.Sublist f.parts.l) (h2:q.l≠[]):FtsOK nm p (fs.set i { f with parts:=q }):=by
 obtain ⟨a,b,rfl,hb,_⟩:=set_split hi { f with parts:=q }
 rw [hb]
 refine ⟨by have:=h.few; simp only [zce,zcc] at this ⊢; exact this,fun g hg=>?_,?_,?_⟩
 ·rcases zd4.1 hg with hg | hg
  ·exact h.each g (by simp [hg])
  ·rcases zcx.1 hg with rfl | hg
   ·exact (h.each f (by simp)).parts h1 h2
   ·exact h.each g (by simp [hg])
 ·have:=h.asc
  simpa using this
 ·refine h.keys.sublist ?_
  rw [List.flatMap_append,List.flatMap_append,zcs,zcs]
  exact (List.Sublist.refl _).append ((keysF_sub h1).append (List.Sublist.refl _))
end
section
section
variable {S:ySM}
def anyTo (qb:Nat->Bool) (n:Nat):Bool:=(List.range n).any qb
theorem Yf {qb:Nat->Bool} {n:Nat}:anyTo qb (n+1)=(anyTo qb n||qb n):=by simp [anyTo,List.range_succ]
theorem anyTo_hit {qb:Nat->Bool} {n i:Nat} (h:i<n) (hq:qb i=true):anyTo qb n=true:=by
 unfold anyTo
 rw [List.any_eq_true]
 exact ⟨i,List.mem_range.2 h,hq⟩
theorem anyTo_list {α:Type} {q:α->Bool} {qb:Nat->Bool} {l:List α} (h:∀ i x,l[i]?=some x->qb i=q x):anyTo qb l.length=l.any q:=by
 rw [Bool.eq_iff_iff]
 simp only [anyTo,List.any_eq_true,List.mem_range]
 constructor
 ·rintro ⟨i,hi,hq⟩
  exact ⟨l[i],zdj hi,by rw [← h i _ (zb7 hi)]; exact hq⟩
 ·rintro ⟨x,hx,hq⟩
  obtain ⟨i,hi,rfl⟩:=List.mem_iff_getElem.1 hx
  exact ⟨i,hi,by rw [h i _ (zb7 hi)]; exact hq⟩
theorem idxF_run (hS:NoS S) {m D:Nat} {out:yLM} (l:SlOf 5 Ft.c) (qb:Nat->Bool) (gf:FuncId) (caps:List IV) (Inv:Nat->List IObj->Prop) (hmore:∀ k J R,Inv k J->Inv k (J++R)) (hm:l.l.length+10<=m)
  (hc:∀ k x J,l.l[k]?=some x->anyTo qb k=false->Inv k J->∃ e J',(∀ id,callN Ftab S m D out J J id gf (.agg x.c::caps)=some (e,.bool (qb k),J'))/\Inv (k+1) J') (own:yLO) (h0:Inv 0 own) :
  ∃ (r:Int) (own':yLO),(∀ ownV id,callN Ftab S (m+1) D out ownV own id 51 [l.v,.fn gf [] caps]=some (.x,.int .i64 r,own'))/\decide (0<=r)=anyTo qb l.l.length/\∃ k,k<=l.l.length/\Inv k own':=by
 have main:∃ v own',(∀ id,callN Ftab S (m+1) D out [] own id 51 [l.v,.fn gf [] caps]=some (.x,v,own'))/\(∃ r:Int,v=.int .i64 r/\decide (0<=r)=anyTo qb l.l.length/\∃ k,k<=l.l.length/\Inv k own'):=by
  refine zt (i:=i51) (ns hS (by rfl)) rfl rfl (lb rfl) fun t hfr=>?_
  simp only [V2,Nat.reduceAdd,i51] at hfr
  have hlf:=l.few
  simp only [i51,V0,sevalprocAttr,hfr]
  refine zb (fun jj st=>∃ (i:Nat) (O:yLO),l.l.length - i<=jj/\i<=l.l.length/\anyTo qb i=false/\Inv i O/\st.own=O/\Slots 19 st.t [(0,l.v),(1,.fn gf [] caps),(7,iv (l.l.length:Nat)),(8,iv i)]) l.l.length (by omega) ⟨0,own,by omega,by omega,rfl,h0,rfl,by simp only [V0,sevalprocAttr,hfr,zcp]⟩ ?_
  clear hfr
  rintro jj ⟨t,own⟩ K ⟨i,O,hjj,hi,ha,hI,ho,hfr⟩ hn he hr
  dsimp only at ho hfr
  subst ho
  simp only [V3] at hfr
  by_cases h:i<l.l.length
  ·obtain ⟨x,hx⟩:=gx (l:=l.l) (i:=i) h
   have hrd:rdN (l.l.flatMap Ft.c) (i*5) 5=some [.int .i64 x.id,.int .i64 x.kind,.int .i64 x.cls,.str x.name.1,x.parts.v]:=(zc Ft.c_len 0 5 hx (by omega)).trans rfl
   have hw:wrapI .i64 ((i:Int)+1)=((i+1:Nat):Int):=we
   obtain ⟨e,J',cc,hI'⟩:=hc i x _ hx ha (hmore _ _ [.free] hI)
   simp only [Ft.c,zg] at cc
   cases hq:qb i
   ·simp only [V0,sevalprocAttr,hfr,h,za l h,hrd,cc,hq,hw]
    exact hn _ (l.l.length - (i+1)) (by omega) ⟨i+1,_,by omega,by omega,by rw [Yf,ha,hq]; rfl,hI',rfl,by simp only [V0,sevalprocAttr,hfr,cc,hq,hw]⟩
   ·simp only [V0,sevalprocAttr,hfr,h,za l h,hrd,cc,hq]
    refine hr _ ?_
    simp only [V0,sevalprocAttr,hfr,ze,ZE]
    exact ⟨_,rfl,_,rfl,by rw [anyTo_hit h hq]; simp,i+1,by omega,hI'⟩
  ·simp only [V0,sevalprocAttr,hfr,h]
   refine he _ _ ?_
   simp only [V0,sevalprocAttr,hfr,ze,ZE]
   obtain rfl:i=l.l.length:=by omega
   exact ⟨_,rfl,_,rfl,by rw [ha]; decide,l.l.length,by omega,hI⟩
 obtain ⟨v,own',h1,r,rfl,h2,h3⟩:=main
 exact ⟨r,own',fun ownV id=>(yr (ns hS (by rfl)) rfl rfl).trans (h1 0),h2,h3⟩
theorem zby (hS:NoS S) {m D:Nat} {out:yLM} (l:SlOf 5 Ft.c) (qb:Nat->Bool) (gf:FuncId) (caps:List IV) (Inv:Nat->List IObj->Prop) (hmore:∀ k J R,Inv k J->Inv k (J++R)) (hm:l.l.length+10<=m)
  (hc:∀ k x J,l.l[k]?=some x->anyTo qb k=false->Inv k J->∃ e J',(∀ id,callN Ftab S m D out J J id gf (.agg x.c::caps)=some (e,.bool (qb k),J'))/\Inv (k+1) J') (own:yLO) (h0:Inv 0 own) :
  ∃ own':yLO,(∀ ownV id,callN Ftab S (m+2) D out ownV own id 29 [l.v,.fn gf [] caps]=some (.x,.bool (anyTo qb l.l.length),own'))/\∃ k,k<=l.l.length/\Inv k own':=by
 have main:∃ v own',(∀ id,callN Ftab S (m+1+1) D out [] own id 29 [l.v,.fn gf [] caps]=some (.x,v,own'))/\(v=.bool (anyTo qb l.l.length)/\∃ k,k<=l.l.length/\Inv k own'):=by
  refine zt (i:=i29) (ns hS (by rfl)) rfl rfl (lb rfl) fun t hfr=>?_
  simp only [V2,Nat.reduceAdd,i29] at hfr
  obtain ⟨r,own',hcc,hr,hI⟩:=idxF_run hS l qb gf caps Inv hmore hm hc (own++[.free]) (hmore _ _ _ h0)
  simp only [i29,V0,sevalprocAttr,hfr,hcc,ge_iff_le,hr,ze,ZE]
  exact ⟨_,rfl,rfl,hI⟩
 obtain ⟨v,own',h1,rfl,h3⟩:=main
 exact ⟨own',fun ownV id=>(yr (ns hS (by rfl)) rfl rfl).trans (h1 0),h3⟩
theorem conF_pure (hS:NoS S) {m D:Nat} {out:yLM} (l:SlOf 5 Ft.c) (q:Ft->Bool) (gf:FuncId) (caps:List IV) (own:yLO) (hm:l.l.length+10<=m)
  (hc:∀ x∈l.l,∀ R id,callN Ftab S m D out (own++R) (own++R) id gf (.agg x.c::caps)=some (.r,.bool (q x),own++R)) :
  ∃ R:yLO,∀ ownV id,callN Ftab S (m+2) D out ownV own id 29 [l.v,.fn gf [] caps]=some (.x,.bool (l.l.any q),own++R):=by
 obtain ⟨own',h1,k,_,R,rfl⟩:=zby (D:=D) (out:=out) hS l (fun k=>((l.l[k]?).map q).getD false) gf caps (fun _ J=>∃ R,J=own++R) (fun k J R ⟨R0,h⟩=>⟨R0++R,by rw [h,zcy]⟩) hm
  (fun k x J hx _ ⟨R,hJ⟩=>⟨.r,J,fun id=>by
   subst hJ
   rw [hc x (List.mem_of_getElem? hx) R id]
   simp only [hx,zb9,zdx],R,hJ⟩) own ⟨[],by simp⟩
 refine ⟨R,fun ownV id=>?_⟩
 rw [h1 ownV id,anyTo_list (q:=q) (l:=l.l) fun i x hx=>by simp only [hx,zb9,zdx]]
theorem YN (hS:NoS S) (k:Int):GivesN S 2 16 [iv k] (.int .i64 (shapeI k)):=by
 refine zj (i:=i16) (ns hS (by rfl)) rfl rfl (lb rfl) 1 (by omega) zy fun m hm d out t hfr=>?_
 simp only [V2,Nat.reduceAdd,i16,zg] at hfr
 unfold shapeI
 cases h1:k==1
 rotate_left
 ·simp only [i16,V0,sevalprocAttr,hfr,h1,zdm,cond_true]
 cases h2:k==2
 rotate_left
 ·simp only [i16,V0,sevalprocAttr,hfr,h1,h2,zdm,zde,cond_true]
 cases h8:k==8
 rotate_left
 ·simp only [i16,V0,sevalprocAttr,hfr,h1,h2,h8,zdm,zde,cond_true]
 cases h3:k==3
 rotate_left
 ·simp only [i16,V0,sevalprocAttr,hfr,h1,h2,h8,h3,zdm,zde,cond_true,cond_false]
 cases h4:k==4
 rotate_left
 ·simp only [i16,V0,sevalprocAttr,hfr,h1,h2,h8,h3,h4,zdm,zde,cond_true,cond_false]
 cases h5:k==5
 rotate_left
 ·simp only [i16,V0,sevalprocAttr,hfr,h1,h2,h8,h3,h4,h5,zdm,zde,cond_true,cond_false]
 cases h6:k==6
 rotate_left
 ·simp only [i16,V0,sevalprocAttr,hfr,h1,h2,h8,h3,h4,h5,h6,zdm,zde,cond_true,cond_false]
 cases h7:k==7
 ·simp only [i16,V0,sevalprocAttr,hfr,h1,h2,h8,h3,h4,h5,h6,h7,zdm,zde,cond_true,cond_false]
 ·simp only [i16,V0,sevalprocAttr,hfr,h1,h2,h8,h3,h4,h5,h6,h7,zdm,zde,cond_true,cond_false]
theorem at_r1 (hS:NoS S) (f:Ft):GivesN S 2 19 [.agg f.c] (.bool (bad1 f)):=by
 refine zj (i:=i19) (ns hS (by rfl)) rfl rfl (lb rfl) 1 (by omega) zx fun m hm d out t hfr=>?_
 simp only [V2,Nat.reduceAdd,i19,Ft.c,zg] at hfr
 simp only [i19,V0,sevalprocAttr,hfr,bad1,gt_iff_lt]
theorem at_r3 (hS:NoS S) (f:Ft):GivesN S 2 21 [.agg f.c] (.bool (bad3 f)):=by
 refine zj (i:=i21) (ns hS (by rfl)) rfl rfl (lb rfl) 1 (by omega) zx fun m hm d out t hfr=>?_
 simp only [V2,Nat.reduceAdd,i21,Ft.c,zg] at hfr
 unfold bad3
 cases h1:decide (f.id<1)
 ·cases h2:decide (1073741824<f.id)
  ·cases h3:decide (f.cls<1)
   ·simp only [i21,V0,sevalprocAttr,hfr,gt_iff_lt,h1,h2,h3,zde]
   ·simp only [i21,V0,sevalprocAttr,hfr,gt_iff_lt,h1,h2,h3,zde,zdm]
  ·simp only [i21,V0,sevalprocAttr,hfr,gt_iff_lt,h1,h2,zde,zdm]
 ·simp only [i21,V0,sevalprocAttr,hfr,gt_iff_lt,h1,zdm]
theorem at_r4 (hS:NoS S) (f:Ft):GivesN S 4 22 [.agg f.c] (.bool (bad4 f)):=by
 refine zj (i:=i22) (ns hS (by rfl)) rfl rfl (lb rfl) 3 (by omega) zx fun m hm d out t hfr=>?_
 simp only [V2,Nat.reduceAdd,i22,Ft.c,zg] at hfr
 have c0:=YN hS f.kind m (by omega)
 simp only [zg] at c0
 simp only [i22,V0,sevalprocAttr,hfr,bad4,c0]
def NmOK (S:ySM) (nm:ByteArray->Int):Prop:=∀ s:{ s:ByteArray // s.size<=maxLen },GivesN S 20 24 [.str s.1] (.int .i64 (nm s.1))
theorem at_r5 (hS:NoS S) {nm:ByteArray->Int} (hN:NmOK S nm) (f:Ft):GivesN S 24 23 [.agg f.c] (.bool (bad5 nm f)):=by
 refine zj (i:=i23) (ns hS (by rfl)) rfl rfl (lb rfl) 23 (by omega) zx fun m hm d out t hfr=>?_
 simp only [V2,Nat.reduceAdd,i23,Ft.c,zg] at hfr
 have c0:=hN f.name m (by omega)
 unfold bad5
 cases h1:f.name.1.toList==(bs []).toList
 ·simp only [i23,V0,sevalprocAttr,hfr,c0,h1,strBin,zds,zcw]
 ·simp only [i23,V0,sevalprocAttr,hfr,c0,h1,strBin,zds,zcw]
theorem at_r6 (hS:NoS S) (f:Ft):GivesN S 4 25 [.agg f.c] (.bool (bad6 f)):=by
 refine zj (i:=i25) (ns hS (by rfl)) rfl rfl (lb rfl) 3 (by omega) zx fun m hm d out t hfr=>?_
 simp only [V2,Nat.reduceAdd,i25,Ft.c,zg] at hfr
 have c0:=YN hS f.kind m (by omega)
 simp only [zg] at c0
 unfold bad6
 cases h1:(f.parts.l.length:Int)==0
 ·cases h2:shapeI f.kind==1
  ·simp only [i25,V0,sevalprocAttr,hfr,c0,h1,h2,gt_iff_lt,zde,zcw]
  ·simp only [i25,V0,sevalprocAttr,hfr,c0,h1,h2,gt_iff_lt,zde,zds]
 ·simp only [i25,V0,sevalprocAttr,hfr,c0,h1,gt_iff_lt,zdm]
theorem at_valid (hS:NoS S) (l:SlOf 1 intc):GivesN S (l.l.length+4) 44 [l.v] (.bool (ascL l.l)):=by
 refine zj (i:=i44) (ns hS (by rfl)) rfl rfl (lb rfl) (l.l.length+3) (by omega) zx fun m hm d out t hfr=>?_
 simp only [V2,Nat.reduceAdd,i44] at hfr
 have hlf:=l.few
 simp only [i44,V0,sevalprocAttr,hfr]
 refine zb (fun jj st=>∃ (i:Nat) (O:yLO),l.l.length - i<=jj/\(1<=i/\i<=l.l.length+1)/\ascTo l.l i/\st.own=O/\Slots 20 st.t [(0,l.v),(3,iv i)]) l.l.length (by omega) ⟨1,[],by omega,by omega,fun i x y h _ _=>by omega,rfl,by simp only [V0,sevalprocAttr,hfr,Int.natCast_one]⟩ ?_
 rintro jj ⟨t,own⟩ K ⟨i,O,hjj,hi,ha,ho,hfr⟩ hn he hr
 dsimp only at ho hfr
 subst ho
 simp only [V3] at hfr
 by_cases h:i<l.l.length
 ·obtain ⟨x,hx⟩:=gx (l:=l.l) (i:=i) h
  have h0:i - 1<l.l.length:=by omega
  obtain ⟨y,hy⟩:=gx (l:=l.l) (i:=i - 1) h0
  have hrx:rdN (l.l.flatMap intc) (i*1) 1=some [.int .i64 x]:=zc zi 0 1 hx (by omega)
  have hry:rdN (l.l.flatMap intc) ((i - 1)*1) 1=some [.int .i64 y]:=zc zi 0 1 hy (by omega)
  have hw:wrapI .i64 ((i:Int)+1)=((i+1:Nat):Int):=we
  have hv:wrapI .i64 ((i:Int) - 1)=((i - 1:Nat):Int):=we
  by_cases hb:x<=y
  ·simp only [V0,sevalprocAttr,hfr,h,za l h,za l h0,hrx,hry,hv,ge_iff_le,hb]
   refine ⟨by simp [comm],?_⟩
   simp only [V0,sevalprocAttr,hfr]
   refine hr _ ?_
   have hf:ascL l.l=false:=by
    rw [← Bool.not_eq_true]
    intro hc
    have:=y6.1 hc (i - 1) y x (by omega) hy (by rw [show i - 1+1=i by omega]; exact hx)
    omega
   simp only [V0,sevalprocAttr,hfr,hf]
  ·simp only [V0,sevalprocAttr,hfr,h,za l h,za l h0,hrx,hry,hv,ge_iff_le,hb]
   refine ⟨by simp [comm],?_⟩
   simp only [V0,sevalprocAttr,hfr,hw]
   refine hn _ (l.l.length - (i+1)) (by omega) ⟨i+1,_,by omega,by omega,?_,rfl,by simp only [V0,sevalprocAttr,hfr,hw]⟩
   intro j u v hj hu hv
   by_cases hj2:j+1<i
   ·exact ha j u v hj2 hu hv
   ·have e:j=i - 1:=by omega
    subst e
    rw [show i - 1+1=i by omega] at hv
    rw [hy] at hu
    rw [hx] at hv
    cases hu
    cases hv
    omega
 ·simp only [V0,sevalprocAttr,hfr,h]
  refine he _ _ ?_
  have hf:ascL l.l=true:=y6.2 fun j u v hj hu hv=>ha j u v (by omega) hu hv
  simp only [V0,sevalprocAttr,hfr,hf]
end
end
section
section
variable {S:ySM}
theorem idxI_low (hS:NoS S) (l:SlOf 1 intc) (q:Int->Bool) (gf:FuncId) (caps:List IV) (Nc D:Nat) (B:yLO) (hc:∀ x∈l.l,∀ m,Nc<=m->∀ d out ownV own id,D<d->out D=B->callN Ftab S m d out ownV own id gf (iv x::caps)=some (.r,.bool (q x),own)) :
  ∀ m,Nc+l.l.length+4<=m->∀ d out ownV own id,D<d->out D=B->callN Ftab S m d out ownV own id 71 [l.v,.fn gf [] caps]=some (.r,.int .i64 (fIdx q l.l),own):=fun m hm d out ownV own id hd hB=>by
 refine Zq (i:=i71) (N:=Nc+l.l.length+3) (ns hS (by rfl)) rfl rfl (lb rfl) (by omega) (by omega) zy fun m hm t hfr=>?_
 have hB2:(fun a=>if a=d then ownV else out a:yLM) D=B:=by
  show (if D=d then ownV else out D)=B
  rw [if_neg (by omega),hB]
 generalize (fun a=>if a=d then ownV else out a:yLM)=out2 at hB2 ⊢
 simp only [V2,Nat.reduceAdd,i71] at hfr
 simp only [i71,V0,sevalprocAttr,hfr]
 have hlf:=l.few
 refine zb (fun jj st=>∃ (i:Nat) (O:yLO),l.l.length - i<=jj/\i<=l.l.length/\(l.l.take i).findIdx? q=none/\st.own=O/\Slots 19 st.t [(0,l.v),(1,.fn gf [] caps),(7,iv (l.l.length:Nat)),(8,iv i)]) l.l.length (by omega) ⟨0,[],by omega,by omega,by simp,rfl,by simp only [V0,sevalprocAttr,hfr,zcp]⟩ ?_
 rintro jj ⟨t,own⟩ K ⟨i,O,hjj,hi,ha,ho,hfr⟩ hn he hr
 dsimp only at ho hfr
 subst ho
 simp only [V3] at hfr
 by_cases h:i<l.l.length
 ·have hx:l.l[i]?=some l.l[i]:=zb7 h
  have hmem:l.l[i]∈l.l:=zdj h
  generalize l.l[i]=x at hx hmem
  have hrd:rdN (l.l.flatMap intc) (i*1) 1=some [.int .i64 x]:=zc zi 0 1 hx (by omega)
  have hw:wrapI .i64 ((i:Int)+1)=((i+1:Nat):Int):=we
  have cc:=fun ownV own id=>hc x hmem m (by omega) (d+1) out2 ownV own id (by omega) hB2
  simp only [zg] at cc
  cases hq:q x
  ·simp only [V0,sevalprocAttr,hfr,h,za l h,hrd,cc,hq,hw]
   refine hn _ (l.l.length - (i+1)) (by omega) ⟨i+1,_,by omega,by omega,?_,rfl,by simp only [V0,sevalprocAttr,hfr,cc,hq,hw]⟩
   rw [zd1,hx,Option.toList_some,List.findIdx?_append,ha]
   simp [List.findIdx?_cons,hq]
  ·simp only [V0,sevalprocAttr,hfr,h,za l h,hrd,cc,hq]
   refine hr _ ?_
   simp only [V0,sevalprocAttr,hfr,zao hx hq ha]
 ·simp only [V0,sevalprocAttr,hfr,h]
  refine he _ _ ?_
  have hall:fIdx q l.l=-1:=by
   rw [zcr (by omega)] at ha
   simp only [fIdx,ha]
  simp only [V0,sevalprocAttr,hfr,hall]
theorem conI_low (hS:NoS S) (l:SlOf 1 intc) (q:Int->Bool) (gf:FuncId) (caps:List IV) (Nc D:Nat) (B:yLO) (hc:∀ x∈l.l,∀ m,Nc<=m->∀ d out ownV own id,D<d->out D=B->callN Ftab S m d out ownV own id gf (iv x::caps)=some (.r,.bool (q x),own)) :
  ∀ m,Nc+l.l.length+6<=m->∀ out own id,callN Ftab S m D out B own id 46 [l.v,.fn gf [] caps]=some (.r,.bool (l.l.any q),own):=fun m hm out own id=>by
 refine Zq (i:=i46) (N:=Nc+l.l.length+5) (ns hS (by rfl)) rfl rfl (lb rfl) (by omega) (by omega) zx fun m hm t hfr=>?_
 have hB2:(fun a=>if a=D then B else out a:yLM) D=B:=if_pos rfl
 generalize (fun a=>if a=D then B else out a:yLM)=out2 at hB2 ⊢
 simp only [V2,Nat.reduceAdd,i46] at hfr
 have cc:=fun ownV own id=>idxI_low hS l q gf caps Nc D B hc m (by omega) (D+1) out2 ownV own id (by omega) hB2
 have hz:decide (0<=fIdx q l.l)=l.l.any q:=YD
 simp only [i46,V0,sevalprocAttr,hfr,cc,ge_iff_le,hz]
theorem miss1_run (hS:NoS S) (p:Pn) (hv:FewVia p) (f:Ft) (x:Int):∃ N,∀ m,N<=m->∀ D d out ownV own id R,D<d->out D=.cells p.c::.cells f.c::R->callN Ftab S m d out ownV own id 47 [iv x,.ptrM D 1 0,.ptrM D 0 0]=some (.r,.bool (!partOk p f x),own):=by
 obtain ⟨N1,hN1⟩:=Zz hS p x
 obtain ⟨q,hq,N2,hN2⟩:=YZ hS p x (fun a ha=>by have:=hv a ha; omega)
 obtain ⟨N3,hN3⟩:=zbd hS p.fs x
 obtain ⟨N4,hN4⟩:∃ N,GivesN S N 49 [p.fs.v,iv x] (.bool (p.fs.l.contains x)):=by
  refine ⟨N3+2,zj (i:=i49) (ns hS (by rfl)) rfl rfl (lb rfl) (N3+1) (by omega) zx fun m hm d out t hfr=>?_⟩
  simp only [V2,Nat.reduceAdd,i49,zg] at hfr
  have c0:=hN3 m (by omega)
  simp only [zg] at c0
  simp only [i49,V0,sevalprocAttr,hfr,c0]
 refine ⟨N1+N2+N4+10,fun m hm D d out ownV own id R hd hB=>?_⟩
 refine Zq (i:=i47) (N:=N1+N2+N4+9) (ns hS (by rfl)) rfl rfl (lb rfl) (by omega) (by omega) zx fun m hm t hfr=>?_
 have hB2:(fun a=>if a=d then ownV else out a:yLM) D=.cells p.c::.cells f.c::R:=by
  show (if D=d then ownV else out D)=_
  rw [if_neg (by omega),hB]
 generalize (fun a=>if a=d then ownV else out a:yLM)=out2 at hB2 ⊢
 simp only [V2,Nat.reduceAdd,i47,zg] at hfr
 simp only [Pn.c,Ft.c,zg] at hB2
 have hd1:(D=d+1)=False:=eq_false (by omega)
 have hd2:(D<d+1)=True:=eq_true (by omega)
 have c0:=YN hS f.kind m (by omega)
 have c1:=hN1 m (by omega)
 have c2:=hN2 m (by omega)
 have c4:=hN4 m (by omega)
 simp only [Pn.c,zg] at c0 c1 c2 c4
 have e1:(p.ns.l.find? fun f=>f.id==x).isSome=(nodeF p x).isSome:=rfl
 have e2:(p.as.l.find? fun f=>f.id==x).isSome=(arcF p x).isSome:=rfl
 unfold partOk
 cases h1:shapeI f.kind==1
 rotate_left
 ·simp only [i47,V0,sevalprocAttr,hfr,hd1,hd2,hB2,c0,c1,h1,e1,cond_true]
 cases h2:shapeI f.kind==2
 rotate_left
 ·simp only [i47,V0,sevalprocAttr,hfr,hd1,hd2,hB2,c0,c2,h1,h2,e2,cond_true,cond_false]
 cases h3:shapeI f.kind==3
 ·simp only [i47,V0,sevalprocAttr,hfr,hd1,hd2,hB2,c0,c4,h1,h2,h3,cond_true,cond_false]
 ·simp only [i47,V0,sevalprocAttr,hfr,hd1,hd2,hB2,c0,c4,h1,h2,h3,cond_true,cond_false]
theorem at_miss (hS:NoS S) (p:Pn) (hv:FewVia p) (f:Ft):∃ N,GivesN S N 27 [.agg p.c,.agg f.c] (.bool (bad7 p f)):=by
 obtain ⟨N1,hN1⟩:=Yb f.parts.l (fun x _=>miss1_run hS p hv f x)
 refine ⟨N1+f.parts.l.length+10,zj (i:=i27) (ns hS (by rfl)) rfl rfl (lb rfl) (N1+f.parts.l.length+9) (by omega) zx fun m hm d out t hfr=>?_⟩
 simp only [V2,Nat.reduceAdd,i27,Pn.c,Ft.c,zg] at hfr
 have c0:=fun own id=>conI_low hS f.parts (fun x=>!partOk p f x) 47 [.ptrM d 1 0,.ptrM d 0 0] N1 d [.cells p.c,.cells f.c,.free] (fun x hx m hm d' out ownV own id hd hB=>hN1 x hx m hm d d' out ownV own id [.free] hd hB) m (by omega) out own id
 have hb:(f.parts.l.any fun x=>!partOk p f x)=bad7 p f:=rfl
 simp only [Pn.c,Ft.c,zg,hb] at c0
 simp only [i27,V0,sevalprocAttr,hfr,c0]
theorem r7_run (hS:NoS S) (s:Sv) (hv:FewVia s.pl) (f:Ft):∃ N,∀ m,N<=m->∀ D out own id R,own=.cells s.c::R->callN Ftab S m D out own own id 26 [.agg f.c,.ptrM D 0 0]=some (.r,.bool (bad7 s.pl f),own):=by
 obtain ⟨N1,hN1⟩:=at_miss hS s.pl hv f
 refine ⟨N1+3,fun m hm D out own id R ho=>?_⟩
 refine Zq (i:=i26) (N:=N1+2) (ns hS (by rfl)) rfl rfl (lb rfl) (by omega) (by omega) zx fun m hm t hfr=>?_
 have hB2:(fun a=>if a=D then own else out a:yLM) D=.cells s.c::R:=(if_pos rfl).trans ho
 generalize (fun a=>if a=D then own else out a:yLM)=out2 at hB2 ⊢
 simp only [V2,Nat.reduceAdd,i26,Ft.c,zg] at hfr
 simp only [Sv.c] at hB2
 have hd1:(D=D+1)=False:=eq_false (by omega)
 have hd2:(D<D+1)=True:=eq_true (by omega)
 have c0:=hN1 m (by omega)
 simp only [Pn.c,Ft.c,zg] at c0
 simp only [i26,V0,sevalprocAttr,hfr,hd1,hd2,hB2,c0]
end
end
section
def pairI (k:Int × Int):IV:=.agg [.int .i64 k.1,.int .i64 k.2]
def pKs (L:List (Int × Int)):List IV:=L.map pairI
def pVs (L:List (Int × Int)):List IV:=L.map fun _=>.bool true
theorem zbz (k:Int × Int):∀ (L:List (Int × Int)) (n:Nat),findIx (true,[1,1]) (pairI k) (pKs L) n=some ((L.findIdx? fun x=>k==x).map (n+·))
 | [],n=>rfl
 | x::L,n=>by
  have ih:=zbz k L (n+1)
  have e:eqk (true,[1,1]) (pairI k) (pairI x)=some (k==x):=by
   have:eqvs [1,1] [.int .i64 k.1,.int .i64 k.2] [.int .i64 x.1,.int .i64 x.2]=some (k==x):=by
    have hk:(k==x)=(k.1==x.1&&k.2==x.2):=rfl
    rw [hk]
    simp only [eqvs,eqv]
    cases h1:k.1==x.1 <;> cases h2:k.2==x.2 <;> simp [h1,h2]
   exact this
  show (match eqk (true,[1,1]) (pairI k) (pairI x) with | some true=>some (some n) | some false=>findIx (true,[1,1]) (pairI k) (pKs L) (n+1) | none=>none)=_
  rw [e]
  cases h:k==x
  ·simp only [ih,List.findIdx?_cons,h]
   cases L.findIdx? fun x=>k==x with
   | none=>rfl
   | some j=>simp; omega
  ·simp [List.findIdx?_cons,h]
theorem find_not {k:Int × Int} {L:List (Int × Int)} (h:L.contains k=false):(L.findIdx? fun x=>k==x)=none:=by
 rw [List.findIdx?_eq_none_iff]
 intro x hx
 cases hb:k==x
 ·rfl
 ·obtain rfl:k=x:=by simpa using hb
  rw [List.contains_iff_mem.2 hx] at h
  cases h
theorem find_yes {k:Int × Int} {L:List (Int × Int)} (h:L.contains k=true):∃ j,(L.findIdx? fun x=>k==x)=some j/\j<L.length:=by
 cases hf:L.findIdx? fun x=>k==x with
 | none =>
  rw [List.findIdx?_eq_none_iff] at hf
  have:=hf k (List.contains_iff_mem.1 h)
  simp at this
 | some j =>
  obtain ⟨hj,_⟩:=zdq.1 hf
  exact ⟨j,rfl,hj⟩
theorem ev_lookP {L:List (Int × Int)} {bs:List Nat} {ck:Nat} (k:Int × Int) {C:Call} {d n0 l j:Nat} {out:yLM} {ownV own:yLO} {t:List IV} {a b:Opd} (h1:ρ t a=.mapM l j) (h2:ρ t b=.agg [.int .i64 k.1,.int .i64 k.2]) (h3:look d out ownV l j=some (.map (pKs L) (pVs L) bs ck)):evOp C d out n0 ownV own t (.lookup (.bool false) (true,[1,1]) false a b)=some (.r,.bool (L.contains k),own):=by
 have h0:(kindB true (pairI k)&&(pairI k).cells.length==[1,1].length)=true:=rfl
 have h2:ρ t b=pairI k:=h2
 rw [yY]
 simp only [e_lookup,h1,h2,h3,findK,h0,if_true,zbz]
 cases hc:L.contains k
 ·rw [find_not hc]
  rfl
 ·obtain ⟨j,hj,hl⟩:=find_yes hc
  rw [hj]
  simp [pVs,hl]
theorem upd_p {L:List (Int × Int)} {bs:List Nat} {ck:Nat} (k:Int × Int) (hL:L.contains k=false) (C:Call) (D:Nat) (out:yLM) (n0 j:Nat) (ownV own:yLO) (t:List IV) (a b c:Opd) (h1:ρ t a=.mapM D j) (h2:ρ t b=.agg [.int .i64 k.1,.int .i64 k.2]) (h3:ρ t c=.bool true) (h4:own[j]?=some (.map (pKs L) (pVs L) bs ck)) :
  evOp C D out n0 ownV own t (.mapupd (true,[1,1]) a b c)=some (.x,.tuple [],own.set j (.map (pKs (L++[k])) (pVs (L++[k])) (bs++[ck]) (ck+1))):=by
 have h0:(kindB true (pairI k)&&(pairI k).cells.length==[1,1].length)=true:=rfl
 have h2:ρ t b=pairI k:=h2
 rw [Zn]
 simp only [e_mapupd,h1,h2,h3,h4,h0,and_self,if_true,zbz,find_not hL,zcz,zf]
 simp [pKs,pVs]
def hitB:List (Int × Int)->List (Int × Int)->Bool
 | _,[]=>false
 | L,k::r=>L.contains k||hitB (L++[k]) r
theorem zb0:∀ {L r:List (Int × Int)},L.Nodup->hitB L r=!decide (L++r).Nodup
 | L,[],h=>by simp [hitB,h]
 | L,k::r,h=>by
  rw [hitB]
  cases hc:L.contains k
  ·have hk:k ∉ L:=fun hm=>by
    rw [List.contains_iff_mem.2 hm] at hc
    cases hc
   have h2:(L++[k]).Nodup:=by
    rw [List.nodup_append]
    refine ⟨h,by simp,fun x hx y hy=>?_⟩
    rw [zd8] at hy
    subst hy
    intro e
    exact hk (e ▸ hx)
   rw [zb0 h2,zde,zcy]
   rfl
  ·have:¬ (L++k::r).Nodup:=fun hn=>by
    rw [List.nodup_append] at hn
    exact hn.2.2 k (List.contains_iff_mem.1 hc) k (zdk ..) rfl
   simp [this]
def hitAt (fs:List Ft) (k:Nat):Bool:=((fs[k]?).map fun f=>hitB ((fs.take k).flatMap keysF) (keysF f)).getD false
theorem hitAt_to {fs:List Ft}:∀ {n:Nat},n<=fs.length->anyTo (hitAt fs) n=!decide ((fs.take n).flatMap keysF).Nodup
 | 0,_=>by simp [anyTo]
 | n+1,h=>by
  have ih:=hitAt_to (fs:=fs) (n:=n) (by omega)
  have hx:fs[n]?=some fs[n]:=zb7 h
  rw [Yf,ih,take_flat hx]
  have e:hitAt fs n=hitB ((fs.take n).flatMap keysF) (keysF fs[n]):=by simp [hitAt,hx]
  rw [e]
  by_cases hn:((fs.take n).flatMap keysF).Nodup
  ·rw [zb0 hn]
   simp [hn]
  ·have:¬ ((fs.take n).flatMap keysF++keysF fs[n]).Nodup:=fun h2=>hn (List.nodup_append.1 h2).1
   simp [hn,this]
theorem hitAt_dup {fs:List Ft}:anyTo (hitAt fs) fs.length=dupB fs:=by
 rw [hitAt_to (zcf _),List.take_length]
 rfl
def disAt (fs:List Ft) (k:Nat):Bool:=((fs[k]?).map fun x=>(decide (0<k)&&((fs[k - 1]?).map fun y=>decide (x.id<=y.id)).getD false)||!ascL x.parts.l).getD false
theorem disAt_dis {fs:List Ft}:anyTo (disAt fs) fs.length=disB fs:=by
 unfold disB
 rw [Bool.eq_iff_iff]
 simp only [anyTo,List.any_eq_true,List.mem_range,Bool.or_eq_true,Bool.not_eq_true']
 constructor
 ·rintro ⟨k,hk,h⟩
  have hx:fs[k]?=some fs[k]:=zb7 hk
  simp only [disAt,hx,zb9,zdx,Bool.or_eq_true,zcm,decide_eq_true_eq,Bool.not_eq_true'] at h
  rcases h with ⟨h0,h⟩ | h
  ·left
   have hy:fs[k - 1]?=some fs[k - 1]:=zb7 (by omega)
   rw [hy] at h
   simp only [zb9,zdx,decide_eq_true_eq] at h
   rw [← Bool.not_eq_true]
   intro ha
   have:=y6.1 ha (k - 1) fs[k - 1].id fs[k].id (by rw [zdi]; omega) (by rw [zc0,hy]; rfl) (by rw [show k - 1+1=k by omega,zc0,hx]; rfl)
   omega
  ·exact .inr ⟨fs[k],zdj hk,h⟩
 ·rintro (h | ⟨f,hf,h⟩)
  ·rw [← Bool.not_eq_true,y6] at h
   unfold ascTo at h
   simp only [Classical.not_forall] at h
   obtain ⟨i,x,y,hi,hx,hy,hxy⟩:=h
   rw [zdi] at hi
   rw [zc0] at hx hy
   have hx1:fs[i]?=some fs[i]:=zb7 (by omega)
   have hy1:fs[i+1]?=some fs[i+1]:=zb7 hi
   rw [hx1] at hx
   rw [hy1] at hy
   simp only [zb9,zca] at hx hy
   refine ⟨i+1,hi,?_⟩
   simp only [disAt,hy1,hx1,Nat.add_sub_cancel,zb9,zdx,Bool.or_eq_true,zcm,decide_eq_true_eq]
   exact .inl ⟨by omega,by omega⟩
  ·obtain ⟨k,hk,rfl⟩:=List.mem_iff_getElem.1 hf
   refine ⟨k,hk,?_⟩
   have hx:fs[k]?=some fs[k]:=zb7 hk
   simp [disAt,hx,h]
section
variable {S:ySM}
theorem dis_run (hS:NoS S) {m D:Nat} {out:yLM} (hm:1<=m) (s:Sv) (own:yLO):∀ ownV id,callN Ftab S (m+1) D out ownV own id 20 [.agg s.c]=some (.x,.fn 43 [] [.ptrM D (own.length+1) 0,.ptrM D own.length 0],own++[.cells s.c,.cells [.int .i64 0]]):=by
 have main:∃ v own',(∀ id,callN Ftab S (m+1) D out [] own id 20 [.agg s.c]=some (.x,v,own'))/\(v=.fn 43 [] [.ptrM D (own.length+1) 0,.ptrM D own.length 0]/\own'=own++[.cells s.c,.cells [.int .i64 0]]):=by
  refine zt (i:=i20) (ns hS (by rfl)) rfl rfl (lb rfl) fun t hfr=>?_
  simp only [V2,Nat.reduceAdd,i20,Sv.c] at hfr
  simp only [i20,V0,Nat.reduceLT,Nat.reduceAdd,Nat.reduceMul,Nat.reduceLeDiff,Nat.reduceEqDiff,reduceCtorEq,hfr,ze,ZE,Sv.c]
  exact ⟨_,rfl,rfl⟩
 obtain ⟨v,own',h1,rfl,rfl⟩:=main
 exact fun ownV id=>(yr (ns hS (by rfl)) rfl rfl).trans (h1 0)
theorem sha_run (hS:NoS S) {m D:Nat} {out:yLM} (hm:1<=m) (own:yLO):∀ ownV id,callN Ftab S (m+1) D out ownV own id 28 []=some (.x,.fn 50 [] [.ptrM D (own.length+1) 0],own++[.map [] [] [] 0,.cells [.mapM D own.length]]):=by
 have main:∃ v own',(∀ id,callN Ftab S (m+1) D out [] own id 28 []=some (.x,v,own'))/\(v=.fn 50 [] [.ptrM D (own.length+1) 0]/\own'=own++[.map [] [] [] 0,.cells [.mapM D own.length]]):=by
  refine zt (i:=i28) (ns hS (by rfl)) rfl rfl (lb rfl) fun t hfr=>?_
  simp only [V2,Nat.reduceAdd,i28] at hfr
  have smp:∀ j,(IV.mapM D j).scalar=true:=fun j=>rfl
  have cmp:∀ j,(IV.mapM D j).cells=[.mapM D j]:=fun j=>rfl
  simp only [i28,V0,Nat.reduceLT,Nat.reduceAdd,Nat.reduceMul,Nat.reduceLeDiff,Nat.reduceEqDiff,reduceCtorEq,hfr,smp,cmp,ze,ZE]
  exact ⟨_,rfl,rfl⟩
 obtain ⟨v,own',h1,rfl,rfl⟩:=main
 exact fun ownV id=>(yr (ns hS (by rfl)) rfl rfl).trans (h1 0)
theorem dis1_run (hS:NoS S) {m D:Nat} {out:yLM} (s:Sv) (k:Nat) (x:Ft) (hx:s.ft.l[k]?=some x) (hm:x.parts.l.length+10<=m) (P J:yLO):∃ R,∀ ownV id,callN Ftab S (m+1) D out ownV (P++.cells s.c::.cells [iv k]::J) id 43 [.agg x.c,.ptrM D (P.length+1) 0,.ptrM D P.length 0]=some (.x,.bool (disAt s.ft.l k),P++.cells s.c::.cells [iv (k+1:Nat)]::(J++R)):=by
 have main:∃ v own',(∀ id,callN Ftab S (m+1) D out [] (P++.cells s.c::.cells [iv k]::J) id 43 [.agg x.c,.ptrM D (P.length+1) 0,.ptrM D P.length 0]=some (.x,v,own'))/\(v=.bool (disAt s.ft.l k)/\∃ R,own'=P++.cells s.c::.cells [iv (k+1:Nat)]::(J++R)):=by
  refine zt (i:=i43) (ns hS (by rfl)) rfl rfl (lb rfl) fun t hfr=>?_
  simp only [V2,Nat.reduceAdd,i43,Ft.c,zg] at hfr
  obtain ⟨hk,hxe⟩:=zb6.1 hx
  have hlf:=s.ft.few
  have hw:wrapI .i64 ((k:Int)+1)=((k+1:Nat):Int):=we
  have c0:=at_valid hS x.parts m (by omega)
  have g3:∀ (a b c:IObj),(P++a::b::(J++[c]))[P.length+(J.length+1+1)]?=some c:=fun a b c=>by
   rw [show P++a::b::(J++[c])=(P++a::b::J)++[c] by simp,show P.length+(J.length+1+1)=(P++a::b::J).length by simp,zcb (zcf _),zea]
   rfl
  have g3f:∀ (a b c e:IObj),(P++a::b::(J++[c,e]))[P.length+(J.length+1+1)]?=some c:=fun a b c e=>by
   rw [show P++a::b::(J++[c,e])=(P++a::b::J)++[c,e] by simp,show P.length+(J.length+1+1)=(P++a::b::J).length by simp,zcb (zcf _),zea]
   rfl
  have h0:∀ (vis:List Nat) (a b c e:IObj),(hide vis (P.length+(J.length+1+1+1)) (P++a::b::(J++[c,e])))[P.length]?=some a:=fun vis a b c e=>by
   rw [zB,zal,zb9,if_pos (by simp)]
  have h1:∀ (vis:List Nat) (a b c e:IObj),(hide vis (P.length+(J.length+1+1+1)) (P++a::b::(J++[c,e])))[P.length+1]?=some b:=fun vis a b c e=>by
   rw [zB,zbb,zb9,if_pos (by simp)]
  have h2:∀ (vis:List Nat) (a b c e:IObj),(hide vis (P.length+(J.length+1+1+1)) (P++a::b::(J++[c,e])))[P.length+(J.length+1+1)]?=some c:=fun vis a b c e=>by
   rw [zB,g3f,zb9,if_pos (by simp)]
  have s3:∀ (a b c e:IObj),(P++a::b::(J++[c])).set (P.length+(J.length+1+1)) e=P++a::b::(J++[e]):=fun a b c e=>by
   rw [show P++a::b::(J++[c])=(P++a::b::J)++[c] by simp,show P.length+(J.length+1+1)=(P++a::b::J).length by simp,zdl _ _ (zcf _),zea]
   simp
  cases k with
  | zero =>
   have hgt:decide (((0+1:Nat):Int) > 1)=false:=by decide
   have hd:disAt s.ft.l 0=!ascL x.parts.l:=by simp [disAt,hx]
   simp only [i43,V0,Nat.reduceLT,Nat.reduceAdd,Nat.reduceMul,Nat.reduceLeDiff,Nat.reduceEqDiff,reduceCtorEq,hfr,Sv.c,zg,hw,g3,s3,h0,h1,h2,hgt,c0]
   refine ⟨by simp [comm],?_⟩
   simp only [V0,Nat.reduceLT,Nat.reduceAdd,Nat.reduceMul,Nat.reduceLeDiff,Nat.reduceEqDiff,reduceCtorEq,hfr,ze,ZE]
   exact ⟨_,rfl,by rw [hd],_,rfl⟩
  | succ k =>
   have hgt:decide (((k+1+1:Nat):Int) > 1)=true:=by rw [decide_eq_true_iff]; omega
   have hlt:k<s.ft.l.length:=by omega
   obtain ⟨y,hy⟩:=gx (l:=s.ft.l) (i:=k) hlt
   have hw2:wrapI .i64 (((k+1+1:Nat):Int) - 2)=((k:Nat):Int):=we
   have hrd:rdN (s.ft.l.flatMap Ft.c) (k*5) 1=some [.int .i64 y.id]:=(zc Ft.c_len 0 1 hy (by omega)).trans rfl
   have hd:disAt s.ft.l (k+1)=(decide (x.id<=y.id)||!ascL x.parts.l):=by simp [disAt,hx,hy]
   cases hb:decide (x.id<=y.id)
   ·simp only [i43,V0,Nat.reduceLT,Nat.reduceAdd,Nat.reduceMul,Nat.reduceLeDiff,Nat.reduceEqDiff,reduceCtorEq,hfr,Sv.c,zg,hw,g3,s3,h0,h1,h2,hgt,c0,hw2,za s.ft hlt,hrd,ge_iff_le,hb]
    refine ⟨by simp [comm],?_⟩
    simp only [V0,Nat.reduceLT,Nat.reduceAdd,Nat.reduceMul,Nat.reduceLeDiff,Nat.reduceEqDiff,reduceCtorEq,hfr,ze,ZE]
    exact ⟨_,rfl,by rw [hd,hb,zde],_,rfl⟩
   ·simp only [i43,V0,Nat.reduceLT,Nat.reduceAdd,Nat.reduceMul,Nat.reduceLeDiff,Nat.reduceEqDiff,reduceCtorEq,hfr,Sv.c,zg,hw,g3,s3,h0,h1,h2,hgt,c0,hw2,za s.ft hlt,hrd,ge_iff_le,hb]
    refine ⟨by simp [comm],?_⟩
    simp only [V0,Nat.reduceLT,Nat.reduceAdd,Nat.reduceMul,Nat.reduceLeDiff,Nat.reduceEqDiff,reduceCtorEq,hfr,ze,ZE]
    exact ⟨_,rfl,by rw [hd,hb,zdm],_,rfl⟩
 obtain ⟨v,own',h1,rfl,R,rfl⟩:=main
 exact ⟨R,fun ownV id=>(yr (ns hS (by rfl)) rfl rfl).trans (h1 0)⟩
end
end
section
theorem mid_get {α:Type} {P R:List α} {a b c:α} {j:Nat} (h:R[j]?=some c):(P++a::b::R)[P.length+(j+1+1)]?=some c:=by
 rw [zcb (by omega),show P.length+(j+1+1) - P.length=j+1+1 by omega,zcg,zcg,h]
theorem mid_set {α:Type} {P R:List α} {a b v:α} {j:Nat}:(P++a::b::R).set (P.length+(j+1+1)) v=P++a::b::R.set j v:=by
 rw [zdl _ _ (by omega),show P.length+(j+1+1) - P.length=j+1+1 by omega,zd3,zd3]
section
variable {S:ySM}
theorem sha_tail (hS:NoS S) {m D:Nat} {out:yLM} {K:yKM} (f:Ft) (kind:Int) (L:List (Int × Int)) (P J:yLO) (bs:List Nat) (ck j:Nat) (hm:f.parts.l.length+10<=m) (hkey:keysF f=f.parts.l.map fun x=>(kind,x)) (hj:J[j]?=some (.cells f.c)) (t:List IV)
  (hfr:Slots 33 t [(1,.ptrM D (P.length+1) 0),(2,.ptrM D (P.length+(j+1+1)) 0),(4,.int .i64 kind)])
  (hK:∀ t' L' bs' ck' R b,Slots 33 t' [(3,.bool b)]->b=hitB L (keysF f)->(b=false->L'=L++keysF f)->K .ret ⟨t',P++.map (pKs L') (pVs L') bs' ck'::.cells [.mapM D P.length]::(J++R)⟩) :
  Ex (callN Ftab S m) D out m (i50.body.sub [1,1,1]) K ⟨t,P++.map (pKs L) (pVs L) bs ck::.cells [.mapM D P.length]::J⟩:=by
 simp only [zd,zh] at hfr
 have hlf:=f.parts.few
 have g0:∀ (a b:IObj),(P++a::b::J)[P.length+(j+1+1)]?=some (.cells f.c):=fun a b=>mid_get hj
 simp only [Ft.c,zg] at g0
 simp only [i50,IC.sub,V0,sevalprocAttr,hfr,g0]
 refine zb (fun jj st=>∃ (i:Nat) (L1:List (Int × Int)) (bs:List Nat) (ck:Nat) (R:yLO),f.parts.l.length - i<=jj/\i<=f.parts.l.length/\L1=L++(keysF f).take i/\hitB L (keysF f)=hitB L1 ((keysF f).drop i)/\st.own=P++.map (pKs L1) (pVs L1) bs ck::.cells [.mapM D P.length]::(J++R)/\Slots 33 st.t [(1,.ptrM D (P.length+1) 0),(4,.int .i64 kind),(18,f.parts.v),(19,iv (f.parts.l.length:Nat)),(20,iv i)]) f.parts.l.length (by omega) ⟨0,L,bs,ck,[],by omega,by omega,by simp,by simp,by simp,by simp only [V0,sevalprocAttr,hfr,g0,zcp]⟩ ?_
 clear hfr
 rintro jj ⟨t,own⟩ KA ⟨i,L1,bs,ck,R,hjj,hi,hL1,hhit,ho,hfr⟩ hnA heA hrA
 dsimp only at ho hfr
 subst ho
 simp only [V3] at hfr
 by_cases h:i<f.parts.l.length
 ·obtain ⟨x,hx⟩:=gx (l:=f.parts.l) (i:=i) h
  have hrd:rdN (f.parts.l.flatMap intc) (i*1) 1=some [.int .i64 x]:=(zc zi 0 1 hx (by omega)).trans rfl
  have hw:wrapI .i64 ((i:Int)+1)=((i+1:Nat):Int):=we
  have hkx:(keysF f)[i]?=some (kind,x):=by rw [hkey,zc0,hx]; rfl
  have hdrop:(keysF f).drop i=(kind,x)::(keysF f).drop (i+1):=by
   obtain ⟨h1,h2⟩:=zb6.1 hkx
   rw [← h2,List.drop_eq_getElem_cons h1]
  have gN:∀ (a b c:IObj),(P++a::b::(J++(R++[c])))[P.length+(J.length+R.length+1+1)]?=some c:=fun a b c=>mid_get (by rw [← zcy,← zce,zcb (zcf _),zea]; rfl)
  have sN:∀ (a b c v:IObj),(P++a::b::(J++(R++[c]))).set (P.length+(J.length+R.length+1+1)) v=P++a::b::(J++(R++[v])):=fun a b c v=>by
   rw [mid_set,← zcy,← zce,zdl _ _ (zcf _),zea]
   simp
  have evL:=fun (C:Call) (n0:Nat) (ownV own:yLO) (t:List IV) (a b:Opd) h1 h2 h3=>@ev_lookP L1 bs ck (kind,x) C D n0 D P.length out ownV own t a b h1 h2 h3
  have kk:∀ (p:Int × Int),([IV.int .i64 p.1,IV.int .i64 p.2]:List IV).all IV.scalar=true:=fun p=>rfl
  rw [hdrop,hitB] at hhit
  cases hc:L1.contains (kind,x)
  ·rw [hc,zde] at hhit
   have evU:=fun (C:Call) (n0:Nat) (ownV own:yLO) (t:List IV) (a b c:Opd) h1 h2 h3 h4=>@upd_p L1 bs ck (kind,x) hc C D out n0 P.length ownV own t a b c h1 h2 h3 h4
   simp only [hc] at evL
   simp only [V0,sevalprocAttr,hfr,h,za f.parts h,hrd,gN,sN,evL,evU,hw]
   exact hnA _ (f.parts.l.length - (i+1)) (by omega) ⟨i+1,L1++[(kind,x)],bs++[ck],ck+1,_,by omega,by omega,by rw [hL1,zcy,zd1,hkx]; rfl,hhit,rfl,by simp only [V0,sevalprocAttr,hfr,gN,sN,evL,evU,hw]⟩
  ·rw [hc,zdm] at hhit
   simp only [hc] at evL
   simp only [V0,sevalprocAttr,hfr,h,za f.parts h,hrd,gN,sN,evL]
   refine hrA _ ?_
   simp only [V0,sevalprocAttr]
   exact hK _ L1 bs ck _ true (by simp only [V0,sevalprocAttr,hfr,gN,sN,evL]) hhit.symm (fun h=>by cases h)
 ·have hdrop:(keysF f).drop i=[]:=by
   rw [List.drop_eq_nil_iff,hkey,zdi]
   omega
  have htake:(keysF f).take i=keysF f:=zcr (by rw [hkey,zdi]; omega)
  rw [hdrop,hitB] at hhit
  rw [htake] at hL1
  simp only [V0,sevalprocAttr,hfr,h]
  refine heA _ _ ?_
  simp only [V0,sevalprocAttr,hfr]
  exact hK _ L1 bs ck R false (by simp only [V0,sevalprocAttr,hfr]) hhit.symm fun _=>hL1
theorem sha1_run (hS:NoS S) {m D:Nat} {out:yLM} (f:Ft) (L:List (Int × Int)) (P J:yLO) (bs:List Nat) (ck:Nat) (hm:f.parts.l.length+10<=m):∃ L' bs' ck' R,(∀ ownV id,callN Ftab S (m+1) D out ownV (P++.map (pKs L) (pVs L) bs ck::.cells [.mapM D P.length]::J) id 50 [.agg f.c,.ptrM D (P.length+1) 0]=some (.x,.bool (hitB L (keysF f)),P++.map (pKs L') (pVs L') bs' ck'::.cells [.mapM D P.length]::(J++R)))/\(hitB L (keysF f)=false->L'=L++keysF f):=by
 have main:∃ v own',(∀ id,callN Ftab S (m+1) D out [] (P++.map (pKs L) (pVs L) bs ck::.cells [.mapM D P.length]::J) id 50 [.agg f.c,.ptrM D (P.length+1) 0]=some (.x,v,own'))/\(v=.bool (hitB L (keysF f))/\∃ L' bs' ck' R,own'=P++.map (pKs L') (pVs L') bs' ck'::.cells [.mapM D P.length]::(J++R)/\(hitB L (keysF f)=false->L'=L++keysF f)):=by
  refine zt (i:=i50) (ns hS (by rfl)) rfl rfl (lb rfl) fun t hfr=>?_
  simp only [V2,Nat.reduceAdd,i50,Ft.c,zg] at hfr
  suffices hsuf:∀ K:yKM,(∀ t' L' bs' ck' R b,Slots 33 t' [(3,.bool b)]->b=hitB L (keysF f)->(b=false->L'=L++keysF f)->K .ret ⟨t',P++.map (pKs L') (pVs L') bs' ck'::.cells [.mapM D P.length]::(J++R)⟩)->Ex (callN Ftab S m) D out m i50.body K ⟨t,P++.map (pKs L) (pVs L) bs ck::.cells [.mapM D P.length]::J⟩ from hsuf _ fun t' L' bs' ck' R b ht hb hb2=>by
   simp only [zd,zh] at ht
   simp only [i50,V0,sevalprocAttr,ht,ze,ZE]
   exact ⟨_,rfl,by rw [hb],L',bs',ck',R,rfl,fun h=>hb2 (hb.trans h)⟩
  intro K fin
  have c0:=YN hS f.kind m (by omega)
  simp only [zg] at c0
  have g1:∀ (a b c:IObj) (r:yLO),(P++a::b::(J++c::r))[P.length+(J.length+1+1)]?=some c:=fun a b c r=>mid_get (by rw [zcb (zcf _),zea]; rfl)
  have s1:∀ (a b c v:IObj) (r:yLO),(P++a::b::(J++c::r)).set (P.length+(J.length+1+1)) v=P++a::b::(J++v::r):=fun a b c v r=>by
   rw [mid_set,zdl _ _ (zcf _),zea,List.set_cons_zero]
  have hT:=fun K kind J j hkey hj t hfr hK=>@sha_tail S hS m D out K f kind L P J bs ck j hm hkey hj t hfr hK
  rw [show i50.body=.seq (i50.body.sub [0]) (.seq (i50.body.sub [1,0]) (.seq (i50.body.sub [1,1,0]) (i50.body.sub [1,1,1]))) from rfl]
  generalize i50.body.sub [1,1,1]=T at hT ⊢
  cases h2:shapeI f.kind==2
  ·cases h3:shapeI f.kind==3
   ·have hkey:keysF f=f.parts.l.map fun x=>(0,x):=by simp [keysF,kindZ,h2,h3]
    simp only [i50,IC.sub,V0,sevalprocAttr,hfr,c0,g1,s1,h2,h3]
    refine hT _ 0 _ J.length hkey (by rw [zcb (zcf _),zea]; rfl) _ (by simp only [V0,sevalprocAttr,hfr]) fun t' L' bs' ck' R b h1 h2 h3=>?_
    rw [zcy]
    exact fin _ _ _ _ _ _ h1 h2 h3
   ·have hkey:keysF f=f.parts.l.map fun x=>(f.kind,x):=by simp [keysF,kindZ,h2,h3]
    simp only [i50,IC.sub,V0,sevalprocAttr,hfr,c0,g1,s1,h2,h3]
    refine hT _ f.kind _ J.length hkey (by rw [zcb (zcf _),zea]; rfl) _ (by simp only [V0,sevalprocAttr,hfr]) fun t' L' bs' ck' R b h1 h2 h3=>?_
    rw [zcy]
    exact fin _ _ _ _ _ _ h1 h2 h3
  ·have hkey:keysF f=[]:=by simp [keysF,h2]
   simp only [i50,IC.sub,V0,sevalprocAttr,hfr,c0,g1,s1,h2]
   exact fin _ L bs ck _ false (by simp only [V0,sevalprocAttr,hfr]) (by rw [hkey]; rfl) fun _=>by rw [hkey,zda]
 obtain ⟨v,own',h1,rfl,L',bs',ck',R,rfl,h2⟩:=main
 exact ⟨L',bs',ck',R,fun ownV id=>(yr (ns hS (by rfl)) rfl rfl).trans (h1 0),h2⟩
end
end
section
theorem parts_few:∀ (l:List Ft),∃ B,∀ f∈l,f.parts.l.length<=B
 | []=>⟨0,fun _ h=>by simp at h⟩
 | x::l=>by
  obtain ⟨B,hB⟩:=parts_few l
  refine ⟨B+x.parts.l.length,fun f h=>?_⟩
  rcases zcx.1 h with rfl | h
  ·omega
  ·have:=hB f h
   omega
def rg (r:IV × Int × Bool):List IV:=[r.1,.int .i64 r.2.1]
def rulesL (nm:ByteArray->Int) (s:Sv) (D:Nat):List (IV × Int × Bool) :=
 [(.fn 19 [] [],3,s.ft.l.any bad1),(.fn 43 [] [.ptrM D 5 0,.ptrM D 4 0],10,disB s.ft.l),(.fn 21 [] [],2,s.ft.l.any bad3),(.fn 22 [] [],9,s.ft.l.any bad4),(.fn 23 [] [],14,s.ft.l.any (bad5 nm)),(.fn 25 [] [],1,s.ft.l.any bad6),(.fn 26 [] [.ptrM D 0 0],7,s.ft.l.any (bad7 s.pl)),(.fn 50 [] [.ptrM D 7 0],13,dupB s.ft.l)]
def rulesV (l:List (IV × Int × Bool)):Int:=((l.find? fun r=>r.2.2).map fun r=>r.2.1).getD 0
theorem rulesV_cons {r:IV × Int × Bool} {l:List (IV × Int × Bool)}:rulesV (r::l)=bif r.2.2 then r.2.1 else rulesV l:=by
 unfold rulesV
 rw [List.find?_cons]
 cases r.2.2 <;> rfl
theorem rulesV_eq (nm:ByteArray->Int) (s:Sv) (D:Nat):(bif decide ((128:Int)<(s.ft.l.length:Int)) then 3 else rulesV (rulesL nm s D))=ruleE nm s.pl s.ft.l:=by
 unfold rulesL ruleE
 simp only [rulesV_cons]
 rfl
def fcheckE (nm:ByteArray->Int) (e:Int) (s:Sv):Int:=bif e != 0 then e else ruleE nm s.pl s.ft.l
def fcPre (s:Sv) (D:Nat) (x5 x6:IObj):yLO:=[.cells s.c,.free,.free,.free,.cells s.c,x5,x6,.cells [.mapM D 6]]
theorem zab {n d:Nat} {own:yLO} {cs:List IV}:freezeA (n+1) d own (.agg cs)=(cs.mapM (freezeA n d own)).map .agg:=zck rfl rfl
theorem zac {n d:Nat} {own:yLO} {cs:List IV} {len sz:Nat} {tight:Bool}:freezeA (n+1) d own (.slC cs len sz tight)=(cs.mapM (freezeA n d own)).map (.slC · len sz tight):=zck rfl rfl
theorem YO {n d sz:Nat} {own:yLO} {α:Type} {g:α->List IV} (q:SlOf sz g) (hg:∀ a,∀ x∈g a,freezeA n d own x=some x):freezeA (n+1) d own q.v=some q.v:=by
 have hh:∀ (cs:List IV) (k:Nat) (v:IV),Sl sz cs k v->(∀ x∈cs,freezeA n d own x=some x)->freezeA (n+1) d own v=some v:=fun cs k v hs hc=>by
  cases hs with
  | nil=>rfl
  | row cs k tight hl=>rw [zac,zG hc]; rfl
 refine hh _ _ _ q.ok fun x hx=>?_
 obtain ⟨a,_,hxa⟩:=zdy.1 hx
 exact hg a x hxa
theorem ints_fA (n d:Nat) (own:yLO) (q:SlOf 1 intc):freezeA (n+2) d own q.v=some q.v:=YO q fun a x hx=>by
 simp only [intc,zg,zcx,zc1,or_false] at hx
 rw [hx]
 rfl
theorem ptl_fA (n d:Nat) (own:yLO) (q:SlOf 2 Pt.c):freezeA (n+2) d own q.v=some q.v:=YO q fun a x hx=>by
 simp only [Pt.c,zg,zcx,zc1,or_false] at hx
 rcases hx with rfl | rfl <;> rfl
theorem ft_fA (n d:Nat) (own:yLO) (f:Ft):∀ x∈f.c,freezeA (n+2) d own x=some x:=fun x hx=>by
 simp only [Ft.c,zg,zcx,zc1,or_false] at hx
 rcases hx with rfl | rfl | rfl | rfl | rfl
 ·rfl
 ·rfl
 ·rfl
 ·rfl
 ·exact ints_fA n d own f.parts
theorem pl_fA (p:Pn) (d:Nat) (own:yLO):[p.ns.v,p.as.v,p.fs.v].mapM (freezeA 11 d own)=some [p.ns.v,p.as.v,p.fs.v]:=by
 have h1:freezeA 11 d own p.ns.v=some p.ns.v:=YO p.ns fun a x hx=>by
  simp only [Nd.c,zg,zcx,zc1,or_false] at hx
  rcases hx with rfl | rfl | rfl <;> rfl
 have h2:freezeA 11 d own p.as.v=some p.as.v:=YO p.as fun a x hx=>by
  simp only [Ac.c,zg,zcx,zc1,or_false] at hx
  rcases hx with rfl | rfl | rfl | rfl | rfl | rfl
  ·rfl
  ·rfl
  ·rfl
  ·exact ptl_fA 8 d own a.via
  ·rfl
  ·rfl
 have h3:freezeA 11 d own p.fs.v=some p.fs.v:=ints_fA 9 d own p.fs
 exact zG fun x hx=>by
  simp only [zcx,zc1,or_false] at hx
  rcases hx with rfl | rfl | rfl
  ·exact h1
  ·exact h2
  ·exact h3
theorem sv_fA (s:Sv) (d:Nat) (own:yLO):[IV.agg s.c].mapM (freezeA 12 d own)=some [.agg s.c]:=by
 have hp:=pl_fA s.pl d own
 have h4:freezeA 11 d own s.ft.v=some s.ft.v:=YO s.ft fun a x hx=>ft_fA 8 d own a x hx
 have hall:s.c.mapM (freezeA 11 d own)=some s.c:=by
  have e:s.c=[s.pl.ns.v,s.pl.as.v,s.pl.fs.v]++[s.ft.v]:=rfl
  rw [e,List.mapM_append,hp,zdg,h4]
  rfl
 refine zG fun x hx=>?_
 rw [zd8] at hx
 rw [hx,zab,hall]
 rfl
section
variable {S:ySM}
theorem rules_call (hS:NoS S) {nm:ByteArray->Int} (hN:NmOK S nm) (s:Sv) (hv:FewVia s.pl):∃ M,∀ m,M<=m->∀ (D:Nat) (out:yLM) (i:Nat) (r:IV × Int × Bool),(rulesL nm s D)[i]?=some r->∀ (c:Int) (R:yLO),(i<=1->c=0) ->
  ∃ x5 x6 R',(∀ ownV id,callN Ftab S m D out ownV (fcPre s D (.cells [.int .i64 c]) (.map [] [] [] 0)++R) id 29 [s.ft.v,r.1]=some (.x,.bool r.2.2,fcPre s D x5 x6++(R++R')))/\(i<=6->∃ c':Int,x5=.cells [.int .i64 c']/\x6=.map [] [] [] 0/\(i=0->c'=0)):=by
 obtain ⟨B,hB⟩:=parts_few s.ft.l
 obtain ⟨N7,hN7⟩:=Yb s.ft.l (fun f _=>r7_run hS s hv f)
 refine ⟨N7+B+s.ft.l.length+60,fun m hm D out i r hr c R hc=>?_⟩
 obtain ⟨m,rfl⟩:∃ q,m=q+2:=⟨m - 2,by omega⟩
 have pure:∀ (q:Ft->Bool) (gf:FuncId) (caps:List IV) (x6:IObj),(∀ x∈s.ft.l,∀ R id,callN Ftab S m D out (fcPre s D (.cells [.int .i64 c]) x6++R) (fcPre s D (.cells [.int .i64 c]) x6++R) id gf (.agg x.c::caps)=some (.r,.bool (q x),fcPre s D (.cells [.int .i64 c]) x6++R))->∃ R',∀ ownV id,callN Ftab S (m+2) D out ownV (fcPre s D (.cells [.int .i64 c]) x6++R) id 29 [s.ft.v,.fn gf [] caps]=some (.x,.bool (s.ft.l.any q),fcPre s D (.cells [.int .i64 c]) x6++(R++R')):=fun q gf caps x6 h=>by
  obtain ⟨R',h'⟩:=conF_pure (D:=D) (out:=out) (m:=m) hS s.ft q gf caps (fcPre s D (.cells [.int .i64 c]) x6++R) (by omega) (fun x hx R2 id=>by rw [zcy]; exact h x hx _ id)
  exact ⟨R',fun ownV id=>by rw [h' ownV id,zcy]⟩
 match i,hr,hc with
 | 0,hr,hc =>
  cases hr
  obtain ⟨R',h⟩:=pure bad1 19 [] (.map [] [] [] 0) fun x hx R id=>at_r1 hS x m (by omega) D out _ _ id
  exact ⟨_,_,R',h,fun _=>⟨c,rfl,rfl,fun _=>hc (by omega)⟩⟩
 | 1,hr,hc =>
  cases hr
  obtain rfl:=hc (by omega)
  obtain ⟨own',h1,k,_,R',rfl⟩:=zby (D:=D) (out:=out) (m:=m) hS s.ft (disAt s.ft.l) 43 [.ptrM D 5 0,.ptrM D 4 0] (fun k J=>∃ R',J=fcPre s D (.cells [.int .i64 (k:Nat)]) (.map [] [] [] 0)++(R++R')) (fun k J R2 ⟨R',h⟩=>⟨R'++R2,by rw [h]; simp⟩) (by omega) (fun k x J hx _ ⟨R',hJ⟩=>by
   subst hJ
   obtain ⟨m,rfl⟩:∃ q,m=q+1:=⟨m - 1,by omega⟩
   obtain ⟨R2,h2⟩:=dis1_run (D:=D) (out:=out) (m:=m) hS s k x hx (by have:=hB x (List.mem_of_getElem? hx); omega) [.cells s.c,.free,.free,.free] ([.map [] [] [] 0,.cells [.mapM D 6]]++(R++R'))
   exact ⟨_,_,fun id=>h2 _ id,R'++R2,by simp [fcPre,zg]⟩) (fcPre s D (.cells [.int .i64 0]) (.map [] [] [] 0)++R) ⟨[],by simp⟩
  rw [disAt_dis] at h1
  exact ⟨_,_,R',h1,fun _=>⟨_,rfl,rfl,fun h=>absurd h (by omega)⟩⟩
 | 2,hr,hc =>
  cases hr
  obtain ⟨R',h⟩:=pure bad3 21 [] (.map [] [] [] 0) fun x hx R id=>at_r3 hS x m (by omega) D out _ _ id
  exact ⟨_,_,R',h,fun _=>⟨c,rfl,rfl,fun h=>absurd h (by omega)⟩⟩
 | 3,hr,hc =>
  cases hr
  obtain ⟨R',h⟩:=pure bad4 22 [] (.map [] [] [] 0) fun x hx R id=>at_r4 hS x m (by omega) D out _ _ id
  exact ⟨_,_,R',h,fun _=>⟨c,rfl,rfl,fun h=>absurd h (by omega)⟩⟩
 | 4,hr,hc =>
  cases hr
  obtain ⟨R',h⟩:=pure (bad5 nm) 23 [] (.map [] [] [] 0) fun x hx R id=>at_r5 hS hN x m (by omega) D out _ _ id
  exact ⟨_,_,R',h,fun _=>⟨c,rfl,rfl,fun h=>absurd h (by omega)⟩⟩
 | 5,hr,hc =>
  cases hr
  obtain ⟨R',h⟩:=pure bad6 25 [] (.map [] [] [] 0) fun x hx R id=>at_r6 hS x m (by omega) D out _ _ id
  exact ⟨_,_,R',h,fun _=>⟨c,rfl,rfl,fun h=>absurd h (by omega)⟩⟩
 | 6,hr,hc =>
  cases hr
  obtain ⟨R',h⟩:=pure (bad7 s.pl) 26 [.ptrM D 0 0] (.map [] [] [] 0) fun x hx R id=>hN7 x hx m (by omega) D out _ id _ rfl
  exact ⟨_,_,R',h,fun _=>⟨c,rfl,rfl,fun h=>absurd h (by omega)⟩⟩
 | 7,hr,hc =>
  cases hr
  obtain ⟨own',h1,k,_,L,bs,ck,R',rfl,_⟩:=zby (D:=D) (out:=out) (m:=m) hS s.ft (hitAt s.ft.l) 50 [.ptrM D 7 0] (fun k J=>∃ L bs ck R',J=fcPre s D (.cells [.int .i64 c]) (.map (pKs L) (pVs L) bs ck)++(R++R')/\(anyTo (hitAt s.ft.l) k=false->L=(s.ft.l.take k).flatMap keysF)) (fun k J R2 ⟨L,bs,ck,R',h,h2⟩=>⟨L,bs,ck,R'++R2,by rw [h]; simp,h2⟩) (by omega) (fun k x J hx hk ⟨L,bs,ck,R',hJ,hL⟩=>by
   subst hJ
   obtain rfl:=hL hk
   obtain ⟨m,rfl⟩:∃ q,m=q+1:=⟨m - 1,by omega⟩
   obtain ⟨L',bs',ck',R2,h2,h3⟩:=sha1_run (D:=D) (out:=out) (m:=m) hS x ((s.ft.l.take k).flatMap keysF) [.cells s.c,.free,.free,.free,.cells s.c,.cells [.int .i64 c]] (R++R') bs ck (by have:=hB x (List.mem_of_getElem? hx); omega)
   have e:hitAt s.ft.l k=hitB ((s.ft.l.take k).flatMap keysF) (keysF x):=by simp [hitAt,hx]
   rw [e]
   refine ⟨_,_,fun id=>h2 _ id,L',bs',ck',R'++R2,by simp [fcPre],fun ha=>?_⟩
   rw [Yf,Bool.or_eq_false_iff,e] at ha
   rw [h3 ha.2,take_flat hx]) (fcPre s D (.cells [.int .i64 c]) (.map [] [] [] 0)++R) ⟨[],[],0,[],by simp [pKs,pVs],fun _=>by simp⟩
  rw [hitAt_dup] at h1
  exact ⟨_,_,R',h1,fun h=>absurd h (by omega)⟩
 | i+8,hr,hc=>simp [rulesL] at hr
theorem YP (hS:NoS S) {nm:ByteArray->Int} (hN:NmOK S nm) (s:Sv) (hv:FewVia s.pl) {e:Int} {N0:Nat} (hR:GivesN S N0 18 [.agg s.pl.c] (.int .i64 e)):∃ N,GivesN S N 6 [.agg s.c] (.int .i64 (fcheckE nm e s)):=by
 obtain ⟨M,hM⟩:=rules_call hS hN s hv
 refine ⟨N0+M+30,gives_m03 (i:=i6) (ns hS (by rfl)) rfl (by first | exact .inl rfl | exact .inr rfl) (lb rfl) (N0+M+29) (by omega) zy (fun _=>rfl) (fun d own=>sv_fA s d own) fun m hm d out t hfr=>?_⟩
 simp only [V2,Nat.reduceAdd,i6,Sv.c] at hfr
 have c0:=hR m (by omega)
 simp only [Pn.c] at c0
 unfold fcheckE
 cases he:e != 0
 rotate_left
 ·simp only [i6,V0,Nat.reduceLT,Nat.reduceAdd,Nat.reduceMul,Nat.reduceLeDiff,Nat.reduceEqDiff,reduceCtorEq,hfr,c0,he,cond_true]
 cases hl:decide ((128:Int)<(s.ft.l.length:Int))
 rotate_left
 ·have hr:ruleE nm s.pl s.ft.l=3:=by unfold ruleE; rw [hl]; rfl
  simp only [i6,V0,Nat.reduceLT,Nat.reduceAdd,Nat.reduceMul,Nat.reduceLeDiff,Nat.reduceEqDiff,reduceCtorEq,hfr,c0,he,gt_iff_lt,hl,hr,cond_true,cond_false]
 have hr:ruleE nm s.pl s.ft.l=rulesV (rulesL nm s d):=by rw [← rulesV_eq nm s d,hl]; rfl
 obtain ⟨m1,rfl⟩:∃ q,m=q+1:=⟨m - 1,by omega⟩
 have c1:∀ ownV id,callN Ftab S (m1+1) d out ownV [.cells s.c,.free,.free,.free] id 20 [.agg s.c]=some (.x,.fn 43 [] [.ptrM d 5 0,.ptrM d 4 0],[.cells s.c,.free,.free,.free,.cells s.c,.cells [.int .i64 0]]):=fun ownV id=>dis_run (D:=d) (out:=out) (m:=m1) hS (by omega) s [.cells s.c,.free,.free,.free] ownV id
 have c2:∀ ownV id,callN Ftab S (m1+1) d out ownV [.cells s.c,.free,.free,.free,.cells s.c,.cells [.int .i64 0]] id 28 []=some (.x,.fn 50 [] [.ptrM d 7 0],fcPre s d (.cells [.int .i64 0]) (.map [] [] [] 0)):=fun ownV id=>sha_run (D:=d) (out:=out) (m:=m1) hS (by omega) [.cells s.c,.free,.free,.free,.cells s.c,.cells [.int .i64 0]] ownV id
 have cC:(rulesL nm s d).flatMap rg=[.fn 19 [] [],.int .i64 3,.fn 43 [] [.ptrM d 5 0,.ptrM d 4 0],.int .i64 10,.fn 21 [] [],.int .i64 2,.fn 22 [] [],.int .i64 9,.fn 23 [] [],.int .i64 14,.fn 25 [] [],.int .i64 1,.fn 26 [] [.ptrM d 0 0],.int .i64 7,.fn 50 [] [.ptrM d 7 0],.int .i64 13]:=rfl
 have hlen:(rulesL nm s d).length=8:=rfl
 have hcall:=fun i r hr c R hc=>hM (m1+1) (by omega) d out i r hr c R hc
 simp only [Sv.c] at c1 c2
 rw [hr]
 have cfn:∀ a b c,(IV.fn a b c).cells=[.fn a b c]:=fun a b c=>rfl
 have rep8:∀ a b:IV,rep [a,b] 8=[a,b,a,b,a,b,a,b,a,b,a,b,a,b,a,b]:=fun a b=>rfl
 simp only [i6,V0,Nat.reduceLT,Nat.reduceAdd,Nat.reduceMul,Nat.reduceLeDiff,Nat.reduceEqDiff,reduceCtorEq,hfr,c0,he,gt_iff_lt,hl,c1,c2,cfn,rep8,cond_false]
 have hfn:∀ r∈rulesL nm s d,∃ g b c,r.1=.fn g b c:=by
  intro r hr
  simp only [rulesL,zcx,zc1,or_false] at hr
  rcases hr with rfl | rfl | rfl | rfl | rfl | rfl | rfl | rfl <;> exact ⟨_,_,_,rfl⟩
 generalize rulesL nm s d=rl at cC hlen hcall hfn ⊢
 refine zb (fun jj st=>∃ (i:Nat) (O:yLO),8 - i<=jj/\i<=8/\(rl.take i).find? (fun r=>r.2.2)=none/\(i<=7->∃ (c:Int) (R:yLO),O=fcPre s d (.cells [.int .i64 c]) (.map [] [] [] 0)++R/\(i<=1->c=0))/\st.own=O/\Slots 43 st.t [(1,.ptrM d 0 0),(29,.slC (rl.flatMap rg) 8 2 true),(30,iv (8:Nat)),(31,iv i)]) 8 (by omega) ⟨0,_,by omega,by omega,rfl,fun _=>⟨0,[],by rw [zda],fun _=>rfl⟩,rfl,by simp only [V0,Nat.reduceLT,Nat.reduceAdd,Nat.reduceMul,Nat.reduceLeDiff,Nat.reduceEqDiff,reduceCtorEq,hfr,cC,zcp]⟩ ?_
 clear hfr
 rintro jj ⟨t,own⟩ KA ⟨i,O,hjj,hi,hfnd,hO,ho,hfr⟩ hnA heA hrA
 dsimp only at ho hfr
 subst ho
 simp only [V3] at hfr
 by_cases h:i<8
 ·obtain ⟨c,R,rfl,hc⟩:=hO (by omega)
  have hx:rl[i]?=some (rl[i]'(by omega)):=zb7 (by omega)
  generalize rl[i]'(by omega)=r at hx
  have hrd:rdN (rl.flatMap rg) (i*2) 2=some [r.1,.int .i64 r.2.1]:=(zc (g:=rg) (sz:=2) (fun _=>rfl) 0 2 hx (by omega)).trans rfl
  have hw:wrapI .i64 ((i:Int)+1)=((i+1:Nat):Int):=we
  have h8:decide ((i:Int)<((8:Nat):Int))=true:=by rw [decide_eq_true_iff]; omega
  obtain ⟨g1,g2,g3,hfe⟩:=hfn r (List.mem_of_getElem? hx)
  obtain ⟨x5,x6,R',h1,h2⟩:=hcall i r hx c (R++[.cells [r.1,.int .i64 r.2.1],.free]) hc
  rw [hfe] at hrd h1
  have hpl:∀ (x5 x6:IObj),(fcPre s d x5 x6).length=8:=fun x5 x6=>rfl
  have gA:∀ (x5 x6 a:IObj) (l:yLO),(fcPre s d x5 x6++(R++a::l))[8+R.length]?=some a:=fun x5 x6 a l=>by
   rw [zcb (by simp [fcPre]),show 8+R.length - (fcPre s d x5 x6).length=R.length by simp [fcPre],zal]
  have sA:∀ (x5 x6 a v:IObj) (l:yLO),(fcPre s d x5 x6++(R++a::l)).set (8+R.length) v=fcPre s d x5 x6++(R++v::l):=fun x5 x6 a v l=>by
   rw [zdl _ _ (by simp [fcPre]),show 8+R.length - (fcPre s d x5 x6).length=R.length by simp [fcPre],zam]
  have g00:∀ (x5 x6:IObj) (l:yLO),(fcPre s d x5 x6++l)[0]?=some (.cells [s.pl.ns.v,s.pl.as.v,s.pl.fs.v,s.ft.v]):=fun x5 x6 l=>rfl
  simp only [zcu,zc4,zcy] at h1
  cases hb:r.2.2
  ·rw [hb] at h1
   simp only [V0,Nat.reduceLT,Nat.reduceAdd,Nat.reduceMul,Nat.reduceLeDiff,Nat.reduceEqDiff,reduceCtorEq,hfr,h,z7,hrd,cfn,hpl,gA,sA,g00,h1,hw]
   refine hnA _ (8 - (i+1)) (Nat.lt_of_lt_of_le (Nat.sub_lt_sub_left h (Nat.lt_succ_self i)) hjj) ⟨i+1,_,zcf _,h,Zo hfnd hx hb,fun hi7=>?_,rfl,by simp only [V0,Nat.reduceLT,Nat.reduceAdd,Nat.reduceMul,Nat.reduceLeDiff,Nat.reduceEqDiff,reduceCtorEq,hfr,hw]⟩
   obtain ⟨c',rfl,rfl,h0⟩:=h2 (Nat.le_of_succ_le_succ hi7)
   exact ⟨c',_,rfl,fun hi1=>h0 (Nat.le_zero.1 (Nat.le_of_succ_le_succ hi1))⟩
  ·rw [hb] at h1
   simp only [V0,Nat.reduceLT,Nat.reduceAdd,Nat.reduceMul,Nat.reduceLeDiff,Nat.reduceEqDiff,reduceCtorEq,hfr,h,z7,hrd,cfn,hpl,gA,sA,g00,h1]
   refine hrA _ ?_
   have hv1:rulesV rl=r.2.1:=by
    unfold rulesV
    rw [ZK hfnd hx hb]
    rfl
   simp only [V0,Nat.reduceLT,Nat.reduceAdd,Nat.reduceMul,Nat.reduceLeDiff,Nat.reduceEqDiff,reduceCtorEq,hfr,hv1]
 ·obtain rfl:i=8:=by omega
  have hv0:rulesV rl=0:=by
   unfold rulesV
   rw [zcr (by omega)] at hfnd
   rw [hfnd]
   rfl
  have h8:decide (((8:Nat):Int)<((8:Nat):Int))=false:=by decide
  simp only [V0,Nat.reduceLT,Nat.reduceAdd,Nat.reduceMul,Nat.reduceLeDiff,Nat.reduceEqDiff,reduceCtorEq,hfr,h8]
  refine heA _ _ ?_
  simp only [V0,Nat.reduceLT,Nat.reduceAdd,Nat.reduceMul,Nat.reduceLeDiff,Nat.reduceEqDiff,reduceCtorEq,hfr,hv0]
end
end
section
def sumC {α:Type} (g:α->Nat) (l:List α):Nat:=(l.map g).sum
theorem sum_next {α:Type} {g:α->Nat} {l:List α} {i:Nat} {x:α} (hx:l[i]?=some x):sumC g (l.take (i+1))=sumC g (l.take i)+g x:=by
 unfold sumC
 rw [zd1,hx,Option.toList_some,List.map_append,List.sum_append]
 simp
theorem sum_le {α:Type} {g:α->Nat} (l:List α) (i:Nat):sumC g (l.take i)<=sumC g l:=by
 unfold sumC
 conv=>rhs; rw [← List.take_append_drop i l,List.map_append,List.sum_append]
 omega
theorem sum_mem {α:Type} {g:α->Nat}:∀ {l:List α} {x:α},x∈l->g x<=sumC g l
 | y::l,x,h=>by
  have e:sumC g (y::l)=g y+sumC g l:=by simp [sumC]
  rw [e]
  rcases zcx.1 h with rfl | h
  ·omega
  ·have:=sum_mem (g:=g) h
   omega
def viaC (a:Ac):Nat:=min a.via.l.length 101
def partC (f:Ft):Nat:=min f.parts.l.length 101
theorem w101:wrapI .i64 (100+1)=101:=by rw [zC]; decide
theorem min101 (n:Nat):(if (101:Int)<(n:Int) then (101:Int) else (n:Int))=((min n 101:Nat):Int):=by
 split <;> omega
def few14 (p:Pn):Bool:=decide (p.ns.l.length<=100)&&(decide (p.as.l.length<=100)&&(decide (p.fs.l.length<=100)&&decide (sumC viaC p.as.l<=100)))
def few17 (s:Sv):Bool:=few14 s.pl&&(decide (s.ft.l.length<=100)&&decide (sumC partC s.ft.l<=100))
theorem gt100 {n:Nat}:decide ((n:Int) > 100)=!decide (n<=100):=by
 rw [Bool.eq_iff_iff]
 simp
 omega
theorem le100 {n:Nat}:decide ((n:Int)<=100)=decide (n<=100):=by
 rw [Bool.eq_iff_iff,decide_eq_true_iff,decide_eq_true_iff]
 omega
section
variable {S:ySM}
theorem gives_few14 (hS:NoS S) (p:Pn):Gives Ftab S 30 [.agg p.c,iv 100] (.bool (few14 p)):=by
 refine zM (i:=i30) (k:=1) (ns hS (by rfl)) rfl rfl zx (p.as.l.length+5) (by omega) fun m hm d out=>?_
 unfold few14
 cases h1:decide (p.ns.l.length<=100)
 ·simp only [i30,W0,e_nilchk,e_pick,e_box,e_bslice,e_load,e_store,e_eqb,e_eqp,e_eqs,e_eqagg,e_conv,e_faddr,e_field,e_extract,e_call,e_mx,mkAt,List.replicate,look,mkv,binI,intBin,isShift,unI,fillI,cellV,Nat.reduceAdd,Nat.reduceMul,Nat.reduceLeDiff,reduceCtorEq,Nat.reduceEqDiff,Pn.c,gt100,h1,zcw]
 cases h2:decide (p.as.l.length<=100)
 ·simp only [i30,W0,e_nilchk,e_pick,e_box,e_bslice,e_load,e_store,e_eqb,e_eqp,e_eqs,e_eqagg,e_conv,e_faddr,e_field,e_extract,e_call,e_mx,mkAt,List.replicate,look,mkv,binI,intBin,isShift,unI,fillI,cellV,Nat.reduceAdd,Nat.reduceMul,Nat.reduceLeDiff,reduceCtorEq,Nat.reduceEqDiff,Pn.c,gt100,h1,h2,zcw]
 cases h3:decide (p.fs.l.length<=100)
 ·simp only [i30,W0,e_nilchk,e_pick,e_box,e_bslice,e_load,e_store,e_eqb,e_eqp,e_eqs,e_eqagg,e_conv,e_faddr,e_field,e_extract,e_call,e_mx,mkAt,List.replicate,look,mkv,binI,intBin,isShift,unI,fillI,cellV,Nat.reduceAdd,Nat.reduceMul,Nat.reduceLeDiff,reduceCtorEq,Nat.reduceEqDiff,Pn.c,gt100,h1,h2,h3,zcw]
 simp only [i30,W0,e_nilchk,e_pick,e_box,e_bslice,e_load,e_store,e_eqb,e_eqp,e_eqs,e_eqagg,e_conv,e_faddr,e_field,e_extract,e_call,e_mx,mkAt,List.replicate,look,mkv,binI,intBin,isShift,unI,fillI,cellV,Nat.reduceAdd,Nat.reduceMul,Nat.reduceLeDiff,reduceCtorEq,Nat.reduceEqDiff,Pn.c,gt100,h1,h2,h3]
 refine zb (fun j st=>∃ i J,j=p.as.l.length - i/\i<=p.as.l.length/\st.t.length=53/\getK (.tuple []) st.t 1=iv 100/\getK (.tuple []) st.t 2=.ptrM d 0 0/\getK (.tuple []) st.t 4=.bool false/\getK (.tuple []) st.t 5=iv ((sumC viaC (p.as.l.take i):Nat):Int)/\getK (.tuple []) st.t 6=iv i/\st.own=.cells [p.ns.v,p.as.v,p.fs.v]::J) p.as.l.length (by omega) ⟨0,[],by omega,by omega,rfl,rfl,rfl,rfl,rfl,rfl,rfl⟩ ?_
 rintro j ⟨t,own⟩ K ⟨i,J,rfl,hi,hl,k1,k2,k4,k5,k6,ho⟩ hn he hr
 dsimp only at hl k1 k2 k4 k5 k6 ho
 have ht:t=[getK (.tuple []) t 0,getK (.tuple []) t 1,getK (.tuple []) t 2,getK (.tuple []) t 3,getK (.tuple []) t 4,getK (.tuple []) t 5,getK (.tuple []) t 6,getK (.tuple []) t 7,getK (.tuple []) t 8,getK (.tuple []) t 9,getK (.tuple []) t 10,getK (.tuple []) t 11,getK (.tuple []) t 12,getK (.tuple []) t 13,getK (.tuple []) t 14,getK (.tuple []) t 15,getK (.tuple []) t 16,getK (.tuple []) t 17,getK (.tuple []) t 18,getK (.tuple []) t 19,getK (.tuple []) t 20,getK (.tuple []) t 21,getK (.tuple []) t 22,getK (.tuple []) t 23,getK (.tuple []) t 24,getK (.tuple []) t 25,getK (.tuple []) t 26,getK (.tuple []) t 27,getK (.tuple []) t 28,getK (.tuple []) t 29,getK (.tuple []) t 30,getK (.tuple []) t 31,getK (.tuple []) t 32,getK (.tuple []) t 33,getK (.tuple []) t 34,getK (.tuple []) t 35,getK (.tuple []) t 36,getK (.tuple []) t 37,getK (.tuple []) t 38,getK (.tuple []) t 39,getK (.tuple []) t 40,getK (.tuple []) t 41,getK (.tuple []) t 42,getK (.tuple []) t 43,getK (.tuple []) t 44,getK (.tuple []) t 45,getK (.tuple []) t 46,getK (.tuple []) t 47,getK (.tuple []) t 48,getK (.tuple []) t 49,getK (.tuple []) t 50,getK (.tuple []) t 51,getK (.tuple []) t 52]:=expand_t hl
 simp only [k1,k2,k4,k5,k6] at ht
 generalize getK (.tuple []) t=r at ht
 subst ht
 subst ho
 by_cases h:i<p.as.l.length
 ·obtain ⟨x,hx⟩:=gx (l:=p.as.l) (i:=i) h
  have hnx:=sum_next (g:=viaC) hx
  have htot:=sum_le (g:=viaC) p.as.l i
  have hmx:viaC x<=101:=Nat.min_le_right _ _
  have hrd:rdN (p.as.l.flatMap Ac.c) (i*6+3) 1=some [x.via.v]:=(zc Ac.c_len 3 1 hx (by omega)).trans rfl
  have hw:wrapI .i64 ((i:Int)+1)=((i+1:Nat):Int):=yF (by have:=p.as.few; omega)
  have hmin:(if (101:Int)<(x.via.l.length:Int) then (101:Int) else (x.via.l.length:Int))=((viaC x:Nat):Int):=min101 _
  generalize sumC viaC (p.as.l.take i)=n at *
  cases hle:decide ((n:Int)<=100)
  ·simp only [W0,e_nilchk,e_pick,e_box,e_bslice,e_load,e_store,e_eqb,e_eqp,e_eqs,e_eqagg,e_conv,e_faddr,e_field,e_extract,e_call,e_mx,mkAt,List.replicate,look,mkv,binI,intBin,isShift,unI,fillI,cellV,Nat.reduceAdd,Nat.reduceMul,Nat.reduceLeDiff,reduceCtorEq,Nat.reduceEqDiff,h,hle]
   refine he _ _ ?_
   simp only [W0,e_nilchk,e_pick,e_box,e_bslice,e_load,e_store,e_eqb,e_eqp,e_eqs,e_eqagg,e_conv,e_faddr,e_field,e_extract,e_call,e_mx,mkAt,List.replicate,look,mkv,binI,intBin,isShift,unI,fillI,cellV,Nat.reduceAdd,Nat.reduceMul,Nat.reduceLeDiff,reduceCtorEq,Nat.reduceEqDiff,hle]
   have hbig:decide (sumC viaC p.as.l<=100)=false:=by
    rw [decide_eq_false_iff_not] at hle ⊢
    omega
   rw [hbig]
   all_goals simp only [zdt]
  ·have hle':n<=100:=by
    rw [decide_eq_true_iff] at hle
    omega
   have hadd:wrapI .i64 ((n:Int)+((viaC x:Nat):Int))=((n+viaC x:Nat):Int):=Yz (by omega)
   simp only [W0,e_nilchk,e_pick,e_box,e_bslice,e_load,e_store,e_eqb,e_eqp,e_eqs,e_eqagg,e_conv,e_faddr,e_field,e_extract,e_call,e_mx,mkAt,List.replicate,look,mkv,binI,intBin,isShift,unI,fillI,cellV,Nat.reduceAdd,Nat.reduceMul,Nat.reduceLeDiff,reduceCtorEq,Nat.reduceEqDiff,h,hle,za p.as h,hrd,w101,hmin,hadd,hw]
   exact hn _ (p.as.l.length - (i+1)) (by omega) ⟨i+1,J,rfl,by omega,rfl,rfl,rfl,rfl,by rw [hnx]; rfl,rfl,rfl⟩
 ·simp only [W0,e_nilchk,e_pick,e_box,e_bslice,e_load,e_store,e_eqb,e_eqp,e_eqs,e_eqagg,e_conv,e_faddr,e_field,e_extract,e_call,e_mx,mkAt,List.replicate,look,mkv,binI,intBin,isShift,unI,fillI,cellV,Nat.reduceAdd,Nat.reduceMul,Nat.reduceLeDiff,reduceCtorEq,Nat.reduceEqDiff,h]
  refine he _ _ ?_
  rw [zcr (by omega)]
  simp only [W0,e_nilchk,e_pick,e_box,e_bslice,e_load,e_store,e_eqb,e_eqp,e_eqs,e_eqagg,e_conv,e_faddr,e_field,e_extract,e_call,e_mx,mkAt,List.replicate,look,mkv,binI,intBin,isShift,unI,fillI,cellV,Nat.reduceAdd,Nat.reduceMul,Nat.reduceLeDiff,reduceCtorEq,Nat.reduceEqDiff]
  rw [le100]
theorem gives_few17 (hS:NoS S) (s:Sv):Gives Ftab S 9 [.agg s.c,iv 100] (.bool (few17 s)):=by
 obtain ⟨N,hN⟩:=gives_few14 hS s.pl
 refine zM (i:=i9) (k:=1) (ns hS (by rfl)) rfl rfl zx (N+s.ft.l.length+5) (by omega) fun m hm d out=>?_
 have c1:=hN m (by omega)
 simp only [zg,Pn.c] at c1
 unfold few17
 cases h1:few14 s.pl
 ·simp only [h1] at c1
  simp only [i9,W0,e_nilchk,e_pick,e_box,e_bslice,e_load,e_store,e_eqb,e_eqp,e_eqs,e_eqagg,e_conv,e_faddr,e_field,e_extract,e_call,e_mx,mkAt,List.replicate,look,mkv,binI,intBin,isShift,unI,fillI,cellV,Nat.reduceAdd,Nat.reduceMul,Nat.reduceLeDiff,reduceCtorEq,Nat.reduceEqDiff,Sv.c,c1,zcw]
 simp only [h1] at c1
 cases h2:decide (s.ft.l.length<=100)
 ·simp only [i9,W0,e_nilchk,e_pick,e_box,e_bslice,e_load,e_store,e_eqb,e_eqp,e_eqs,e_eqagg,e_conv,e_faddr,e_field,e_extract,e_call,e_mx,mkAt,List.replicate,look,mkv,binI,intBin,isShift,unI,fillI,cellV,Nat.reduceAdd,Nat.reduceMul,Nat.reduceLeDiff,reduceCtorEq,Nat.reduceEqDiff,Sv.c,c1,gt100,h2,zcw]
 simp only [i9,W0,e_nilchk,e_pick,e_box,e_bslice,e_load,e_store,e_eqb,e_eqp,e_eqs,e_eqagg,e_conv,e_faddr,e_field,e_extract,e_call,e_mx,mkAt,List.replicate,look,mkv,binI,intBin,isShift,unI,fillI,cellV,Nat.reduceAdd,Nat.reduceMul,Nat.reduceLeDiff,reduceCtorEq,Nat.reduceEqDiff,Sv.c,c1,gt100,h2]
 refine zb (fun j st=>∃ i J,j=s.ft.l.length - i/\i<=s.ft.l.length/\st.t.length=46/\getK (.tuple []) st.t 1=iv 100/\getK (.tuple []) st.t 2=.ptrM d 0 0/\getK (.tuple []) st.t 4=.bool false/\getK (.tuple []) st.t 5=iv ((sumC partC (s.ft.l.take i):Nat):Int)/\getK (.tuple []) st.t 6=iv i/\st.own=.cells [s.pl.ns.v,s.pl.as.v,s.pl.fs.v,s.ft.v]::J) s.ft.l.length (by omega) ⟨0,[.free],by omega,by omega,rfl,rfl,rfl,rfl,rfl,rfl,rfl⟩ ?_
 rintro j ⟨t,own⟩ K ⟨i,J,rfl,hi,hl,k1,k2,k4,k5,k6,ho⟩ hn he hr
 dsimp only at hl k1 k2 k4 k5 k6 ho
 have ht:t=[getK (.tuple []) t 0,getK (.tuple []) t 1,getK (.tuple []) t 2,getK (.tuple []) t 3,getK (.tuple []) t 4,getK (.tuple []) t 5,getK (.tuple []) t 6,getK (.tuple []) t 7,getK (.tuple []) t 8,getK (.tuple []) t 9,getK (.tuple []) t 10,getK (.tuple []) t 11,getK (.tuple []) t 12,getK (.tuple []) t 13,getK (.tuple []) t 14,getK (.tuple []) t 15,getK (.tuple []) t 16,getK (.tuple []) t 17,getK (.tuple []) t 18,getK (.tuple []) t 19,getK (.tuple []) t 20,getK (.tuple []) t 21,getK (.tuple []) t 22,getK (.tuple []) t 23,getK (.tuple []) t 24,getK (.tuple []) t 25,getK (.tuple []) t 26,getK (.tuple []) t 27,getK (.tuple []) t 28,getK (.tuple []) t 29,getK (.tuple []) t 30,getK (.tuple []) t 31,getK (.tuple []) t 32,getK (.tuple []) t 33,getK (.tuple []) t 34,getK (.tuple []) t 35,getK (.tuple []) t 36,getK (.tuple []) t 37,getK (.tuple []) t 38,getK (.tuple []) t 39,getK (.tuple []) t 40,getK (.tuple []) t 41,getK (.tuple []) t 42,getK (.tuple []) t 43,getK (.tuple []) t 44,getK (.tuple []) t 45]:=expand_t hl
 simp only [k1,k2,k4,k5,k6] at ht
 generalize getK (.tuple []) t=r at ht
 subst ht
 subst ho
 by_cases h:i<s.ft.l.length
 ·obtain ⟨x,hx⟩:=gx (l:=s.ft.l) (i:=i) h
  have hnx:=sum_next (g:=partC) hx
  have htot:=sum_le (g:=partC) s.ft.l i
  have hmx:partC x<=101:=Nat.min_le_right _ _
  have hrd:rdN (s.ft.l.flatMap Ft.c) (i*5+4) 1=some [x.parts.v]:=(zc Ft.c_len 4 1 hx (by omega)).trans rfl
  have hw:wrapI .i64 ((i:Int)+1)=((i+1:Nat):Int):=yF (by have:=s.ft.few; omega)
  have hmin:(if (101:Int)<(x.parts.l.length:Int) then (101:Int) else (x.parts.l.length:Int))=((partC x:Nat):Int):=min101 _
  generalize sumC partC (s.ft.l.take i)=n at *
  cases hle:decide ((n:Int)<=100)
  ·simp only [W0,e_nilchk,e_pick,e_box,e_bslice,e_load,e_store,e_eqb,e_eqp,e_eqs,e_eqagg,e_conv,e_faddr,e_field,e_extract,e_call,e_mx,mkAt,List.replicate,look,mkv,binI,intBin,isShift,unI,fillI,cellV,Nat.reduceAdd,Nat.reduceMul,Nat.reduceLeDiff,reduceCtorEq,Nat.reduceEqDiff,h,hle]
   refine he _ _ ?_
   simp only [W0,e_nilchk,e_pick,e_box,e_bslice,e_load,e_store,e_eqb,e_eqp,e_eqs,e_eqagg,e_conv,e_faddr,e_field,e_extract,e_call,e_mx,mkAt,List.replicate,look,mkv,binI,intBin,isShift,unI,fillI,cellV,Nat.reduceAdd,Nat.reduceMul,Nat.reduceLeDiff,reduceCtorEq,Nat.reduceEqDiff,hle]
   have hbig:decide (sumC partC s.ft.l<=100)=false:=by
    rw [decide_eq_false_iff_not] at hle ⊢
    omega
   rw [hbig]
   all_goals simp only [zdt]
  ·have hle':n<=100:=by
    rw [decide_eq_true_iff] at hle
    omega
   have hadd:wrapI .i64 ((n:Int)+((partC x:Nat):Int))=((n+partC x:Nat):Int):=Yz (by omega)
   simp only [W0,e_nilchk,e_pick,e_box,e_bslice,e_load,e_store,e_eqb,e_eqp,e_eqs,e_eqagg,e_conv,e_faddr,e_field,e_extract,e_call,e_mx,mkAt,List.replicate,look,mkv,binI,intBin,isShift,unI,fillI,cellV,Nat.reduceAdd,Nat.reduceMul,Nat.reduceLeDiff,reduceCtorEq,Nat.reduceEqDiff,h,hle,za s.ft h,hrd,w101,hmin,hadd,hw]
   exact hn _ (s.ft.l.length - (i+1)) (by omega) ⟨i+1,J,rfl,by omega,rfl,rfl,rfl,rfl,by rw [hnx]; rfl,rfl,rfl⟩
 ·simp only [W0,e_nilchk,e_pick,e_box,e_bslice,e_load,e_store,e_eqb,e_eqp,e_eqs,e_eqagg,e_conv,e_faddr,e_field,e_extract,e_call,e_mx,mkAt,List.replicate,look,mkv,binI,intBin,isShift,unI,fillI,cellV,Nat.reduceAdd,Nat.reduceMul,Nat.reduceLeDiff,reduceCtorEq,Nat.reduceEqDiff,h]
  refine he _ _ ?_
  rw [zcr (by omega)]
  simp only [W0,e_nilchk,e_pick,e_box,e_bslice,e_load,e_store,e_eqb,e_eqp,e_eqs,e_eqagg,e_conv,e_faddr,e_field,e_extract,e_call,e_mx,mkAt,List.replicate,look,mkv,binI,intBin,isShift,unI,fillI,cellV,Nat.reduceAdd,Nat.reduceMul,Nat.reduceLeDiff,reduceCtorEq,Nat.reduceEqDiff]
  rw [le100]
theorem Yg {s:Sv} (h:few17 s=true):FewVia s.pl/\s.pl.as.l.length<=100/\s.ft.l.length<=100/\∀ f∈s.ft.l,f.parts.l.length<=100:=by
 simp only [few17,few14,zcm,decide_eq_true_iff] at h
 obtain ⟨⟨h1,h2,h3,h4⟩,h5,h6⟩:=h
 refine ⟨fun a ha=>?_,h2,h5,fun f hf=>?_⟩
 ·have h7:min a.via.l.length 101<=sumC viaC s.pl.as.l:=sum_mem (g:=viaC) ha
  omega
 ·have h7:min f.parts.l.length 101<=sumC partC s.ft.l:=sum_mem (g:=partC) hf
  omega
end
end
section
structure SvOK (S:ySM) (nm:ByteArray->Int) (s:Sv):Prop where
 few:few17 s=true
 plan:RgnOK s.pl 0
 fts:FtsOK nm s.pl s.ft.l
 call:∃ N,GivesN S N 18 [.agg s.pl.c] (.int .i64 0)
 chk:∃ N,GivesN S N 37 [.agg s.pl.c] (.int .i64 0)
theorem few14_ns {p:Pn} (h:few14 p=true):p.ns.l.length<=100/\p.as.l.length<=100:=by
 simp only [few14,zcm,decide_eq_true_iff] at h
 exact ⟨h.1,h.2.1⟩
theorem few_pl {s:Sv} (h:few17 s=true):few14 s.pl=true:=by
 simp only [few17,zcm] at h
 exact h.1
theorem gives_sum {F:FuncId->Option IFn} {S:ySM} {f:FuncId} {args:List IV} {v:IV} (h:S f args=some v):∀ m,1<=m->∀ d out ownV own id,callN F S m d out ownV own id f args=some (.r,v,own):=fun m hm d out ownV own id=>by
 obtain ⟨m,rfl⟩:∃ q,m=q+1:=⟨m - 1,by omega⟩
 simp only [callN,h]
section
variable {S:ySM}
theorem small_gives (hT:TabCl Ftab) (hSc:SumCl S) (hS:NoS S) (hSp:∀ args,S 37 args=none) (hSg:∀ args,S 18 args=none) {nm:ByteArray->Int} (hN:NmOK S nm) (s:Sv) :
  ∃ (b:Bool) (N:Nat),GivesN S N 4 [.agg s.c] (.bool b)/\(b=true->SvOK S nm s):=by
 obtain ⟨N1,hN1⟩:=gives_few17 hS s
 cases hf:few17 s
 ·rw [hf] at hN1
  refine ⟨false,N1+3,zj (i:=i4) (ns hS (by rfl)) rfl rfl (lb rfl) (N1+2) (by omega) zx fun m hm d out t hfr=>?_,fun h=>by cases h⟩
  simp only [V2,Nat.reduceAdd,i4,Sv.c] at hfr
  have c0:=hN1 m (by omega)
  simp only [Sv.c,zg] at c0
  simp only [i4,V0,sevalprocAttr,hfr,c0]
 ·rw [hf] at hN1
  obtain ⟨hv,ha,hft,hpa⟩:=Yg hf
  obtain ⟨hns,_⟩:=few14_ns (few_pl hf)
  have hna:2*s.pl.as.l.length*s.pl.ns.l.length<65536:=Nat.lt_of_le_of_lt (Nat.mul_le_mul (Nat.mul_le_mul_left 2 ha) hns) (by decide)
  obtain ⟨e,N2,hN2,hok,hP⟩:=region_gives hT hSc hS hSp hSg s.pl (by omega) hv (by omega) hna
  obtain ⟨N3,hN3⟩:=YP hS hN s hv hN2
  refine ⟨fcheckE nm e s==0,N1+N3+3,zj (i:=i4) (ns hS (by rfl)) rfl rfl (lb rfl) (N1+N3+2) (by omega) zx fun m hm d out t hfr=>?_,fun h=>?_⟩
  ·simp only [V2,Nat.reduceAdd,i4,Sv.c] at hfr
   have c0:=hN1 m (by omega)
   have c1:=hN3 m (by omega)
   simp only [Sv.c,zg] at c0 c1
   simp only [i4,V0,sevalprocAttr,hfr,c0,c1]
  ·have h0:fcheckE nm e s=0:=by simpa using h
   unfold fcheckE at h0
   cases he:e != 0
   ·rw [he] at h0
    obtain rfl:e=0:=by simpa using he
    exact ⟨hf,hok,zbx.1 h0,⟨N2,hN2⟩,hP rfl⟩
   ·rw [he] at h0
    simp only [cond_true] at h0
    rw [h0] at he
    cases he
theorem recheck (hS:NoS S) {nm:ByteArray->Int} (hN:NmOK S nm) {s t:Sv} (h:SvOK S nm s) (hp:t.pl=s.pl) (ht:FtsOK nm t.pl t.ft.l):∃ N,GivesN S N 6 [.agg t.c] (.int .i64 0):=by
 obtain ⟨N,hc⟩:=h.call
 rw [← hp] at hc
 obtain ⟨N2,h2⟩:=YP hS hN t (by rw [hp]; exact (Yg h.few).1) hc
 have e:fcheckE nm 0 t=0:=by
  unfold fcheckE
  exact zbx.2 ht
 rw [e] at h2
 exact ⟨N2,h2⟩
end
end
section
theorem flat_drop {α:Type} {g:α->List IV} {sz:Nat} (hg:∀ a,(g a).length=sz) {l:List α} {i:Nat} (h:i<=l.length):(l.flatMap g).drop (i*sz)=(l.drop i).flatMap g:=by
 conv=>lhs; rw [← List.take_append_drop i l,List.flatMap_append]
 rw [List.drop_left' (by rw [zu hg,zd2,Nat.min_eq_left h])]
theorem slice_lo {sz:Nat} {α:Type} {g:α->List IV} (hg:∀ a,(g a).length=sz) (q:SlOf sz g) {i:Nat} (h:i<=q.l.length) (h0:q.l.length≠0):∃ q2:SlOf sz g,q2.l=q.l.drop i/\∀ (t:List IV) (x:Opd),ρ t x=.int .i64 (i:Int)->sliceI sz t q.v (some x) none none=some q2.v:=by
 have hh:∀ (cs:List IV) (n:Nat) (v:IV),Sl sz cs n v->n≠0->i<=n->∃ tight,∀ (t:List IV) (x:Opd),ρ t x=.int .i64 (i:Int)->sliceI sz t v (some x) none none=some (.slC ((cs.drop (i*sz)).take ((n - i)*sz)) (n - i) sz tight):=fun cs n v hs hn hi=>by
  cases hs with
  | nil=>exact absurd rfl hn
  | row cs n tight hl =>
   refine ⟨tight&&n==n,fun t x hx=>?_⟩
   simp only [sliceI,optI,hx,z8,zf,Option.isSome_none,zco,if_false]
   rw [if_pos ⟨⟨zcf _,zcf _,hi⟩,trivial⟩]
 obtain ⟨tight,h1⟩:=hh _ _ _ q.ok h0 h
 have e:((q.l.flatMap g).drop (i*sz)).take ((q.l.length - i)*sz)=(q.l.drop i).flatMap g:=by
  rw [flat_drop hg h,zcr]
  rw [zu hg,List.length_drop]
  exact zcf _
 refine ⟨mkRow hg (q.l.drop i) (q.l.length - i) tight (by rw [List.length_drop]) (by have:=q.few; omega),rfl,fun t x hx=>?_⟩
 rw [h1 t x hx,e]
 rfl
theorem slOf_cl {sz n:Nat} {α:Type} {g:α->List IV} (hg:∀ a,(g a).all (clF (n+1))=true) (q:SlOf sz g):clF (n+2) q.v=true:=by
 have hh:∀ (cs:List IV) (k:Nat) (v:IV),Sl sz cs k v->cs.all (clF (n+1))=true->clF (n+2) v=true:=fun cs k v hs hc=>by
  cases hs with
  | nil=>rfl
  | row cs k tight hl=>exact hc
 refine hh _ _ _ q.ok ?_
 rw [zdh]
 intro x hx
 obtain ⟨a,_,hxa⟩:=zdy.1 hx
 exact zdh.1 (hg a) x hxa
theorem ns_cl (q:SlOf 3 Nd.c) (n:Nat):clF (n+2) q.v=true:=slOf_cl (fun a=>by simp [Nd.c,zg,clF]) q
theorem as_cl (q:SlOf 6 Ac.c) (n:Nat):clF (n+3) q.v=true:=slOf_cl (n:=n+1) (fun a=>by
  rw [zdh]
  intro x hx
  simp only [Ac.c,zg,zcx,zc1,or_false] at hx
  rcases hx with rfl | rfl | rfl | rfl | rfl | rfl <;> first | rfl | exact pts_cl a.via n) q
theorem YQ (q:SlOf 1 intc) (n:Nat):clF (n+2) q.v=true:=slOf_cl (fun a=>by simp [intc,zg,clF]) q
theorem ft_fz (a:Ft):∀ x∈a.c,Fz 2 x:=fun x hx=>by
 refine Zf (n:=2) ?_
 simp only [Ft.c,zg,zcx,zc1,or_false] at hx
 rcases hx with rfl | rfl | rfl | rfl | rfl <;> first | rfl | exact YQ a.parts 0
theorem ft_scal (xs:List Ft):(xs.flatMap Ft.c).all IV.scalar=true:=by
 rw [zdh]
 intro x hx
 obtain ⟨a,_,h⟩:=zdy.1 hx
 simp only [Ft.c,zg,zcx,zc1,or_false] at h
 rcases h with rfl | rfl | rfl | rfl | rfl <;> first | rfl | exact ZT _
theorem sv_fz {m d b n:Nat} {own:yLO} (p:Pn) (xs:List Ft) (hl:xs.length=n) (hm:6<=m) (hx:n<9223372036854775808) (h:own[b]?=some (.cells (xs.flatMap Ft.c))):freeze m d own (.agg [p.ns.v,p.as.v,p.fs.v,.slM d b 0 n n 5 false])=some (.agg [p.ns.v,p.as.v,p.fs.v,(mkRow Ft.c_len xs n false hl hx).v]):=by
 obtain ⟨m,rfl⟩:∃ q,m=q+1:=⟨m - 1,by omega⟩
 have f1:=Zf (ns_cl p.ns 0) m (by omega) d own
 have f2:=Zf (as_cl p.as 0) m (by omega) d own
 have f3:=Zf (YQ p.fs 0) m (by omega) d own
 have f4:freeze m d own (.slM d b 0 n n 5 false)=some (mkRow Ft.c_len xs n false hl hx).v:=y4 (k:=2) ft_fz (by omega) hl Ft.c_len h
 exact Ya (yS f1 (yS f2 (yS f3 (yS f4 mapM_n))))
theorem sv_fz0 {m d:Nat} {own:yLO} (p:Pn) (hm:6<=m):freeze m d own (.agg [p.ns.v,p.as.v,p.fs.v,.slC [] 0 5 true])=some (.agg [p.ns.v,p.as.v,p.fs.v,(mkRow Ft.c_len [] 0 true rfl (by omega)).v]):=by
 obtain ⟨m,rfl⟩:∃ q,m=q+2:=⟨m - 2,by omega⟩
 have f1:=Zf (ns_cl p.ns 0) (m+1) (by omega) d own
 have f2:=Zf (as_cl p.as 0) (m+1) (by omega) d own
 have f3:=Zf (YQ p.fs 0) (m+1) (by omega) d own
 exact Ya (yS f1 (yS f2 (yS f3 (yS rfl mapM_n))))
end
section
section
variable {S:ySM}
theorem without_gives (hS:NoS S) (s:Sv) (i:Nat) (hi:i<s.ft.l.length) (hl:s.ft.l.length<=1000):∃ w:SlOf 5 Ft.c,w.l=s.ft.l.eraseIdx i/\GivesN S 10 7 [.agg s.c,iv i] (.agg [s.pl.ns.v,s.pl.as.v,s.pl.fs.v,w.v]):=by
 obtain ⟨q1,hq1,hs1⟩:=zbk Ft.c_len s.ft hi
 obtain ⟨q2,hq2,hs2⟩:=slice_lo Ft.c_len s.ft (i:=i+1) (by omega) (by omega)
 have e1:q1.l.length=i:=by rw [hq1,zd2]; omega
 have e2:q2.l.length=s.ft.l.length - (i+1):=by rw [hq2,List.length_drop]
 have hxs:s.ft.l.eraseIdx i=q1.l++q2.l:=by rw [hq1,hq2,List.eraseIdx_eq_take_drop_succ]
 have hw:wrapI .i64 ((i:Int)+1)=((i+1:Nat):Int):=we
 have rep0:∀ l:List IV,rep l 0=[]:=fun l=>rfl
 have f1:=zu Ft.c_len (l:=q1.l)
 have f2:=zu Ft.c_len (l:=q2.l)
 have fz:∀ {m d n:Nat} {x y z:IObj},9<=m->(q1.l++q2.l).length=n->∀ k own,own[k]?=some (.cells (q1.l++q2.l |>.flatMap Ft.c))->freeze m d own (.agg [s.pl.ns.v,s.pl.as.v,s.pl.fs.v,.slM d k 0 n n 5 false])=some (.agg [s.pl.ns.v,s.pl.as.v,s.pl.fs.v,(mkRow Ft.c_len (s.ft.l.eraseIdx i) (s.ft.l.eraseIdx i).length false rfl (by rw [hxs,zce]; omega)).v]):=by
  rintro m d n x y z hm rfl k own ho
  rw [sv_fz s.pl _ rfl (by omega) (by rw [zce]; omega) ho]
  simp only [hxs]
 by_cases h0:q1.l.length=0/\q2.l.length=0
 ·obtain ⟨h1,h2⟩:=h0
  refine ⟨mkRow Ft.c_len [] 0 true rfl (by omega),by rw [hxs,zcv.1 h1,zcv.1 h2]; rfl,yd (i:=i7) (ns hS (by rfl)) rfl rfl (lb rfl) 9 fun m hm d out t hfr=>?_⟩
  simp only [V2,Nat.reduceAdd,i7,Sv.c,zg] at hfr
  simp only [i7,V0,sevalprocAttr,hfr,rep0,zw,zF,zJ,ym,hs1,hs2,hw,zT,h1,h2,zbg]
  refine ⟨by simp [comm],?_⟩
  simp only [V0,sevalprocAttr,hfr,zY]
  exact ⟨_,rfl,sv_fz0 s.pl (by omega)⟩
 refine ⟨mkRow Ft.c_len (s.ft.l.eraseIdx i) (s.ft.l.eraseIdx i).length false rfl (by rw [hxs,zce]; omega),rfl,yd (i:=i7) (ns hS (by rfl)) rfl rfl (lb rfl) 9 fun m hm d out t hfr=>?_⟩
 simp only [V2,Nat.reduceAdd,i7,Sv.c,zg] at hfr
 have ha:∀ (lk:Nat->Nat->Option IObj) (a b c:IObj) (q:SlOf 5 Ft.c) (k:Nat),k<2->q.l.length≠0->q.l.length<=1000->appendI d 2 lk [a,b,.free,.free] 5 (.slC [] 0 5 true) (q.l.flatMap Ft.c) q.l.length k=some (.a,.slM d (2+k) 0 q.l.length q.l.length 5 false,[a,b,.free,.free].set (2+k) (.cells (q.l.flatMap Ft.c))):=fun lk a b c q k hk h hl=>by
  rw [ZU h (by omega)]
  match k,hk with
  | 0,_=>rfl
  | 1,_=>rfl
 by_cases h2:q2.l.length=0
 ·have h1:q1.l.length≠0:=fun h=>h0 ⟨h,h2⟩
  have n2:=zcv.1 h2
  simp only [i7,V0,sevalprocAttr,hfr,rep0,zw,zF,zJ,ym,hs1,hs2,hw,zT,h2,ha _ _ _ .free q1 0 (by omega) h1 (by omega),zbh]
  refine ⟨by simp [comm],?_⟩
  simp only [V0,sevalprocAttr,hfr,zY]
  exact ⟨_,rfl,fz (x:=.free) (y:=.free) (z:=.free) (by omega) (by rw [n2,zda]) 2 _ (by rw [n2,zda]; rfl)⟩
 by_cases h1:q1.l.length=0
 ·have n1:=zcv.1 h1
  simp only [i7,V0,sevalprocAttr,hfr,rep0,zw,zF,zJ,ym,hs1,hs2,hw,zT,h1,zbg,ha _ _ _ .free q2 1 (by omega) h2 (by omega)]
  refine ⟨by simp [comm],?_⟩
  simp only [V0,sevalprocAttr,hfr,zY]
  exact ⟨_,rfl,fz (x:=.free) (y:=.free) (z:=.free) (by omega) (by rw [n1,zc4]) 3 _ (by rw [n1,zc4]; rfl)⟩
 have hk:∀ (a b:IObj),appendI d 2 (look d out (hide [0] 2 [a,b,.cells (q1.l.flatMap Ft.c),.free])) [a,b,.cells (q1.l.flatMap Ft.c),.free] 5 (.slM d 2 0 q1.l.length q1.l.length 5 false) (q2.l.flatMap Ft.c) q2.l.length 1=some (.k 2 3,.slM d 3 0 (q1.l.length+q2.l.length) (q1.l.length+q2.l.length) 5 false,[a,b,.gone,.cells (q1.l.flatMap Ft.c++q2.l.flatMap Ft.c)]):=fun a b=>by
  rw [y5 h2 (by omega) f1 (ft_scal _) (by unfold look; rw [if_pos rfl,zB]; rfl)]
  rfl
 simp only [i7,V0,sevalprocAttr,hfr,rep0,zw,zF,zJ,ym,hs1,hs2,hw,zT,ha _ _ _ .free q1 0 (by omega) h1 (by omega),hk]
 refine ⟨by simp [comm],?_⟩
 simp only [V0,sevalprocAttr,hfr,zY]
 exact ⟨_,rfl,fz (x:=.free) (y:=.free) (z:=.free) (by omega) zce 3 _ (by rw [List.flatMap_append]; rfl)⟩
end
end
end Go.Proofs.YtiiofgieclfikaaGreatDoor
end
