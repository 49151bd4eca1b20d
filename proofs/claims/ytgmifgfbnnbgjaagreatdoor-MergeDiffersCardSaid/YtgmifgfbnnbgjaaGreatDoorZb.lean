/-
  A part of the proof: the small machine, its simulation and its walks.
-/
import Derived.Orders
import Derived.LoopN
import Derived.Deep.Slices
import Derived.Carry
import Derived.ProofKit
import Derived.Test.YtgmifgfbnnbgjaaGreatDoorZa
set_option linter.unusedVariables false
set_option linter.unusedSimpArgs false
set_option maxRecDepth 1000000
set_option maxHeartbeats 3200000
section
namespace Go.Proofs.YtgmifgfbnnbgjaaGreatDoor
open Go Go.RowKit
section
section
variable {P:Program} {d:Nat} {out:yLM} {β:Pl} {W:World} {a:Act} {o:Oper} {t:List IV} {own own' ownV:yLO} {e:Eff} {v:IV} {n0:Nat}
theorem append_args {ts:Array TypeId} {st xt ty:TypeId} {args:Array Value} (h0:ts[0]?=some st) (h1:ts[1]?=some xt):Builtin.append_ ts ty args=Builtin.append_ #[st,xt] ty args:=by
 have e0:(#[st,xt]:Array TypeId)[0]?=some st:=rfl
 have e1:(#[st,xt]:Array TypeId)[1]?=some xt:=rfl
 unfold Builtin.append_
 rw [h0,h1,e0,e1]
theorem rs_new2 {id:Nat} {c:List IV} {cs:Array Value} {ty:TypeId} (hR:RS β (look d out own) W) (hf:own[id]?=some .free) (h:∀ (j:Nat) (x:IV),c[j]?=some x->∃ y,cs[j]?=some y/\VR β W x y) {W':World} (hW:∃ q,W'=({ W with drawn:=q }:World).alloc (.cells cs ty)) :
  RS (upd β d id (W.heap.size,0)) (look d out (own.set id (.cells c))) W'/\Fr d β W (upd β d id (W.heap.size,0)) W':=by
 obtain ⟨q,rfl⟩:=hW
 refine YI hR hf (fun l i s' o' hb _ _=>absurd (hR.here _ _ _ _ hb) (by omega)) (.inl (zaq _)) (fun k2 _ hk2=>Below.heap_alloc _ _ k2 hk2) (by simp) (by simp) (fun c t f hc=>absurd (za6.1 hc).1 (Nat.lt_irrefl _)) rfl rfl rfl (fun e=>?_)
 refine ⟨cs,ty,yL _ _,fun j x hx=>?_⟩
 obtain ⟨y,hy,hv⟩:=h j x hx
 exact ⟨y,hy,hv.ext e⟩
theorem moved {el:TypeId} {id need newCap sz:Nat} {cells:List IV} {ys:List Value} {rest:Array Value} (hR:RS β (look d out own) W) (hf:own[id]?=some .free) (hrel:VRs β W cells ys) (hlen:cells.length=need*sz) (hcap:need<=newCap) (hroom:newCap*sz<=(ys.toArray++rest).size) :
  ∃ β' W',W'=W.drew.alloc (.cells (ys.toArray++rest) el)/\RS β' (look d out (own.set id (.cells cells))) W'/\Fr d β W β' W'/\VR β' W' (.slM d id 0 need need sz false) (.slice (some ⟨W.heap.size,0,none⟩) need newCap):=by
 obtain ⟨hR',hF⟩:=rs_new2 (cs:=ys.toArray++rest) (ty:=el) (c:=cells) hR hf (fun j x hx=>by
  obtain ⟨y,hy,hv⟩:=hrel.get hx
  exact ⟨y,by rw [Array.getElem?_append_left (by simpa using (zal.1 hy).1)]; simpa using hy,hv⟩) (W':=W.drew.alloc (.cells (ys.toArray++rest) el)) ⟨W.drawn+1,rfl⟩
 exact ⟨_,_,rfl,hR',hF,.slM (s:=0) (zF _ _ _ _) (.inr rfl) (zaq _) hcap (fun h=>by simp at h) ⟨_,el,(0,0),yL _ _,by rw [zap]; exact hroom⟩⟩
theorem append_nil {st xt el ty:TypeId} {sz:Nat} {i:TypeInfo} {zv:Value} {x:Value} {new:List IV} {ys:List Value} {zeros:Bool} (hu:P.underlying st=some (.slice el)) (hi:P.info? el=some i) (hs:i.size=sz) (hx:Src P β W sz zv xt x 0 new ys zeros) :
  (Builtin.append_ #[st,xt] ty #[.slice none 0 0,x]).run P W=.ok (.slice none 0 0) W:=by
 subst hs
 cases zeros with
 | false =>
  obtain ⟨el',p,c,hux,rfl,hf⟩:=hx.s rfl
  have hf:=hf W rfl
  simp [Builtin.append_,run_underlying hu,run_underlying hux,sizeOf,typeInfo,hi,Builtin.lenOf,hf]
 | true =>
  obtain ⟨kq,k,m,hux,rfl,hm,hmn,hys⟩:=hx.z rfl
  have hm0:m=0:=by omega
  subst hm0
  have hw:IntKind.i64.wrap 0=0:=IntWalk.i64_in 0 (by omega)
  simp [Builtin.append_,run_underlying hu,run_underlying hux,sizeOf,typeInfo,hi,asInt,asIntOf,hw]
theorem ZT {own own':yLO} {i id:Nat} {o:IObj} {u v:IV} {e:Eff} (h:killAt own i id o u=some (e,v,own')):own[id]?=some .free/\e=.k i id/\v=u/\own'=(own.set i .gone).set id o:=by
 unfold killAt at h
 split at h
 ·rename_i hf
  cases h
  exact ⟨hf,rfl,rfl,zf _⟩
 ·simp at h
theorem append_sim {st xt el ty:TypeId} {sz n slot:Nat} {i:TypeInfo} {zv:Value} {s:IV} {sv x:Value} {new:List IV} {ys:List Value} {zeros:Bool} (hu:P.underlying st=some (.slice el)) (hi:P.info? el=some i) (hs:i.size=sz) (hsz:0<sz) (hb:i.bytes<=1024) (hz:i.zero=some zv) (hzc:zv.cells.size=sz)
  (hx:Src P β W sz zv xt x n new ys zeros) (hv:VR β W s sv) (hR:RS β (look d out own) W) (hV:Vis ownV own) (he:appendI d n0 (look d out ownV) own sz s new n slot=some (e,v,own')) :
  ∃ r β' W',(Builtin.append_ #[st,xt] ty #[sv,x]).run P W=.ok r W'/\VR β' W' v r/\RS β' (look d out own') W'/\Fr d β W β' W':=by
 have hyl:ys.length=n*sz:=by rw [← hx.rel.1]; exact hx.len
 unfold appendI at he
 split at he
 ·rename_i hn
  subst hn
  have hys:ys=[]:=zbb.1 (by rw [hyl,Nat.zero_mul])
  split at he
  ·cases he
   rw [yb hv]
   exact ⟨_,β,W,append_nil hu hi hs hx,.nilsl,hR,Fr.refl _ _ _⟩
  ·cases he
   obtain ⟨k,s1,cap',ad,_,_,_,hl,_,_,hq⟩:=slCI hv
   subst hq
   refine ⟨_,β,W,?_,hv,hR,Fr.refl _ _ _⟩
   rw [Zs hu hi hs hsz hb hz hx (by omega),hys]
   rfl
  ·cases he
   obtain ⟨k,s1,o',cap',hbb,_,hl,hc,_,hq⟩:=slMI hv
   subst hq
   refine ⟨_,β,W,?_,hv,hR,Fr.refl _ _ _⟩
   rw [Zs hu hi hs hsz hb hz hx (by omega),hys]
   rfl
  ·simp at he
 ·rename_i hn
  have grow:∀ {sLen sCap:Nat} {base:Option Addr} {olds':List IV} {olds:List Value} {own1:yLO} {id:Nat},sLen+n<=2 ^ 30->sCap<sLen+n->(∀ V:World,V.heap=W.heap->(Builtin.firstCells sz sLen (.slice base sLen sCap)).run P V=.ok olds.toArray V) ->
    VRs β W olds' olds->olds'.length=sLen*sz->RS β (look d out own1) W->own1[id]?=some .free ->
    ∃ r β' W',(Builtin.append_ #[st,xt] ty #[.slice base sLen sCap,x]).run P W=.ok r W'/\VR β' W' (.slM d id 0 (sLen+n) (sLen+n) sz false) r/\RS β' (look d out (own1.set id (.cells (olds'++new)))) W'/\Fr d β W β' W':=by
   intro sLen sCap base olds' olds own1 id hneed hcap ho hor hol hR1 hf
   obtain ⟨newCap,rest,hrun,hle,hrs⟩:=append_grow (ty:=ty) hu hi hs hsz hb hz hx hn hneed hcap ho hzc
   obtain ⟨β',W',hW',g1,g2,g3⟩:=moved (el:=el) (newCap:=newCap) (rest:=rest) (ys:=olds++ys) hR1 hf (hor.append hx.rel) (by rw [zaw,hol,hx.len,Nat.add_mul]) hle (by
    have h1:=hor.1
    simp only [Array.size_append,List.size_toArray,zaw,hrs,hyl,← h1,hol]
    rw [← Nat.add_mul,← Nat.add_mul]
    exact Nat.mul_le_mul_right _ (by omega))
   exact ⟨_,β',W',by rw [hrun,hW'],g3,g1,g2⟩
  split at he
  ·-- nil
   split at he
   ·rename_i hle
    obtain ⟨hf,rfl,rfl,rfl⟩:=zX he
    rw [yb hv]
    have:=grow (sLen:=0) (sCap:=0) (base:=none) (olds':=[]) (olds:=[]) (own1:=own) (by unfold bound at hle; omega) (by omega) (fun V _=>by simp [Builtin.firstCells]) .nil (by simp) hR hf
    simpa using this
   ·simp at he
  ·-- a list
   rename_i cs len sz0 tight
   split at he
   ·rename_i hle
    obtain ⟨hle,rfl⟩:=hle
    split at he
    ·rename_i old hold
     obtain ⟨hf,rfl,rfl,rfl⟩:=zX he
     obtain ⟨ad,cap',hq,hl,htt,hA,hcn⟩:=slC_at hv
     obtain ⟨g1,g2⟩:=Ze hold
     obtain ⟨olds,f1,f2⟩:=yi (P:=P) (W:=W) (sz:=sz) (len:=len) (cap:=cap') (x:=.slice (some ad) len cap') rfl (src_or hA g1 g2)
     rw [hq,zf]
     exact grow (by unfold bound at hle; omega) (by rw [htt rfl]; omega) f1 f2 g1 hR hf
    ·simp at he
   ·simp at he
  ·-- a block
   rename_i l bi off len cap sz0 tight
   split at he
   ·rename_i hle
    obtain ⟨hle,rfl⟩:=hle
    split at he
    ·rename_i c hg
     have hg':=Zp hV hg rfl
     obtain ⟨k,s1,o',cap',hbb,hoff,hl,hc,htt,hroom,hq⟩:=YK hv
     obtain ⟨_,_,_,_,_,_,_,_,_,hq',hA⟩:=sl_at hR hv hg'
     rw [hq] at hq'
     cases hq'
     split at he
     ·-- in place
      rename_i hcap
      split at he
      ·rename_i hh
       obtain ⟨rfl,hfit,hsc⟩:=hh
       cases he
       rw [zf,zf]
       have hcap0:cap≠0:=by omega
       obtain rfl:=hoff.resolve_left hcap0
       have hown:own[bi]?=some (.cells c):=by rw [zY] at hg'; exact hg'
       obtain ⟨c',ty',hh,hcc⟩:=hR.obj _ _ _ _ _ hbb hg'
       obtain ⟨c1,t1,f1,hh1,hrm⟩:=hroom
       rw [hh] at hh1
       cases hh1
       have hone:=Za hx.rel hsc
       have hfit2:off+s1+len*sz0+ys.length<=c'.size:=by
        rw [hyl,Nat.add_assoc,← Nat.add_mul]
        refine zbo (Nat.add_le_add_left (Nat.mul_le_mul_right sz0 (?_:len+n<=cap')) _) hrm
        omega
       have hrun:=run_storeCells_at (P:=P) k (off+s1+len*sz0) ty' ys 0 c' W hh (by omega) hone
       obtain ⟨W',hW'⟩:∃ W',W'=W.setRow k (c'.toList.take (off+s1+len*sz0+0)++ys++c'.toList.drop (off+s1+len*sz0+0+ys.length)).toArray:=⟨_,rfl⟩
       have hwl:off+len*sz0+new.length<=c.length:=by rw [hx.len,Nat.add_assoc,← Nat.add_mul]; exact hfit
       have hO:Ext β W β W'->OR β W' k s1 (.cells (wrN c (off+len*sz0) new)):=fun ex=>by
        refine ⟨_,ty',by rw [hW']; exact setRow_heap W k c' _ ty' _ hh,fun j z hz=>?_⟩
        rw [Zd _ _ _ _ hwl] at hz
        simp only [Nat.add_zero,List.getElem?_toArray]
        have hnl:new.length=ys.length:=hx.rel.1
        by_cases hj:off+len*sz0<=j/\j<off+len*sz0+new.length
        ·rw [if_pos hj] at hz
         obtain ⟨r,hr,hvr⟩:=hx.rel.get hz
         refine ⟨r,?_,hvr.ext ex⟩
         rw [za9,zas (by simp; omega),zar (by simp; omega)]
         rw [← hr]; congr 1; simp; omega
        ·rw [if_neg hj] at hz
         obtain ⟨r,hr,hvr⟩:=hcc j z hz
         refine ⟨r,?_,hvr.ext ex⟩
         rw [← hr,za9,← za2]
         by_cases hjl:j<off+len*sz0
         ·rw [zar (by simp; omega),zbt,if_pos (by omega)]
         ·rw [zas (by simp; omega),zas (by simp; omega),List.getElem?_drop]
          congr 1; simp; omega
       have hrow:∀ (c2:Array Value) (t2:TypeId) (f2:Nat × Nat),W.heap[k]?=some (.cells c2 t2 f2)->∃ c3,W'.heap[k]?=some (.cells c3 t2 f2)/\c3.size=c2.size:=fun c2 t2 f2 hc2=>by
        rw [hh] at hc2
        cases hc2
        exact ⟨_,by rw [hW']; exact setRow_heap W k c' _ ty' _ hh,by simp; omega⟩
       obtain ⟨hR',hF⟩:=rs_upd (W':=W') hR hown rfl hbb (fun k2 hk2=>by rw [hW']; exact setRow_other W k k2 _ hk2) (by rw [hW']; simp) hrow (by rw [hW']; rfl) (by rw [hW']; rfl) (by rw [hW']; rfl) hO rfl
       refine ⟨_,β,W',?_,.slM (s:=s1) (o':=off+s1) hbb (.inr rfl) hcap (zbo hc (zaq _)) htt (Room.ext ⟨c',ty',(0,0),hh,hrm⟩ hF.ext),hR',hF⟩
       rw [hq,Zs hu hi hs hsz hb hz hx (by omega),yD rfl,hrun,← hW']
       rfl
      ·simp at he
     ·rename_i hcap
      split at he
      ·rename_i old hold
       obtain ⟨g1,g2⟩:=Ze hold
       have hfc:∃ olds:List Value,(∀ V:World,V.heap=W.heap->(Builtin.firstCells sz0 len (.slice (some ⟨k,o',none⟩) len cap')).run P V=.ok olds.toArray V)/\VRs β W old olds:=by
        by_cases hc0:cap=0
        ·have hl0:len=0:=by omega
         subst hl0
         have:old=[]:=zbb.1 (by rw [g1,Nat.zero_mul])
         subst this
         exact ⟨[],fun V _=>run_firstCells_some V sz0 0 _ 0 cap' [] (by simp) (fun j y hj=>by simp at hj),.nil⟩
        ·exact yi (P:=P) (W:=W) (sz:=sz0) (len:=len) (cap:=cap') (x:=.slice (some ⟨k,o',none⟩) len cap') rfl (.inr ⟨_,off,rfl,hA hc0,g2,g1⟩)
       obtain ⟨olds,f1,f2⟩:=hfc
       split at he
       ·rename_i htg
        obtain ⟨hf,rfl,rfl,rfl⟩:=zX he
        rw [hq,zf]
        exact grow (by unfold bound at hle; omega) (by rw [htt htg]; omega) f1 f2 g1 hR hf
       ·split at he
        ·rename_i hld
         obtain ⟨rfl,hsc⟩:=hld
         obtain ⟨hf,rfl,rfl,rfl⟩:=ZT he
         rw [zf]
         have hown:own[bi]?=some (.cells c):=by rw [zY] at hg'; exact hg'
         have hne:bi≠n0+slot:=fun h=>by rw [h,hf] at hown; simp at hown
         have hR1:=rs_gone hR hown
         have hf1:(own.set bi .gone)[n0+slot]?=some .free:=by rw [List.getElem?_set,if_neg hne]; exact hf
         by_cases hin:len+n<=cap'
         ·have hone:=Za hx.rel hsc
          obtain ⟨c',ty',hh,hcc⟩:=hR.obj _ _ _ _ _ hbb hg'
          obtain ⟨c1,t1,fz1,hh1,hrm⟩:=hroom
          rw [hh] at hh1
          cases hh1
          have hfit2:o'+len*sz0+ys.length<=c'.size:=by
           rw [hyl,Nat.add_assoc,← Nat.add_mul]
           exact zbo (Nat.add_le_add_left (Nat.mul_le_mul_right sz0 hin) _) hrm
          have hrun:=run_storeCells_at (P:=P) k (o'+len*sz0) ty' ys 0 c' W hh (by omega) hone
          obtain ⟨W',hW'⟩:∃ W',W'=W.setRow k (c'.toList.take (o'+len*sz0+0)++ys++c'.toList.drop (o'+len*sz0+0+ys.length)).toArray:=⟨_,rfl⟩
          have hrow:∀ (c2:Array Value) (t2:TypeId) (f2:Nat × Nat),W.heap[k]?=some (.cells c2 t2 f2)->∃ c3,W'.heap[k]?=some (.cells c3 t2 f2)/\c3.size=c2.size:=fun c2 t2 f2 hc2=>by
           rw [hh] at hc2
           cases hc2
           exact ⟨_,by rw [hW']; exact setRow_heap W k c' _ ty' _ hh,by simp; omega⟩
          have hkl:k<W.heap.size:=hR.here _ _ _ _ hbb
          obtain ⟨hR',hF⟩:=YI (id:=n0+slot) (k:=k) (s:=o') (o:=.cells (old++new)) (W':=W') hR1 hf1 (fun l2 i2 s' o2 hb hgl hlv=>by
            by_cases h:l2=l/\i2=bi
            ·rw [h.1,h.2,zG hown] at hgl; cases hgl; simp [IObj.live] at hlv
            ·rw [zB h] at hgl
             exact h (hR.one _ _ _ _ _ _ _ _ _ hb hbb hgl hg' hlv rfl)) (.inr ⟨bi,s1,hbb⟩) (fun k2 hk2 _=>by rw [hW']; exact setRow_other W k k2 _ hk2)
           (by rw [hW']; simp) (by rw [hW']; simpa using hkl) hrow (by rw [hW']; rfl) (by rw [hW']; rfl) (by rw [hW']; rfl) (fun ex=>by
            refine ⟨_,ty',by rw [hW']; exact setRow_heap W k c' _ ty' _ hh,fun j z hz=>?_⟩
            simp only [Nat.add_zero,List.getElem?_toArray]
            have hnl:new.length=ys.length:=hx.rel.1
            by_cases hj:j<old.length
            ·rw [zar hj] at hz
             have hcap0:cap≠0:=by
              intro h0
              have:len=0:=by omega
              rw [g1,this,Nat.zero_mul] at hj
              omega
             obtain rfl:=hoff.resolve_left hcap0
             obtain ⟨r,hr,hvr⟩:=hcc _ z (g2 j z hz)
             refine ⟨r,?_,hvr.ext ex⟩
             rw [g1] at hj
             rw [za9,zar (by simp; omega),zbt,if_pos (by omega),← hr,← za2]
             congr 1; omega
            ·rw [zas (by omega)] at hz
             obtain ⟨r,hr,hvr⟩:=hx.rel.get hz
             have hjl:=(zal.1 hr).1
             refine ⟨r,?_,hvr.ext ex⟩
             rw [g1] at hj hr hjl
             rw [za9,zas (by simp; omega),zar (by simp; omega)]
             rw [← hr]; congr 1; simp; omega)
          refine ⟨_,_,W',?_,.slM (s:=o') (o':=o') (zF _ _ _ _) (.inr (by omega)) (zaq _) hin (fun h=>by simp at h) (Room.ext ⟨c',ty',(0,0),hh,hrm⟩ hF.ext),hR',hF⟩
          rw [hq,Zs hu hi hs hsz hb hz hx hin,yD rfl,hrun,← hW']
          rfl
         ·rw [hq]
          exact grow (by unfold bound at hle; omega) (by omega) f1 f2 g1 hR1 hf1
        ·simp at he
      ·simp at he
    ·simp at he
   ·simp at he
  ·simp at he
end
end
section
section
variable {P:Program} {d:Nat} {out:yLM} {β:Pl} {W:World} {a:Act} {o:Oper} {t:List IV} {own own' ownV:yLO} {e:Eff} {v:IV} {n0:Nat}
theorem ZU {ty:TypeId} {i:TypeInfo} (h:smallT P ty=true) (hi:P.info? ty=some i):i.bytes<=1024:=by
 unfold smallT at h
 rw [hi] at h
 exact of_decide_eq_true h
theorem s_append {c:Go.Call} {st xt el:TypeId} {xu:TypeDesc} {sz slot:Nat} {z:IV} {zeros:Bool} {s x:Operand} {s' x':Opd} (ho:o.op=.call c) (hcal:c.callee=.builtin .append) (hargs:c.args.toList=[s,x]) (h0:c.argTypes[0]?=some st) (h1:c.argTypes[1]?=some xt)
  (hu:P.underlying st=some (.slice el)) (hux:P.underlying xt=some xu) (hn:sizeT P el=some sz) (hz:zeroT P el=some z) (hsm:smallT P el=true) (hzl:z.cells.length=sz) (hsz:0<sz) (hk:(zeros=true/\∃ kq,xu=.int kq)∨(zeros=false/\xu=.slice el))
  (hs:cOpd s=some s') (hx:cOpd x=some x') (ht:TR β W t a.tmps) (hR:RS β (look d out own) W) (hV:Vis ownV own) (he:e_append d out n0 ownV own t z.cells sz zeros s' x' slot=some (e,v,own')):StepOK P d out β W a.eval o v own':=by
 have hv:=ht.eval hs
 obtain ⟨i,zv,hi,hzv,hzr⟩:=z8 (β:=β) (W:=W) hz
 obtain ⟨i',hi',hsize⟩:=zZ hn
 rw [hi] at hi'
 cases hi'
 have hb:=ZU hsm hi
 have hzc:zv.cells.size=sz:=by
  have:=(zA hzr).1
  rw [hzl] at this
  simpa using this.symm
 unfold e_append at he
 have fin:∀ {new:List IV} {n:Nat} {ys:List Value},Src P β W sz zv xt (a.eval x) n new ys zeros->appendI d n0 (look d out ownV) own sz (ρ t s') new n slot=some (e,v,own')->StepOK P d out β W a.eval o v own':=by
  intro new n ys hS hA
  obtain ⟨r,β',W',g1,g2,g3,g4⟩:=append_sim (ty:=o.type) hu hi hsize hsz hb hzv hzc hS hv hR hV hA
  refine ⟨.value r,β',W',?_,g2,g3,g4⟩
  rw [← append_args h0 h1] at g1
  have hargs':=two_args hargs
  simp only [execOp,ho,resolve,hcal,hargs',List.map_toArray,List.map_cons,List.map_nil,zat,zay,zan,invoke,builtin,g1]
 rcases hk with ⟨rfl,kq,rfl⟩ | ⟨rfl,rfl⟩
 ·rw [if_pos rfl] at he
  split at he
  ·rename_i new n hq
   cases hnn:natI (ρ t x') with
   | none=>rw [hnn] at hq; simp at hq
   | some m =>
    rw [hnn] at hq
    simp only [za7] at hq
    split at hq
    ·rename_i hle
     cases hq
     obtain ⟨ys,hS⟩:=src_zeros (sz:=sz) hux hzr hzl hsz hx ht hnn hle
     exact fin hS he
    ·simp at hq
  ·simp at he
 ·rw [if_neg (by simp)] at he
  split at he
  ·rename_i new n hq
   obtain ⟨ys,hS⟩:=src_slice (zv:=zv) hux hx ht hR hV hsz hq
   exact fin hS he
  ·simp at he
theorem YR {l i off k s1 o':Nat} {xs:List IV} {ys:List Value} {u:IV} (hR:RS β (look d out own) W) (hb:β l i=some (k,s1)) (ho:o'=off+s1) (hrel:VRs β W xs ys) (hroom:Room W k (o'+ys.length)) (he:fillAt d own l i off xs u=some (e,v,own')) :
  v=u/\∃ W',(storeCells ⟨k,o',none⟩ ys).run P W=.ok () W'/\RS β (look d out own') W'/\Fr d β W β W':=by
 unfold fillAt at he
 split at he
 rotate_left
 ·simp at he
 rename_i c hg
 split at he
 rotate_left
 ·simp at he
 rename_i hc
 obtain ⟨rfl,hfit,hsc⟩:=hc
 cases he
 rw [zf,zf]
 subst ho
 have hg':look l out own l i=some (.cells c):=by rw [zY]; exact hg
 obtain ⟨c',ty',hh,hcc⟩:=hR.obj _ _ _ _ _ hb hg'
 obtain ⟨c1,t1,f1,hh1,hrm⟩:=hroom
 rw [hh] at hh1
 cases hh1
 have hnl:xs.length=ys.length:=hrel.1
 have hone:=Za hrel hsc
 have hrun:=run_storeCells_at (P:=P) k (off+s1) ty' ys 0 c' W hh (by simp; omega) hone
 obtain ⟨W',hW'⟩:∃ W',W'=W.setRow k (c'.toList.take (off+s1+0)++ys++c'.toList.drop (off+s1+0+ys.length)).toArray:=⟨_,rfl⟩
 have hO:Ext β W β W'->OR β W' k s1 (.cells (wrN c off xs)):=fun ex=>by
  refine ⟨_,ty',by rw [hW']; exact setRow_heap W k c' _ ty' _ hh,fun j z hz=>?_⟩
  rw [Zd _ _ _ _ hfit] at hz
  simp only [Nat.add_zero,List.getElem?_toArray]
  by_cases hj:off<=j/\j<off+xs.length
  ·rw [if_pos hj] at hz
   obtain ⟨r,hr,hvr⟩:=hrel.get hz
   refine ⟨r,?_,hvr.ext ex⟩
   rw [za9,zas (by simp; omega),zar (by simp; omega)]
   rw [← hr]; congr 1; simp; omega
  ·rw [if_neg hj] at hz
   obtain ⟨r,hr,hvr⟩:=hcc j z hz
   refine ⟨r,?_,hvr.ext ex⟩
   rw [← hr,za9,← za2]
   by_cases hjl:j<off
   ·rw [zar (by simp; omega),zbt,if_pos (by omega)]
   ·rw [zas (by simp; omega),zas (by simp; omega),List.getElem?_drop]
    congr 1; simp; omega
 have hrow:∀ (c2:Array Value) (t2:TypeId) (f2:Nat × Nat),W.heap[k]?=some (.cells c2 t2 f2)->∃ c3,W'.heap[k]?=some (.cells c3 t2 f2)/\c3.size=c2.size:=fun c2 t2 f2 hc2=>by
  rw [hh] at hc2
  cases hc2
  exact ⟨_,by rw [hW']; exact setRow_heap W k c' _ ty' _ hh,by simp; omega⟩
 obtain ⟨hR',hF⟩:=rs_upd (W':=W') hR hg rfl hb (fun k2 hk2=>by rw [hW']; exact setRow_other W k k2 _ hk2) (by rw [hW']; simp) hrow (by rw [hW']; rfl) (by rw [hW']; rfl) (by rw [hW']; rfl) hO rfl
 exact ⟨rfl,W',by rw [hrun,← hW'],hR',hF⟩
theorem arg0 {ts:Array TypeId} {ty:TypeId} (h:ts[0]?=some ty) (r:TypeId) (args:Array Value):Builtin.clear_ ts r args=Builtin.clear_ #[ty] r args/\Builtin.copy_ ts r args=Builtin.copy_ #[ty] r args:=by
 have e0:(#[ty]:Array TypeId)[0]?=some ty:=rfl
 unfold Builtin.clear_ Builtin.copy_
 rw [h,e0]
 exact ⟨rfl,rfl⟩
theorem s_clr {c:Go.Call} {ty el:TypeId} {n:Nat} {z:IV} {x:Operand} {x':Opd} (ho:o.op=.call c) (hcal:c.callee=.builtin .clear) (hargs:c.args.toList=[x]) (h0:c.argTypes[0]?=some ty) (hu:P.underlying ty=some (.slice el)) (hn:sizeT P el=some n) (hz:zeroT P el=some z) (hzl:z.cells.length=n) (hn0:0<n)
  (hx:cOpd x=some x') (ht:TR β W t a.tmps) (hR:RS β (look d out own) W) (he:e_clr d own t z.cells n x'=some (e,v,own')):StepOK P d out β W a.eval o v own':=by
 have hv:=ht.eval hx
 obtain ⟨i,zv,hi,hzv,hzr⟩:=z8 (β:=β) (W:=W) hz
 have hzs:=zA hzr
 have fin:∀ {W':World},(Builtin.clear_ #[ty] o.type #[a.eval x]).run P W=.ok (.tuple #[]) W'->(execOp a.eval o).run P W=.ok (.value (.tuple #[])) W':=fun h=>by
  simp only [execOp,ho,resolve,hcal,one_arg hargs,List.map_toArray,List.map_cons,List.map_nil,zat,zay,zan,invoke,builtin,(arg0 h0 _ _).1,h]
 unfold e_clr at he
 split at he
 ·rename_i q1
  rw [q1] at hv
  cases he
  refine ⟨.value (.tuple #[]),β,W,fin ?_,?_,hR,Fr.refl _ _ _⟩
  ·rw [yb hv]
   simp [Builtin.clear_,run_underlying hu]
  ·exact .tuple rfl (fun _ _ _ h=>by simp at h)
 ·rename_i l i1 off len cap sz0 tg q1
  rw [q1] at hv
  obtain ⟨k,s1,o',cap',hb,hoff,hl,hc,htt,hroom,hq⟩:=YK hv
  split at he
  ·rename_i h00
   subst h00
   cases he
   refine ⟨.value (.tuple #[]),β,W,fin ?_,.tuple rfl (fun _ _ _ h=>by simp at h),hR,Fr.refl _ _ _⟩
   rw [hq]
   simp [Builtin.clear_,run_underlying hu]
  ·rename_i h00
   split at he
   ·rename_i hsz
    subst hsz
    have hlen:zv.cells.size=sz0:=by have:=hzs.1; simp at this; omega
    have hrel:=ZR (β:=β) (W:=W) hzs (by omega) len
    rw [hzl] at hrel
    have hys:(Builtin.zeroCells zv.cells len).toList.length=len*sz0:=by simp [Builtin.zeroCells,hlen]
    have hrel':VRs β W (rep z.cells len) (Builtin.zeroCells zv.cells len).toList:=by
     unfold Builtin.zeroCells; rw [hlen]; rw [hlen] at hrel; exact hrel
    obtain ⟨rfl,W',hw,hR',hF⟩:=YR (P:=P) hR hb (hoff.resolve_left (by omega)) hrel' (by
     obtain ⟨c1,t1,f1,hh,hrm⟩:=hroom
     refine ⟨c1,t1,f1,hh,?_⟩
     rw [hys]
     exact zbo (Nat.add_le_add_left (Nat.mul_le_mul_right _ (zbo hl hc)) _) hrm) he
    refine ⟨.value (.tuple #[]),β,W',fin ?_,.tuple rfl (fun _ _ _ h=>by simp at h),hR',hF⟩
    rw [hq]
    obtain ⟨m,rfl⟩:∃ m,len=m+1:=⟨len - 1,by omega⟩
    simp [Builtin.clear_,run_underlying hu,zeroValue,typeInfo,hi,hzv,hw]
   ·simp at he
 ·simp at he
theorem s_cpy {c:Go.Call} {ty el:TypeId} {n:Nat} {x y:Operand} {x' y':Opd} (ho:o.op=.call c) (hcal:c.callee=.builtin .copy) (hargs:c.args.toList=[x,y]) (h0:c.argTypes[0]?=some ty) (hu:P.underlying ty=some (.slice el)) (hn:sizeT P el=some n) (hn0:0<n)
  (hx:cOpd x=some x') (hy:cOpd y=some y') (ht:TR β W t a.tmps) (hR:RS β (look d out own) W) (hV:Vis ownV own) (he:e_cpy d out ownV own t n x' y'=some (e,v,own')):StepOK P d out β W a.eval o v own':=by
 have hv:=ht.eval hx
 obtain ⟨i,hi,hsize⟩:=zZ hn
 have fin:∀ {W':World} {r:Value},(Builtin.copy_ #[ty] o.type #[a.eval x,a.eval y]).run P W=.ok r W'->(execOp a.eval o).run P W=.ok (.value r) W':=fun h=>by
  simp only [execOp,ho,resolve,hcal,two_args hargs,List.map_toArray,List.map_cons,List.map_nil,zat,zay,zan,invoke,builtin,(arg0 h0 _ _).2,h]
 unfold e_cpy at he
 split at he
 rotate_left
 ·simp at he
 rename_i l i1 off len cap sz0 tg xs m q1 hq2
 rw [q1] at hv
 obtain ⟨k,s1,o',cap',hb,hoff,hl,hc,htt,hroom,hq⟩:=YK hv
 split at he
 rotate_left
 ·simp at he
 rename_i hh
 obtain ⟨rfl,rfl⟩:=hh
 obtain ⟨ys,hS⟩:=src_slice (zv:=.bool false) (xt:=ty) hu hy ht hR hV hn0 hq2
 obtain ⟨el',p,c2,_,hqy,hf⟩:=hS.s rfl
 have hf:=hf W rfl
 have hyl:ys.length=m*sz0:=by rw [← hS.rel.1]; exact hS.len
 have run:∀ {W':World},(storeCells ⟨k,o',none⟩ ys).run P W=.ok () W'->(Builtin.copy_ #[ty] o.type #[a.eval x,a.eval y]).run P W=.ok (.int .i64 m) W':=fun h=>by
  rw [hq,hqy]
  simp [Builtin.copy_,run_underlying hu,Builtin.lenOf,sizeOf,typeInfo,hi,hsize,hf,h,goInt]
 split at he
 ·rename_i h00
  subst h00
  cases he
  have hy0:ys=[]:=zbb.1 (by rw [hyl,Nat.zero_mul])
  subst hy0
  exact ⟨_,β,W,fin (run rfl),.int _ _,hR,Fr.refl _ _ _⟩
 ·rename_i h00
  obtain ⟨rfl,W',hw,hR',hF⟩:=YR (P:=P) hR hb (hoff.resolve_left (by omega)) hS.rel (by
   obtain ⟨c1,t1,f1,hh,hrm⟩:=hroom
   refine ⟨c1,t1,f1,hh,?_⟩
   rw [hyl]
   exact zbo (Nat.add_le_add_left (Nat.mul_le_mul_right _ (zbo hl hc)) _) hrm) he
  exact ⟨_,β,W',fin (run hw),.int _ _,hR',hF⟩
theorem s_mks {ty el:TypeId} {n slot:Nat} {z:IV} {x y:Operand} {x' y':Opd} (ho:o.op=.makeSlice ty x y) (hu:P.underlying ty=some (.slice el)) (hn:sizeT P el=some n) (hz:zeroT P el=some z) (hsm:smallT P el=true) (hzl:z.cells.length=n) (hn0:0<n) (hx:cOpd x=some x') (hy:cOpd y=some y')
  (ht:TR β W t a.tmps) (hR:RS β (look d out own) W) (he:e_mks d n0 own t z.cells n x' y' slot=some (e,v,own')):StepOK P d out β W a.eval o v own':=by
 unfold e_mks at he
 split at he
 rotate_left
 ·simp at he
 rename_i m m2 hm hm2
 split at he
 rotate_left
 ·simp at he
 rename_i hh
 obtain ⟨rfl,hle⟩:=hh
 obtain ⟨hf,rfl,rfl,rfl⟩:=zX he
 obtain ⟨i,zv,hi,hzv,hzr⟩:=z8 (β:=β) (W:=W) hz
 obtain ⟨ie,hie,hs⟩:=zZ hn
 obtain rfl:i=ie:=by rw [hi] at hie; exact zbh hie
 have hb:=ZU hsm hi
 have hzs:=zA hzr
 have hlen:zv.cells.size=n:=by have:=hzs.1; simp at this; omega
 have e0:VRs β W (rep z.cells m) (((Array.range (m*n)).map ((if m*n=0 then (#[]:Array Value) else zv.cells)[· % (if m*n=0 then (#[]:Array Value) else zv.cells).size]!)).toList):=by
  by_cases h0:m*n=0
  ·have hl0:m=0:=by rcases Nat.mul_eq_zero.1 h0 with h | h <;> omega
   subst hl0
   simp [rep]; exact .nil
  ·simp only [if_neg h0]
   have:=ZR (β:=β) (W:=W) hzs (by omega) m
   rw [hzl] at this; exact this
 obtain ⟨hR',hF⟩:=rs_new (ty:=el) hR hf e0 (W':=W.alloc (.cells _ el)) ⟨W.drawn,rfl⟩
 obtain ⟨k1,a1,h1,h2,h3⟩:=zU ht hx hm
 obtain ⟨k2,a2,g1,g2,g3⟩:=zU ht hy hm2
 rw [zf]
 refine ⟨.value (.slice (some ⟨W.heap.size,0,none⟩) m m),_,_,?_,?_,hR',hF⟩
 ·have hle':m<=1073741824:=hle
  have w1:IntKind.i64.wrap a1=a1:=IntWalk.i64_in a1 (by omega)
  have w2:IntKind.i64.wrap a2=a2:=IntWalk.i64_in a2 (by omega)
  have hbig:(i.bytes:Int)*a2<=1024*1073741824:=Int.mul_le_mul (by omega) (by omega) (by omega) (by omega)
  have hbn:m*i.bytes<=1073741824*1024:=Nat.mul_le_mul hle' hb
  have c1:¬ ((a2<0∨281474976710656<(i.bytes:Int)*a2)):=by omega
  have c2:¬ (a1<0):=by omega
  have c3:¬ (a2<a1):=by omega
  have hroom:¬ (m*i.bytes > roomBytes):=by unfold roomBytes; omega
  by_cases h0:m*n=0
  ·simp [execOp,ho,Instr.makeSlice,run_underlying hu,typeInfo,sizeOf,hi,hs,asInt,asIntOf,h1,g1,w1,w2,c1,c2,c3,askRoom,hroom,h3,g3,h0,newRow]
  ·simp [execOp,ho,Instr.makeSlice,run_underlying hu,typeInfo,zeroValue,sizeOf,hi,hs,hzv,asInt,asIntOf,h1,g1,w1,w2,c1,c2,c3,askRoom,hroom,h3,g3,h0,newRow]
 ·exact .slM (s:=0) (zF _ _ _ _) (.inr (by simp)) (zaq _) (zaq _) (fun h=>by simp at h) ⟨_,_,_,yL _ _,by simp⟩
theorem map_some {α γ:Type} {f:α->γ} {x:Option α} {y:γ} (h:x.map f=some y):∃ z,x=some z/\y=f z:=by
 cases x with
 | none=>simp at h
 | some z=>exact ⟨z,rfl,(zbh h).symm⟩
theorem zo (h:e=.p/\own'=own/\PureOK P β W a.eval o v) (hR:RS β (look d out own) W):StepOK P d out β W a.eval o v own':=by
 obtain ⟨_,rfl,h⟩:=h
 exact h.step hR
theorem yM (h:own'=own/\PureOK P β W a.eval o v) (hR:RS β (look d out own) W):StepOK P d out β W a.eval o v own':=by
 obtain ⟨rfl,h⟩:=h
 exact h.step hR
theorem cEq_sim {op:BinOp} {neg:Bool} {ty ty':TypeId} {u:TypeDesc} {x y:Operand} {x' y':Opd} {iop:IOp} {C:Call} (ho:o.op=.binOp op ty x y ty') (hop:op=if neg then .neq else .eql) (hu:P.underlying ty=some u) (hc:cBin.cEq P ty x' y' neg u=some iop)
  (ht:TR β W t a.tmps) (hx:cOpd x=some x') (hy:cOpd y=some y') (he:evOp C d out n0 ownV own t iop=some (e,v,own')):e=.p/\own'=own/\PureOK P β W a.eval o v:=by
 unfold cBin.cEq at hc
 split at hc
 ·cases hc
  exact s_eqb ho hop hu ht hx hy he
 ·cases hc
  exact s_eqp ho hop hu ht hx hy he
 ·cases hc
  exact s_eqs ho hop hu ht hx hy he
 ·split at hc
  ·simp at hc
  ·rename_i hg
   obtain ⟨ks,hk,rfl⟩:=map_some hc
   exact s_eqagg ho hop hu rfl (by simpa using hg) hk ht hx hy he
 ·split at hc
  ·simp at hc
  ·rename_i hg
   obtain ⟨ks,hk,rfl⟩:=map_some hc
   exact s_eqagg ho hop hu rfl (by simpa using hg) hk ht hx hy he
 ·simp at hc
theorem cBin_sim {op:BinOp} {ty ty':TypeId} {x y:Operand} {x' y':Opd} {iop:IOp} {C:Call} (ho:o.op=.binOp op ty x y ty') (hc:cBin P op ty x' y'=some iop)
  (ht:TR β W t a.tmps) (hx:cOpd x=some x') (hy:cOpd y=some y') (he:evOp C d out n0 ownV own t iop=some (e,v,own')):e=.p/\own'=own/\PureOK P β W a.eval o v:=by
 unfold cBin at hc
 split at hc
 ·cases hc
  exact s_bin ho ht hx hy he
 ·split at hc
  ·simp at hc
  ·cases hc
   exact s_bin ho ht hx hy he
 ·rename_i u _ _ hu
  split at hc
  ·exact cEq_sim (neg:=false) ho rfl hu hc ht hx hy he
  ·exact cEq_sim (neg:=true) ho rfl hu hc ht hx hy he
  ·simp at hc
 ·simp at hc
theorem args1 {c:Go.Call} {s:Opd} (h:allM cOpd c.args.toList=some [s]):∃ x,c.args.toList=[x]/\cOpd x=some s:=by
 obtain ⟨h1,h2⟩:=yY h
 match hl:c.args.toList,h1,h2 with
 | [x],_,h2=>obtain ⟨y,g1,g2⟩:=h2 0 x rfl; simp at g1; subst g1; exact ⟨x,rfl,g2⟩
theorem args2 {c:Go.Call} {s r:Opd} (h:allM cOpd c.args.toList=some [s,r]):∃ x y,c.args.toList=[x,y]/\cOpd x=some s/\cOpd y=some r:=by
 obtain ⟨h1,h2⟩:=yY h
 match hl:c.args.toList,h1,h2 with
 | [x,y],_,h2 =>
  obtain ⟨p,g1,g2⟩:=h2 0 x rfl
  obtain ⟨q,g3,g4⟩:=h2 1 y rfl
  simp at g1 g3; subst g1; subst g3; exact ⟨x,y,rfl,g2,g4⟩
theorem cCall_sim {c:Go.Call} {iop:IOp} {C:Call} {slot:Nat} (ho:o.op=.call c) (hc:cCall P c slot=some iop) (hcall:∀ f y xs,c.callee=.value f->cOpd f=some y->allM cOpd c.args.toList=some xs->iop=.call y xs slot->StepOK P d out β W a.eval o v own')
  (ht:TR β W t a.tmps) (hR:RS β (look d out own) W) (hV:Vis ownV own) (he:evOp C d out n0 ownV own t iop=some (e,v,own')):StepOK P d out β W a.eval o v own':=by
 unfold cCall at hc
 split at hc
 ·rename_i f xs h1 h2
  obtain ⟨y,hy,rfl⟩:=map_some hc
  exact hcall f y xs h1 hy h2 rfl
 ·rename_i s x h1 h2
  obtain ⟨s0,x0,hl,hs,hx⟩:=args2 h2
  split at hc
  ·rename_i st xt h3 h4
   split at hc
   ·rename_i el xu h5 h6
    split at hc
    ·rename_i n z h7 h8
     split at hc
     ·rename_i hh
      simp only [za3,beq_iff_eq,decide_eq_true_eq] at hh
      obtain ⟨⟨hsm,hzl⟩,hn⟩:=hh
      split at hc
      ·cases hc
       exact s_append ho h1 hl h3 h4 h5 h6 h7 h8 hsm hzl hn (.inl ⟨rfl,_,rfl⟩) hs hx ht hR hV he
      ·split at hc
       ·rename_i hee
        cases hc
        have:=beq_iff_eq.1 hee
        subst this
        exact s_append ho h1 hl h3 h4 h5 h6 h7 h8 hsm hzl hn (.inr ⟨rfl,rfl⟩) hs hx ht hR hV he
       ·simp at hc
      ·simp at hc
     ·simp at hc
    ·simp at hc
   ·simp at hc
  ·simp at hc
 ·rename_i x h1 h2
  obtain ⟨x0,hl,hx⟩:=args1 h2
  split at hc
  ·rename_i ty h3
   split at hc
   ·rename_i h4
    cases hc
    exact yM (s_len ho h1 hl h3 h4 (.inl ⟨rfl,rfl⟩) hx ht hR hV he) hR
   ·rename_i el h4
    cases hc
    exact yM (s_len ho h1 hl h3 h4 (.inr (.inl ⟨_,rfl,rfl⟩)) hx ht hR hV he) hR
   ·rename_i el h4
    cases hc
    exact yM (s_len ho h1 hl h3 h4 (.inr (.inr ⟨_,_,rfl,rfl⟩)) hx ht hR hV he) hR
   ·simp at hc
  ·simp at hc
 ·rename_i x h1 h2
  obtain ⟨x0,hl,hx⟩:=args1 h2
  split at hc
  ·rename_i ty h3
   split at hc
   ·rename_i el h4
    cases hc
    exact zo (s_cap ho h1 hl h3 h4 hx ht he) hR
   ·simp at hc
  ·simp at hc
 ·rename_i x h1 h2
  obtain ⟨x0,hl,hx⟩:=args1 h2
  split at hc
  ·rename_i ty h3
   split at hc
   ·rename_i el h4
    split at hc
    ·rename_i n z h5 h6
     split at hc
     ·rename_i hh
      simp only [za3,beq_iff_eq,decide_eq_true_eq] at hh
      cases hc
      exact s_clr ho h1 hl h3 h4 h5 h6 hh.1 hh.2 hx ht hR he
     ·simp at hc
    ·simp at hc
   ·simp at hc
  ·simp at hc
 ·rename_i x y h1 h2
  obtain ⟨x0,y0,hl,hx,hy⟩:=args2 h2
  split at hc
  ·rename_i ty h3
   split at hc
   ·rename_i el h4
    split at hc
    ·rename_i n h5
     split at hc
     ·rename_i hh
      cases hc
      exact s_cpy ho h1 hl h3 h4 h5 hh hx hy ht hR hV he
     ·simp at hc
    ·simp at hc
   ·simp at hc
  ·simp at hc
 ·rename_i x y h1 h2
  obtain ⟨x0,y0,hl,hx,hy⟩:=args2 h2
  cases hc
  exact zo (s_mx (isMax:=true) ho h1 hl hx hy ht he) hR
 ·rename_i x y h1 h2
  obtain ⟨x0,y0,hl,hx,hy⟩:=args2 h2
  cases hc
  exact zo (s_mx (isMax:=false) ho h1 hl hx hy ht he) hR
 ·simp at hc
theorem op_sim {iop:IOp} {C:Call} {slot:Nat} (hc:cOp P o.op slot=some iop) (hcall:∀ c f y xs,o.op=.call c->c.callee=.value f->cOpd f=some y->allM cOpd c.args.toList=some xs->iop=.call y xs slot->StepOK P d out β W a.eval o v own')
  (ht:TR β W t a.tmps) (hR:RS β (look d out own) W) (hV:Vis ownV own) (he:evOp C d out n0 ownV own t iop=some (e,v,own')):StepOK P d out β W a.eval o v own':=by
 cases ho:o.op
 all_goals rw [ho] at hc; simp only [cOp] at hc
 all_goals first
  | (simp at hc; done)
  | skip
 case call c=>exact cCall_sim ho hc (fun f y xs h1 h2 h3 h4=>hcall c f y xs ho h1 h2 h3 h4) ht hR hV he
 case move x =>
  obtain ⟨y,hx,rfl⟩:=map_some hc
  cases he
  exact (s_move ho ht hx).step hR
 case assign x =>
  obtain ⟨y,hx,rfl⟩:=map_some hc
  cases he
  exact (s_assign ho ht hx).step hR
 case nilCheck x =>
  obtain ⟨y,hx,rfl⟩:=map_some hc
  exact zo (s_nilchk ho ht hx he) hR
 case pick x y z =>
  split at hc
  ·rename_i h1 h2 h3
   cases hc
   exact zo (s_pick ho ht h1 h2 h3 he) hR
  ·simp at hc
 case alloc el =>
  obtain ⟨z,hz,rfl⟩:=map_some hc
  exact s_newv ho hz hR he
 case box ty x =>
  obtain ⟨y,hx,rfl⟩:=map_some hc
  exact s_box ho hx ht hR he
 case build ty parts =>
  split at hc
  ·rename_i fs z h1 h2
   split at hc
   ·rename_i h3
    obtain ⟨ps,h4,rfl⟩:=map_some hc
    exact zo (YN ho h1 h2 h3 h4 ht he) hR
   ·simp at hc
  ·rename_i h1 h2
   split at hc
   ·rename_i h3
    obtain ⟨ps,h4,rfl⟩:=map_some hc
    exact zo (s_build_array ho h1 h2 h3 h4 ht he) hR
   ·simp at hc
  ·simp at hc
 case buildSlice ty len parts =>
  split at hc
  ·rename_i el h1
   split at hc
   ·rename_i n z h2 h3
    split at hc
    ·rename_i h4
     obtain ⟨ps,h5,rfl⟩:=map_some hc
     cases hol:ownLit z.cells
     ·simp only [hol,zaz,if_false] at he
      obtain ⟨_,rfl,h⟩:=s_bslice (out:=out) (d:=d) ho h1 h3 h2 h4.1 h4.2.1 h4.2.2 h5 ht hR he
      exact h
     ·simp only [hol,if_true] at he
      exact s_mslice ho h1 h3 h2 h4.1 h4.2.1 h4.2.2 h5 ht hR he
    ·simp at hc
   ·simp at hc
  ·simp at hc
 case load ty x =>
  split at hc
  ·rename_i h1 h2
   cases hc
   exact yM (s_load ho h1 h2 ht hR hV he) hR
  ·simp at hc
 case store ty x y =>
  split at hc
  ·rename_i h1 h2 h3
   split at hc
   ·simp at hc
   ·rename_i h4
    cases hc
    exact s_store ho h1 h4 h2 h3 ht hR he
  ·simp at hc
 case binOp op ty x y ty' =>
  split at hc
  ·rename_i h1 h2
   exact zo (cBin_sim ho hc ht h1 h2 he) hR
  ·simp at hc
 case unOp op ty x =>
  obtain ⟨y,hx,rfl⟩:=map_some hc
  exact zo (s_un ho ht hx he) hR
 case convert s d x =>
  split at hc
  ·rename_i h1 h2 h3
   cases hc
   exact zo (s_conv ho h1 h2 ht h3 he) hR
  ·rename_i h1 h2 h3
   cases hc
   exact zo (s_cstr ho h1 h2 ht h3 he) hR
  ·simp at hc
 case makeFunc f xs ys =>
  cases f <;> simp only [cOp] at hc
  all_goals first
   | (simp at hc; done)
   | skip
  split at hc
  ·rename_i h1 h2
   cases hc
   cases he
   exact (s_mkfn ho ht h1 h2).step hR
  ·simp at hc
 case makeMap ty n =>
  cases n <;> simp only [cOp] at hc
  ·cases hc
   exact s_mkmap ho hR he
  ·simp at hc
 case makeSlice ty x y =>
  split at hc
  ·rename_i el x' y' h1 h2 h3
   split at hc
   ·rename_i n z h4 h5
    split at hc
    ·rename_i hh
     simp only [za3,beq_iff_eq,decide_eq_true_eq] at hh
     cases hc
     exact s_mks ho h1 h4 h5 hh.1.1 hh.1.2 hh.2 h2 h3 ht hR he
    ·simp at hc
   ·simp at hc
  ·simp at hc
 case slice ty x lo hi mx =>
  split at hc
  ·rename_i h1 h2 h3 h4 h5
   split at hc
   ·simp at hc
   ·rename_i h6
    obtain ⟨n,hn,rfl⟩:=map_some hc
    exact zo (s_slice ho h1 hn ht h2 h3 h4 h5 h6 he) hR
  ·rename_i h1 h2 h3 h4 h5
   cases hc
   cases mx with
   | none=>exact zo (s_sliceS ho h1 ht h2 h3 h4 he) hR
   | some m=>simp [cOpd?] at h5
  ·simp at hc
 case fieldAddr s x f =>
  split at hc
  ·rename_i fs y h1 h2
   split at hc
   ·rename_i fd h3
    split at hc
    ·rename_i n h4
     split at hc
     ·simp at hc
     ·rename_i h5
      cases hc
      exact zo (s_faddr ho h1 h3 h4 h5 ht h2 he) hR
    ·simp at hc
   ·simp at hc
  ·simp at hc
 case field s x f =>
  split at hc
  ·rename_i fs y h1 h2
   split at hc
   ·rename_i fd h3
    obtain ⟨⟨agg,n⟩,h4,rfl⟩:=map_some hc
    exact zo (s_field ho h1 h3 h4 ht h2 he) hR
   ·simp at hc
  ·simp at hc
 case indexAddr ty x ix =>
  split at hc
  ·rename_i h1 h2 h3
   obtain ⟨n,hn,rfl⟩:=map_some hc
   exact zo (s_iaddr ho h1 hn ht h2 h3 he) hR
  ·rename_i h1 h2 h3
   obtain ⟨n,hn,rfl⟩:=map_some hc
   exact zo (s_iaddrA ho h1 hn ht h2 h3 he) hR
  ·simp at hc
 case index ty x ix =>
  split at hc
  ·rename_i h1 h2 h3
   split at hc
   ·rename_i h4 h5
    split at hc
    ·rename_i h6
     subst h6
     cases hc
     exact zo (s_index ho h1 h4 h5 ht h2 h3 he) hR
    ·simp at hc
   ·simp at hc
  ·rename_i h1 h2 h3
   cases hc
   exact zo (s_indexS ho h1 ht h2 h3 he) hR
  ·simp at hc
 case lookup ty x ix ok =>
  split at hc
  ·rename_i h1 h2 h3
   split at hc
   ·rename_i h4 h5
    obtain ⟨z,hz,rfl⟩:=map_some hc
    exact yM (s_lookup ho h1 h4 h5 hz h2 h3 ht hR hV he) hR
   ·simp at hc
  ·simp at hc
 case mapUpdate ty m k w =>
  split at hc
  ·rename_i h1 h2 h3 h4
   split at hc
   ·rename_i h5 h6
    cases hc
    exact s_mapupd ho h1 h5 h6 h2 h3 h4 ht hR he
   ·simp at hc
  ·simp at hc
 case extract x i =>
  obtain ⟨y,hx,rfl⟩:=map_some hc
  exact zo (s_extract ho ht hx he) hR
 all_goals (cases hc; simp [evOp] at he)
end
end
section
def Seen (ownV own:yLO):Prop:=ownV.length=own.length/\∀ (i:Nat) (o:IObj),ownV[i]?=some o->own[i]?=some o∨o=.gone
structure Base (B:Nat) (W0:World) (β:Pl) (W:World):Prop where
 low:∀ l i k s,β l i=some (k,s)->B<=k
 size:B<=W.heap.size
 below:Below B W0 W
theorem Base.fr {B d:Nat} {W0 W W':World} {β β':Pl} (h:Base B W0 β W) (f:Fr d β W β' W'):Base B W0 β' W' where
 low l i k s hb:=by
  rcases f.fresh l i k s hb with hb | ⟨_,⟨i',s',hb⟩ | hk⟩
  ·exact h.low _ _ _ _ hb
  ·exact h.low _ _ _ _ hb
  ·exact zbo h.size hk
 size:=zbo h.size f.size
 below:=h.below.trans ⟨f.os,f.tape,f.output,f.size,fun k hk=>f.block k (Nat.lt_of_lt_of_le hk h.size) fun i s hb=>absurd (h.low _ _ _ _ hb) (by omega)⟩
def CallOK (P:Program) (B:Nat) (W0:World) (C:Call):Prop:=∀ (d:Nat) (out:yLM) (ownV own:yLO) (id:Nat) (f:FuncId) (args:List IV) (e:Eff) (v:IV) (own':yLO) (args':List Value) (β:Pl) (W:World),
 C d out ownV own id f args=some (e,v,own')->Base B W0 β W->Seen ownV own->RS β (look d out own) W->VRs β W args args' ->
  (∃ fn, P.funcs[f]? = some fn ∧ fn.name ≠ "runtime.NumGoroutine" ∧ fn.body.isSome = true) ∧ Calls P f args'.toArray W fun x W' => ∃ y β', x = .returned y ∧ VR β' W' v y ∧ RS β' (look d out own') W' ∧ Fr d β W β' W'
section
variable {P:Program} {d:Nat} {out:yLM} {β:Pl} {W:World} {a:Act} {o:Oper} {t:List IV} {own own' ownV:yLO} {e:Eff} {v:IV} {n0:Nat}
theorem want_sim {ops:Array Oper} {g:Option (Nat × Bool)} (hg:cGuard ops o.guard=some g) (ht:TR β W t a.tmps):Region.wanted o (yielded ops a.tmps)=wantedI t g:=by
 unfold Region.wanted
 cases hog:o.guard with
 | none=>rw [hog] at hg; simp only [cGuard,zao] at hg; subst hg; rfl
 | some jb =>
  obtain ⟨j,b⟩:=jb
  rw [hog] at hg
  simp only [cGuard] at hg
  split at hg
  ·rename_i k hk
   cases hg
   show (yielded ops a.tmps j==some b)=_
   unfold yielded wantedI
   rw [hk]
   simp only [za7]
   have h1:=ht.1
   cases hx:t[k]? with
   | none =>
    have:a.tmps[k]?=none:=by
     rw [List.getElem?_eq_none_iff] at hx
     rw [Array.getElem?_eq_none_iff]
     simp at h1; omega
    rw [this]
    rfl
   | some x =>
    obtain ⟨y,hy,hv⟩:=VRs.get ht hx
    rw [za2] at hy
    rw [hy]
    cases hv <;> simp
  ·simp at hg
theorem hide_get {vis:List Nat} {i:Nat} {x:IObj} (h:(hide vis n0 own)[i]?=some x):own[i]?=some x∨x=.gone:=by
 unfold hide at h
 rw [zf,List.getElem?_mapIdx] at h
 obtain ⟨y,hy,rfl⟩:=map_some h
 split
 ·exact .inl hy
 ·exact .inr rfl
theorem hide_vis {vis:List Nat}:Vis (hide vis n0 own) own:=fun i x h hl=>by
 rcases hide_get h with h | rfl
 ·exact h
 ·simp [IObj.live] at hl
theorem vis_if {vis:List Nat} {drawn:Bool}:Vis (if drawn then hide vis n0 own else own) own:=by
 cases drawn
 ·exact Vis.refl _
 ·exact hide_vis
theorem seen_if {vis:List Nat} {drawn:Bool}:Seen (if drawn then hide vis n0 own else own) own:=by
 cases drawn
 ·exact ⟨rfl,fun i o h=>.inl h⟩
 ·exact ⟨by simp [hide,zf],fun i o h=>hide_get h⟩
theorem cOp_call {c:Go.Call} {f:Operand} {iop:IOp} {slot:Nat} (ho:o.op=.call c) (hcal:c.callee=.value f) (hc:cOp P o.op slot=some iop):∃ y xs,cOpd f=some y/\allM cOpd c.args.toList=some xs/\iop=.call y xs slot:=by
 rw [ho] at hc
 simp only [cOp] at hc
 unfold cCall at hc
 rw [hcal] at hc
 split at hc
 ·rename_i f' xs h1 h2
  cases h1
  obtain ⟨y,hy,rfl⟩:=map_some hc
  exact ⟨y,xs,hy,h2,rfl⟩
 all_goals first
  | (rename_i h1 _; cases h1)
  | simp at hc
theorem op_wp {B:Nat} {W0:World} {C:Call} (hC:CallOK P B W0 C) (hb:Base B W0 β W) {ops:Array Oper} {i slot:Nat} {r:IOpR} {st st1:St} {drawn:Bool} {K:Act->World->Prop} {Q:Exit->Act->World->Prop} (hi:ops[i]?=some o) (hr:r.dst=o.dst) (hop:cOp P o.op slot=some r.op) (hg:cGuard ops o.guard=some r.guard)
  (ht:TR β W st.t a.tmps) (hR:RS β (look d out st.own) W) (hs:stepR C d out drawn n0 r st=some (e,st1))
  (hK:∀ (β':Pl) (W':World) (a':Act),TR β' W' st1.t a'.tmps->RS β' (look d out st1.own) W'->Fr d β W β' W'->a'.defers=a.defers->K a' W'):wpOp P ops Q i K a W:=by
 unfold wpOp
 rw [hi]
 simp only [want_sim hg ht]
 have hput:∀ (dst:Option Nat) (x:Value),(a.put dst x).defers=a.defers:=fun dst x=>by cases dst <;> rfl
 unfold stepR at hs
 split at hs
 ·rename_i hw
  rw [if_pos hw]
  refine .inl ?_
  split at hs
  ·rename_i e' v own1 he
   cases hs
   by_cases hcv:∃ c f,o.op=.call c/\c.callee=.value f
   ·obtain ⟨c,f,ho,hcal⟩:=hcv
    obtain ⟨y,xs,hy,hxs,hiop⟩:=cOp_call ho hcal hop
    rw [hiop] at he
    simp only [evOp,e_call] at he
    split at he
    ·rename_i g first cap hq
     have hvf:=ht.eval hy
     rw [hq] at hvf
     obtain ⟨first',cap',h1,h2,hfe⟩:=fnI hvf
     have h3:=YM ht hxs
     obtain ⟨⟨fn,hfn,hnm,hbd⟩,hcl⟩:=hC _ _ _ _ _ _ _ _ _ _ (first'.toList++(c.args.toList.map a.eval)++cap'.toList) β W he hb seen_if hR ((h1.append h3).append h2)
     have hbn:fn.body.isNone=false:=by cases hb:fn.body <;> simp [hb] at hbd ⊢
     have hex:(execOp a.eval o).run P W=.ok (.enter g (first'.toList++(c.args.toList.map a.eval)++cap'.toList).toArray) W:=by
      simp only [execOp,ho,resolve,hcal,Deferred.ofValue,hfe,zat,zay,zan,invoke,callFunc]
      have hbn':fn.body≠none:=by intro h; rw [h] at hbd; simp at hbd
      simp [hfn,hnm,hbn']
     unfold Oper.wp
     rw [hex,Oper.upon_enter]
     refine hcl.mono fun x W' hx=>?_
     obtain ⟨y',β',rfl,g1,g2,g3⟩:=hx
     refine hK β' W' _ ?_ g2 g3 (hput _ _)
     rw [← hr]
     exact (ht.ext g3.ext).put g1 _
    ·simp at he
   ·obtain ⟨nx,β',W',h1,h2,h3,h4⟩:=op_sim (out:=out) hop (fun c f y xs hh1 hh2 _ _ _=>absurd ⟨c,f,hh1,hh2⟩ hcv) ht hR (vis_if (drawn:=drawn)) he
    unfold Oper.wp
    rw [h1]
    cases nx with
    | value x =>
     rw [Oper.upon_value]
     refine hK β' W' _ ?_ h3 h4 (hput _ _)
     rw [← hr]
     exact (ht.ext h4.ext).put h2 _
    | skip =>
     rw [Oper.upon_skip]
     refine hK β' W' _ ?_ h3 h4 (hput _ _)
     rw [← hr,show v=.tuple [] from h2]
     exact (ht.ext h4.ext).put ZM _
    | _=>exact absurd h2 id
  ·simp at hs
 ·rename_i hw
  cases hs
  rw [if_neg hw]
  refine hK β W _ ?_ hR (Fr.refl _ _ _) (hput _ _)
  rw [← hr]
  exact ht.put ZM _
end
end
section
section
variable {P:Program} {d:Nat} {out:yLM} {t t':List IV} {own own' ownV:yLO} {e:Eff} {v:IV} {n0:Nat}
def Agree (t t':List IV) (l:List Nat):Prop:=∀ i∈l,getK (.tuple []) t i=getK (.tuple []) t' i
theorem Agree.left {l l':List Nat} (h:Agree t t' (l++l')):Agree t t' l:=fun i hi=>h i (List.mem_append_left _ hi)
theorem Agree.right {l l':List Nat} (h:Agree t t' (l++l')):Agree t t' l':=fun i hi=>h i (List.mem_append_right _ hi)
theorem Agree.opd {x:Opd} (h:Agree t t' x.tmps):ρ t x=ρ t' x:=by
 cases x with
 | tmp i=>exact h i (by simp [Opd.tmps])
 | const v=>rfl
theorem Agree.opds {xs:List Opd} (h:Agree t t' (xs.flatMap Opd.tmps)):xs.map (ρ t)=xs.map (ρ t') :=
 List.map_congr_left fun x hx=>Agree.opd fun i hi=>h i (List.mem_flatMap.2 ⟨x,hx,hi⟩)
theorem Agree.fill:∀ {ps:List (Nat × Nat × Opd)} {c:List IV},Agree t t' (ps.flatMap (·.2.2.tmps))->fillI t c ps=fillI t' c ps
 | [],c,_=>rfl
 | (off,n,x)::rest,c,h=>by
  have h1:Agree t t' (x.tmps++rest.flatMap (·.2.2.tmps)):=by simpa using h
  simp only [fillI]
  rw [h1.left.opd]
  split
  ·exact Agree.fill h1.right
  ·rfl
theorem Agree.opt {x:Option Opd} {n:Nat} (h:Agree t t' (optTmps x)):optI t n x=optI t' n x:=by
 cases x with
 | none=>rfl
 | some x=>exact congrArg natI (Agree.opd (x:=x) h)
theorem Agree.sl {sz:Nat} {u:IV} {lo hi mx:Option Opd} (h1:Agree t t' (optTmps lo)) (h2:Agree t t' (optTmps hi)) (h3:Agree t t' (optTmps mx)):sliceI sz t u lo hi mx=sliceI sz t' u lo hi mx:=by
 unfold sliceI
 simp only [h1.opt,h2.opt,h3.opt]
theorem Agree.slS {u:IV} {lo hi:Option Opd} (h1:Agree t t' (optTmps lo)) (h2:Agree t t' (optTmps hi)):sliceStr t u lo hi=sliceStr t' u lo hi:=by
 unfold sliceStr
 simp only [h1.opt,h2.opt]
theorem Agree.ev {C:Call} {iop:IOp} (h:Agree t t' iop.tmps):evOp C d out n0 ownV own t iop=evOp C d out n0 ownV own t' iop:=by
 cases iop <;> simp only [IOp.tmps] at h <;> simp only [evOp,e_nilchk,e_pick,e_newv,e_box,e_bslice,e_mslice,e_load,e_store,e_eqagg,e_eqb,e_eqp,e_eqs,e_cstr,e_conv,e_mkmap,e_faddr,e_field,e_iaddr,e_iaddrA,e_index,e_indexS,e_lookup,e_mapupd,e_extract,e_call,e_append,e_len,e_mx,e_cap,e_clr,e_cpy,e_mks]
 case mov=>rw [h.opd]
 case nilchk=>rw [h.opd]
 case pick=>rw [h.left.left.opd,h.left.right.opd,h.right.opd]
 case box=>rw [h.opd]
 case build=>rw [h.fill]
 case bslice=>rw [h.fill]
 case mslice=>rw [h.fill]
 case load=>rw [h.opd]
 case store=>rw [h.left.opd,h.right.opd]
 case bin=>rw [h.left.opd,h.right.opd]
 case eqagg=>rw [h.left.opd,h.right.opd]
 case eqb=>rw [h.left.opd,h.right.opd]
 case eqp=>rw [h.left.opd,h.right.opd]
 case eqs=>rw [h.left.opd,h.right.opd]
 case un=>rw [h.opd]
 case conv=>rw [h.opd]
 case cstr=>rw [h.opd]
 case mkfn=>rw [h.left.opds,h.right.opds]
 case slice=>rw [h.left.left.left.opd,h.left.left.right.sl h.left.right h.right]
 case sliceS=>rw [h.left.left.opd,h.left.right.slS h.right]
 case faddr=>rw [h.opd]
 case field=>rw [h.opd]
 case iaddr=>rw [h.left.opd,h.right.opd]
 case iaddrA=>rw [h.left.opd,h.right.opd]
 case index=>rw [h.left.opd,h.right.opd]
 case indexS=>rw [h.left.opd,h.right.opd]
 case lookup=>rw [h.left.opd,h.right.opd]
 case mapupd=>rw [h.left.left.opd,h.left.right.opd,h.right.opd]
 case extract=>rw [h.opd]
 case call=>rw [h.left.opd,h.right.opds]
 case append=>rw [h.left.opd,h.right.opd]
 case len=>rw [h.opd]
 case mx=>rw [h.left.opd,h.right.opd]
 case cap=>rw [h.opd]
 case clr=>rw [h.opd]
 case cpy=>rw [h.left.opd,h.right.opd]
 case mks=>rw [h.left.opd,h.right.opd]
end
end
section
section
variable {P:Program} {d:Nat} {out:yLM} {t t':List IV} {own own' ownV own1:yLO} {e:Eff} {v:IV} {n0:Nat}
def EffS (d:Nat) (out:yLM) (f:List IObj->List IObj->Res) (sl:Option Nat) (ownV own:yLO) (e:Eff) (v:IV) (own1:yLO):Prop :=
 match e with
 | .p=>own1=own/\∀ oV o,f oV o=some (.p,v,o)
 | .r=>own1=own/\∀ o,f ownV o=some (.r,v,o)
 | .rl l i off n=>own1=own/\∃ c,look d out ownV l i=some (.cells c)/\∀ oV o c',look d out oV l i=some (.cells c')->(∀ k,off<=k->k<off+n->c'[k]?=c[k]?)->f oV o=some (.rl l i off n,v,o)
 | .a=>∃ s O,sl=some s/\own[s]?=some .free/\own1=own.set s O/\∀ o,o[s]?=some .free->f ownV o=some (.a,v,o.set s O)
 | .w l i off n=>l=d/\∃ c xs,own[i]?=some (.cells c)/\xs.length=n/\off+n<=c.length/\own1=own.set i (.cells (wrN c off xs))/\∀ oV,f oV own=some (.w l i off n,v,own1)
 | .k i s=>sl=some s/\∃ O,own1=(own.set i .gone).set s O
 | .x=>True
def CallE (C:Call):Prop:=∀ (d:Nat) (out:yLM) (ownV own:yLO) (id:Nat) (f:FuncId) (args:List IV) (e:Eff) (v:IV) (own1:yLO),C d out ownV own id f args=some (e,v,own1) ->
 EffS d out (fun oV o=>C d out oV o id f args) (some id) ownV own e v own1
theorem Zf {f:List IObj->List IObj->Res} {id:Nat} {O:IObj} {u:IV} (hf:∀ o,f ownV o=mkAt o id O u) (h:f ownV own=some (e,v,own1)):EffS d out f (some id) ownV own e v own1:=by
 rw [hf] at h
 obtain ⟨h1,rfl,rfl,rfl⟩:=zX h
 refine ⟨id,O,rfl,h1,rfl,fun o ho=>?_⟩
 rw [hf]
 unfold mkAt
 rw [ho]
 simp only [zf]
theorem ZV {f:List IObj->List IObj->Res} {sl:Option Nat} {r:Option IV} (hf:∀ oV o,f oV o=r.map fun v=>(.p,v,o)) (h:f ownV own=some (e,v,own1)):EffS d out f sl ownV own e v own1:=by
 rw [hf] at h
 obtain ⟨w,rfl,hw⟩:=map_some h
 cases hw
 exact ⟨rfl,fun oV o=>by rw [hf]; rfl⟩
theorem rdN_agree:∀ {n:Nat} {c c':List IV} {off:Nat},(∀ k,off<=k->k<off+n->c'[k]?=c[k]?)->rdN c' off n=rdN c off n
 | 0,_,_,_,_=>rfl
 | n+1,c,c',off,h=>by
  simp only [rdN]
  rw [h off (zaq _) (by omega),rdN_agree (n:=n) (off:=off+1) (fun k h1 h2=>h k (by omega) (by omega))]
theorem e_load_eff {agg:Bool} {n:Nat} {x:Opd} {sl:Option Nat} (h:e_load d out ownV own t agg n x=some (e,v,own1)):EffS d out (fun oV o=>e_load d out oV o t agg n x) sl ownV own e v own1:=by
 unfold e_load at h ⊢
 cases hx:ρ t x <;> rw [hx] at h <;> simp only at h <;> first | (simp at h; done) | skip
 case ptrM l i off =>
  split at h
  ·rename_i c hc
   obtain ⟨w,hw,hq⟩:=map_some h
   cases hq
   refine ⟨rfl,c,hc,fun oV o c' hc' hag=>?_⟩
   simp only [hc',rdN_agree hag,hw,za5]
  ·simp at h
 case ptrC cs off=>exact ZV (fun oV o=>rfl) h
theorem e_store_eff {n:Nat} {x y:Opd} {sl:Option Nat} (h:e_store d own t n x y=some (e,v,own1)):EffS d out (fun _ o=>e_store d o t n x y) sl ownV own e v own1:=by
 have h0:=h
 unfold e_store at h
 split at h
 ·rename_i l i off hx
  split at h
  ·rename_i c hc
   split at h
   ·rename_i hh
    obtain ⟨hl,hn,hfit,_⟩:=hh
    cases h
    refine ⟨hl,c,_,hc,hn,hfit,by rw [zf,zf],fun oV=>h0⟩
   ·simp at h
  ·simp at h
 ·simp at h
theorem e_len_eff {k:Nat} {x:Opd} {sl:Option Nat} (h:e_len d out ownV own t k x=some (e,v,own1)):EffS d out (fun oV o=>e_len d out oV o t k x) sl ownV own e v own1:=by
 unfold e_len at h ⊢
 cases hx:ρ t x <;> rw [hx] at h <;> simp only at h <;> first | (simp at h; done) | skip
 case mapM l i =>
  split at h
  ·rename_i hk
   split at h
   ·rename_i ks vs bs clock hc
    cases h
    exact ⟨rfl,fun o=>by simp only [if_pos hk,hc]⟩
   ·simp at h
  ·simp at h
 all_goals
  split at h
  ·rename_i hk
   cases h
   exact ⟨rfl,fun oV o=>by simp only [if_pos hk]⟩
  ·simp at h
theorem e_lookup_eff {zero:IV} {kt:Bool × List Nat} {ok:Bool} {x ix:Opd} {sl:Option Nat} (h:e_lookup d out ownV own t zero kt ok x ix=some (e,v,own1)):EffS d out (fun oV o=>e_lookup d out oV o t zero kt ok x ix) sl ownV own e v own1:=by
 unfold e_lookup at h ⊢
 cases hx:ρ t x <;> rw [hx] at h <;> simp only at h <;> first | (simp at h; done) | skip
 case mapM l i =>
  obtain ⟨⟨e',w⟩,h1,h2⟩:=map_some h
  split at h1
  ·rename_i ks vs bs clock hc
   obtain ⟨w',h3,h4⟩:=map_some h1
   cases h4
   cases h2
   exact ⟨rfl,fun o=>by simp only [hc,h3,za5]⟩
  ·simp at h1
 all_goals
  obtain ⟨⟨e',w⟩,h1,h2⟩:=map_some h
  obtain ⟨w',h3,h4⟩:=map_some h1
  cases h4
  cases h2
  exact ⟨rfl,fun oV o=>by simp only [h3,za5]⟩
theorem Ys {sz n slot:Nat} {s:IV} {new:List IV} (h:appendI d n0 (look d out ownV) own sz s new n slot=some (e,v,own1)):EffS d out (fun oV o=>appendI d n0 (look d out oV) o sz s new n slot) (some (n0+slot)) ownV own e v own1:=by
 unfold appendI at h ⊢
 by_cases hn:n=0
 ·rw [if_pos hn] at h
  simp only [if_pos hn]
  split at h <;> first | (simp at h; done) | (cases h; exact ⟨rfl,fun o=>rfl⟩)
 ·rw [if_neg hn] at h
  simp only [if_neg hn]
  cases s <;> simp only at h <;> first | (simp at h; done) | skip
  case nilsl =>
   split at h
   ·rename_i hk
    exact Zf (fun o=>by simp only [if_pos hk]; rfl) (by simpa only [if_pos hk] using h)
   ·simp at h
  case slC cs len sz0 tight =>
   split at h
   ·rename_i hk
    split at h
    ·rename_i old hold
     exact Zf (fun o=>by simp only [if_pos hk,hold]; rfl) (by simpa only [if_pos hk,hold] using h)
    ·simp at h
   ·simp at h
  case slM l i off len cap sz0 tight =>
   split at h
   ·rename_i hk
    split at h
    ·rename_i c hc
     split at h
     ·split at h
      ·cases h; trivial
      ·simp at h
     ·rename_i hcap
      split at h
      ·rename_i old hold
       split at h
       ·rename_i htg
        exact Zf (fun o=>by simp only [if_pos hk,hc,if_neg hcap,hold,if_pos htg]; rfl) (by simpa only [if_pos hk,hc,if_neg hcap,hold,if_pos htg] using h)
       ·split at h
        ·obtain ⟨_,rfl,_,rfl⟩:=ZT h
         exact ⟨rfl,_,rfl⟩
        ·simp at h
      ·simp at h
    ·simp at h
   ·simp at h
theorem q_nilchk {x:Opd}:∃ r:Option IV,∀ o,e_nilchk o t x=r.map fun v=>(.p,v,o):=by
 refine ⟨(e_nilchk [] t x).map (·.2.1),fun o=>?_⟩
 unfold e_nilchk
 first
  | rfl
  | (simp only [zav]; rfl)
  | (split <;> first | rfl | (simp only [zav]; rfl) | (split <;> first | rfl | (simp only [zav]; rfl)))
theorem q_pick {c a b:Opd}:∃ r:Option IV,∀ o,e_pick o t c a b=r.map fun v=>(.p,v,o):=by
 refine ⟨(e_pick [] t c a b).map (·.2.1),fun o=>?_⟩
 unfold e_pick
 first
  | rfl
  | (simp only [zav]; rfl)
  | (split <;> first | rfl | (simp only [zav]; rfl) | (split <;> first | rfl | (simp only [zav]; rfl)))
theorem q_bslice {z:List IV} {sz len:Nat} {ps:List (Nat × Nat × Opd)}:∃ r:Option IV,∀ o,e_bslice o t z sz len ps=r.map fun v=>(.p,v,o):=by
 refine ⟨(e_bslice [] t z sz len ps).map (·.2.1),fun o=>?_⟩
 unfold e_bslice
 first
  | rfl
  | (simp only [zav]; rfl)
  | (split <;> first | rfl | (simp only [zav]; rfl) | (split <;> first | rfl | (simp only [zav]; rfl)))
theorem q_eqagg {neg:Bool} {ks:List Nat} {x y:Opd}:∃ r:Option IV,∀ o,e_eqagg o t neg ks x y=r.map fun v=>(.p,v,o):=by
 refine ⟨(e_eqagg [] t neg ks x y).map (·.2.1),fun o=>?_⟩
 unfold e_eqagg
 first
  | rfl
  | (simp only [zav]; rfl)
  | (split <;> first | rfl | (simp only [zav]; rfl) | (split <;> first | rfl | (simp only [zav]; rfl)))
theorem q_eqb {neg:Bool} {x y:Opd}:∃ r:Option IV,∀ o,e_eqb o t neg x y=r.map fun v=>(.p,v,o):=by
 refine ⟨(e_eqb [] t neg x y).map (·.2.1),fun o=>?_⟩
 unfold e_eqb
 first
  | rfl
  | (simp only [zav]; rfl)
  | (split <;> first | rfl | (simp only [zav]; rfl) | (split <;> first | rfl | (simp only [zav]; rfl)))
theorem q_eqp {neg:Bool} {x y:Opd}:∃ r:Option IV,∀ o,e_eqp o t neg x y=r.map fun v=>(.p,v,o):=by
 refine ⟨(e_eqp [] t neg x y).map (·.2.1),fun o=>?_⟩
 unfold e_eqp
 first
  | rfl
  | (simp only [zav]; rfl)
  | (split <;> first | rfl | (simp only [zav]; rfl) | (split <;> first | rfl | (simp only [zav]; rfl)))
theorem q_eqs {neg:Bool} {x y:Opd}:∃ r:Option IV,∀ o,e_eqs o t neg x y=r.map fun v=>(.p,v,o):=by
 refine ⟨(e_eqs [] t neg x y).map (·.2.1),fun o=>?_⟩
 unfold e_eqs
 first
  | rfl
  | (simp only [zav]; rfl)
  | (split <;> first | rfl | (simp only [zav]; rfl) | (split <;> first | rfl | (simp only [zav]; rfl)))
theorem q_cstr {x:Opd}:∃ r:Option IV,∀ o,e_cstr o t x=r.map fun v=>(.p,v,o):=by
 refine ⟨(e_cstr [] t x).map (·.2.1),fun o=>?_⟩
 unfold e_cstr
 first
  | rfl
  | (simp only [zav]; rfl)
  | (split <;> first | rfl | (simp only [zav]; rfl) | (split <;> first | rfl | (simp only [zav]; rfl)))
theorem q_conv {k:IntKind} {x:Opd}:∃ r:Option IV,∀ o,e_conv o t k x=r.map fun v=>(.p,v,o):=by
 refine ⟨(e_conv [] t k x).map (·.2.1),fun o=>?_⟩
 unfold e_conv
 first
  | rfl
  | (simp only [zav]; rfl)
  | (split <;> first | rfl | (simp only [zav]; rfl) | (split <;> first | rfl | (simp only [zav]; rfl)))
theorem q_faddr {off:Nat} {x:Opd}:∃ r:Option IV,∀ o,e_faddr o t off x=r.map fun v=>(.p,v,o):=by
 refine ⟨(e_faddr [] t off x).map (·.2.1),fun o=>?_⟩
 unfold e_faddr
 first
  | rfl
  | (simp only [zav]; rfl)
  | (split <;> first | rfl | (simp only [zav]; rfl) | (split <;> first | rfl | (simp only [zav]; rfl)))
theorem q_field {agg:Bool} {off n:Nat} {x:Opd}:∃ r:Option IV,∀ o,e_field o t agg off n x=r.map fun v=>(.p,v,o):=by
 refine ⟨(e_field [] t agg off n x).map (·.2.1),fun o=>?_⟩
 unfold e_field
 first
  | rfl
  | (simp only [zav]; rfl)
  | (split <;> first | rfl | (simp only [zav]; rfl) | (split <;> first | rfl | (simp only [zav]; rfl)))
theorem q_iaddr {sz:Nat} {x ix:Opd}:∃ r:Option IV,∀ o,e_iaddr o t sz x ix=r.map fun v=>(.p,v,o):=by
 refine ⟨(e_iaddr [] t sz x ix).map (·.2.1),fun o=>?_⟩
 unfold e_iaddr
 first
  | rfl
  | (simp only [zav]; rfl)
  | (split <;> first | rfl | (simp only [zav]; rfl) | (split <;> first | rfl | (simp only [zav]; rfl)))
theorem q_iaddrA {sz len:Nat} {x ix:Opd}:∃ r:Option IV,∀ o,e_iaddrA o t sz len x ix=r.map fun v=>(.p,v,o):=by
 refine ⟨(e_iaddrA [] t sz len x ix).map (·.2.1),fun o=>?_⟩
 unfold e_iaddrA
 first
  | rfl
  | (simp only [zav]; rfl)
  | (split <;> first | rfl | (simp only [zav]; rfl) | (split <;> first | rfl | (simp only [zav]; rfl)))
theorem q_index {agg:Bool} {sz len:Nat} {x ix:Opd}:∃ r:Option IV,∀ o,e_index o t agg sz len x ix=r.map fun v=>(.p,v,o):=by
 refine ⟨(e_index [] t agg sz len x ix).map (·.2.1),fun o=>?_⟩
 unfold e_index
 first
  | rfl
  | (simp only [zav]; rfl)
  | (split <;> first | rfl | (simp only [zav]; rfl) | (split <;> first | rfl | (simp only [zav]; rfl)))
theorem q_indexS {x ix:Opd}:∃ r:Option IV,∀ o,e_indexS o t x ix=r.map fun v=>(.p,v,o):=by
 refine ⟨(e_indexS [] t x ix).map (·.2.1),fun o=>?_⟩
 unfold e_indexS
 first
  | rfl
  | (simp only [zav]; rfl)
  | (split <;> first | rfl | (simp only [zav]; rfl) | (split <;> first | rfl | (simp only [zav]; rfl)))
theorem q_extract {x:Opd} {i:Nat}:∃ r:Option IV,∀ o,e_extract o t x i=r.map fun v=>(.p,v,o):=by
 refine ⟨(e_extract [] t x i).map (·.2.1),fun o=>?_⟩
 unfold e_extract
 first
  | rfl
  | (simp only [zav]; rfl)
  | (split <;> first | rfl | (simp only [zav]; rfl) | (split <;> first | rfl | (simp only [zav]; rfl)))
theorem q_mx {m:Bool} {x y:Opd}:∃ r:Option IV,∀ o,e_mx o t m x y=r.map fun v=>(.p,v,o):=by
 refine ⟨(e_mx [] t m x y).map (·.2.1),fun o=>?_⟩
 unfold e_mx
 first
  | rfl
  | (simp only [zav]; rfl)
  | (split <;> first | rfl | (simp only [zav]; rfl) | (split <;> first | rfl | (simp only [zav]; rfl)))
theorem q_cap {x:Opd}:∃ r:Option IV,∀ o,e_cap o t x=r.map fun v=>(.p,v,o):=by
 refine ⟨(e_cap [] t x).map (·.2.1),fun o=>?_⟩
 unfold e_cap
 first
  | rfl
  | (simp only [zav]; rfl)
  | (split <;> first | rfl | (simp only [zav]; rfl) | (split <;> first | rfl | (simp only [zav]; rfl)))
end
end
section
section
variable {P:Program} {C:Call} {d:Nat} {out:yLM} {t t':List IV} {own own' ownV own1:yLO} {e:Eff} {v:IV} {n0:Nat}
theorem yn {f:List IObj->Res} {sl:Option Nat} (hq:∃ r:Option IV,∀ o,f o=r.map fun v=>(.p,v,o)) (h:f own=some (e,v,own1)):EffS d out (fun _ o=>f o) sl ownV own e v own1:=by
 obtain ⟨r,hr⟩:=hq
 exact ZV (r:=r) (fun _ o=>hr o) h
theorem e_append_eff {z:List IV} {sz slot:Nat} {zeros:Bool} {s x:Opd} (h:e_append d out n0 ownV own t z sz zeros s x slot=some (e,v,own1)):EffS d out (fun oV o=>e_append d out n0 oV o t z sz zeros s x slot) (some (n0+slot)) ownV own e v own1:=by
 unfold e_append at h ⊢
 cases zeros
 ·simp only [zaz,if_false] at h ⊢
  split at h
  ·rename_i new n hc
   have h1:=Ys h
   cases e with
   | p =>
    exfalso
    unfold appendI at h
    revert h
    intro h
    split at h
    ·cases hs:ρ t s <;> rw [hs] at h <;> simp at h
    ·cases hs:ρ t s <;> rw [hs] at h <;> simp only at h <;> first | (simp at h; done) | skip
     ·split at h
      ·cases (zX h).2.1
      ·simp at h
     ·split at h
      ·split at h
       ·split at h
        ·split at h
         ·cases h
         ·simp at h
        ·split at h
         ·split at h
          ·cases (zX h).2.1
          ·split at h
           ·cases (ZT h).2.1
           ·simp at h
         ·simp at h
       ·simp at h
      ·simp at h
     ·split at h
      ·split at h
       ·cases (zX h).2.1
       ·simp at h
      ·simp at h
   | r=>exact ⟨h1.1,fun o=>by simp only [hc]; exact h1.2 o⟩
   | rl l i off k =>
    exfalso
    unfold appendI at h
    revert h
    intro h
    split at h
    ·cases hs:ρ t s <;> rw [hs] at h <;> simp at h
    ·cases hs:ρ t s <;> rw [hs] at h <;> simp only at h <;> first | (simp at h; done) | skip
     ·split at h
      ·cases (zX h).2.1
      ·simp at h
     ·split at h
      ·split at h
       ·split at h
        ·split at h
         ·cases h
         ·simp at h
        ·split at h
         ·split at h
          ·cases (zX h).2.1
          ·split at h
           ·cases (ZT h).2.1
           ·simp at h
         ·simp at h
       ·simp at h
      ·simp at h
     ·split at h
      ·split at h
       ·cases (zX h).2.1
       ·simp at h
      ·simp at h
   | a =>
    obtain ⟨q,O,g1,g2,g3,g4⟩:=h1
    exact ⟨q,O,g1,g2,g3,fun o ho=>by simp only [hc]; exact g4 o ho⟩
   | w l i off k =>
    exfalso
    unfold appendI at h
    revert h
    intro h
    split at h
    ·cases hs:ρ t s <;> rw [hs] at h <;> simp at h
    ·cases hs:ρ t s <;> rw [hs] at h <;> simp only at h <;> first | (simp at h; done) | skip
     ·split at h
      ·cases (zX h).2.1
      ·simp at h
     ·split at h
      ·split at h
       ·split at h
        ·split at h
         ·cases h
         ·simp at h
        ·split at h
         ·split at h
          ·cases (zX h).2.1
          ·split at h
           ·cases (ZT h).2.1
           ·simp at h
         ·simp at h
       ·simp at h
      ·simp at h
     ·split at h
      ·split at h
       ·cases (zX h).2.1
       ·simp at h
      ·simp at h
   | k i s=>exact h1
   | x=>trivial
  ·simp at h
 ·simp only [if_true] at h ⊢
  split at h
  ·rename_i new n hc
   exact Ys h
  ·simp at h
theorem e_mapupd_eff {kt:Bool × List Nat} {m k x:Opd} {sl:Option Nat} (h:e_mapupd d own t kt m k x=some (e,v,own1)):EffS d out (fun _ o=>e_mapupd d o t kt m k x) sl ownV own e v own1:=by
 unfold e_mapupd at h
 split at h
 ·split at h
  ·split at h
   ·split at h
    ·cases h; trivial
    ·cases h; trivial
    ·simp at h
   ·simp at h
  ·simp at h
 ·simp at h
theorem e_box_eff {x:Opd} {slot:Nat} (h:e_box d n0 own t x slot=some (e,v,own1)):EffS d out (fun _ o=>e_box d n0 o t x slot) (some (n0+slot)) ownV own e v own1:=by
 unfold e_box at h ⊢
 split at h
 ·rename_i hk
  simp only [if_pos hk]
  exact Zf (fun o=>rfl) h
 ·simp at h
theorem e_mslice_eff {z:List IV} {sz len slot:Nat} {ps:List (Nat × Nat × Opd)} (h:e_mslice d n0 own t z sz len ps slot=some (e,v,own1)):EffS d out (fun _ o=>e_mslice d n0 o t z sz len ps slot) (some (n0+slot)) ownV own e v own1:=by
 unfold e_mslice at h ⊢
 cases hf:fillI t (rep z len) ps with
 | none=>rw [hf] at h; simp at h
 | some c =>
  rw [hf] at h
  simp only at h ⊢
  split at h
  ·rename_i hk
   simp only [if_pos hk]
   exact Zf (fun o=>rfl) h
  ·simp at h
theorem fillAt_x {l i off:Nat} {xs:List IV} {u:IV} (h:fillAt d own l i off xs u=some (e,v,own1)):e=.x:=by
 unfold fillAt at h
 split at h
 ·split at h
  ·cases h; rfl
  ·simp at h
 ·simp at h
theorem clr_x {z:List IV} {sz:Nat} {x:Opd} (h:e_clr d own t z sz x=some (e,v,own1)):e=.x:=by
 unfold e_clr at h
 split at h
 ·cases h; rfl
 ·split at h
  ·cases h; rfl
  ·split at h
   ·exact fillAt_x h
   ·simp at h
 ·simp at h
theorem cpy_x {sz:Nat} {x y:Opd} (h:e_cpy d out ownV own t sz x y=some (e,v,own1)):e=.x:=by
 unfold e_cpy at h
 split at h
 ·split at h
  ·split at h
   ·cases h; rfl
   ·exact fillAt_x h
  ·simp at h
 ·simp at h
theorem e_mks_eff {z:List IV} {sz slot:Nat} {x y:Opd} (h:e_mks d n0 own t z sz x y slot=some (e,v,own1)):EffS d out (fun _ o=>e_mks d n0 o t z sz x y slot) (some (n0+slot)) ownV own e v own1:=by
 unfold e_mks at h ⊢
 split at h
 ·split at h
  ·rename_i hk
   simp only [if_pos hk]
   exact Zf (fun o=>rfl) h
  ·simp at h
 ·simp at h
theorem ev_eff (hC:CallE C) {iop:IOp} (h:evOp C d out n0 ownV own t iop=some (e,v,own1)):EffS d out (fun oV o=>evOp C d out n0 oV o t iop) (iop.slot?.map (n0+·)) ownV own e v own1:=by
 cases iop <;> simp only [evOp] at h ⊢ <;> try simp only [IOp.slot?,za5,Option.map_none]
 case mov x=>exact ZV (r:=some (ρ t x)) (fun _ o=>rfl) h
 case nilchk=>exact yn q_nilchk h
 case pick=>exact yn q_pick h
 case newv=>exact Zf (fun o=>rfl) h
 case box=>exact e_box_eff h
 case build z ps=>exact ZV (r:=(fillI t z ps).map .agg) (fun _ o=>by simp only [zav]; rfl) h
 case bslice=>exact yn q_bslice h
 case mslice=>exact e_mslice_eff h
 case load=>exact e_load_eff h
 case store=>exact e_store_eff h
 case bin op x y=>exact ZV (r:=binI op (ρ t x) (ρ t y)) (fun _ o=>rfl) h
 case eqagg=>exact yn q_eqagg h
 case eqb=>exact yn q_eqb h
 case eqp=>exact yn q_eqp h
 case eqs=>exact yn q_eqs h
 case un op x=>exact ZV (r:=unI op (ρ t x)) (fun _ o=>rfl) h
 case conv=>exact yn q_conv h
 case cstr=>exact yn q_cstr h
 case mkfn f a b=>exact ZV (r:=some (.fn f (a.map (ρ t)) (b.map (ρ t)))) (fun _ o=>rfl) h
 case mkmap=>exact Zf (fun o=>rfl) h
 case slice sz x lo hi mx=>exact ZV (r:=sliceI sz t (ρ t x) lo hi mx) (fun _ o=>rfl) h
 case sliceS x lo hi=>exact ZV (r:=sliceStr t (ρ t x) lo hi) (fun _ o=>rfl) h
 case faddr=>exact yn q_faddr h
 case field=>exact yn q_field h
 case iaddr=>exact yn q_iaddr h
 case iaddrA=>exact yn q_iaddrA h
 case index=>exact yn q_index h
 case indexS=>exact yn q_indexS h
 case lookup=>exact e_lookup_eff h
 case mapupd=>exact e_mapupd_eff h
 case extract=>exact yn q_extract h
 case call f xs slot =>
  unfold e_call at h ⊢
  split at h
  ·rename_i g first cap hq
   exact hC _ _ _ _ _ _ _ _ _ _ h
  ·simp at h
 case append=>exact e_append_eff h
 case len=>exact e_len_eff h
 case mx=>exact yn q_mx h
 case cap=>exact yn q_cap h
 case clr=>exact clr_x h ▸ trivial
 case cpy=>exact cpy_x h ▸ trivial
 case mks=>exact e_mks_eff h
 case fail=>simp at h
theorem zW {f:List IObj->Res} (hq:∃ r:Option IV,∀ o,f o=r.map fun v=>(.p,v,o)) (h:f own=some (e,v,own1)):e=.p:=by
 obtain ⟨r,hr⟩:=hq
 rw [hr] at h
 obtain ⟨w,_,hw⟩:=map_some h
 cases hw
 rfl
theorem YB {r:Option IV} (h:(r.map fun v=>(Eff.p,v,own))=some (e,v,own1)):e=.p:=by
 obtain ⟨w,_,hw⟩:=map_some h
 cases hw
 rfl
theorem ev_quiet {iop:IOp} (hq:iop.quiet=true) (h:evOp C d out n0 ownV own t iop=some (e,v,own1)):e=.p:=by
 cases iop <;> simp only [IOp.quiet,zaz] at hq <;> simp only [evOp] at h
 case mov x=>cases h; rfl
 case nilchk=>exact zW q_nilchk h
 case pick=>exact zW q_pick h
 case build z ps=>obtain ⟨_,_,hw⟩:=map_some h; cases hw; rfl
 case bslice=>exact zW q_bslice h
 case bin op x y=>exact YB h
 case eqagg=>exact zW q_eqagg h
 case eqb=>exact zW q_eqb h
 case eqp=>exact zW q_eqp h
 case eqs=>exact zW q_eqs h
 case un op x=>exact YB h
 case conv=>exact zW q_conv h
 case cstr=>exact zW q_cstr h
 case mkfn f a b=>cases h; rfl
 case slice sz x lo hi mx=>exact YB h
 case sliceS x lo hi=>exact YB h
 case faddr=>exact zW q_faddr h
 case field=>exact zW q_field h
 case iaddr=>exact zW q_iaddr h
 case iaddrA=>exact zW q_iaddrA h
 case index=>exact zW q_index h
 case indexS=>exact zW q_indexS h
 case extract=>exact zW q_extract h
 case mx=>exact zW q_mx h
 case cap=>exact zW q_cap h
 case fail=>simp at h
noncomputable def fR (C:Call) (d:Nat) (out:yLM) (n0:Nat) (o:IOpR) (t:List IV) (oV own:yLO):Res :=
 if wantedI t o.guard then evOp C d out n0 oV own t o.op else some (.p,.tuple [],own)
theorem ZW {drawn:Bool} {o:IOpR} {st:St}:stepR C d out drawn n0 o st=(fR C d out n0 o st.t (if drawn then hide o.vis n0 st.own else st.own) st.own).map fun r=>(r.1,⟨put st.t o.dst r.2.1,r.2.2⟩):=by
 unfold stepR fR
 split
 ·split
  ·rename_i e v own1 he
   rw [he]
   rfl
  ·rename_i he
   rw [he]
   rfl
 ·rfl
theorem fR_eff (hC:CallE C) {o:IOpR} (h:fR C d out n0 o t ownV own=some (e,v,own1)):EffS d out (fR C d out n0 o t) (o.op.slot?.map (n0+·)) ownV own e v own1:=by
 unfold fR at h
 split at h
 ·rename_i hw
  have:fR C d out n0 o t=fun oV ow=>evOp C d out n0 oV ow t o.op:=by
   funext oV ow
   unfold fR
   rw [if_pos hw]
  rw [this]
  exact ev_eff hC h
 ·rename_i hw
  cases h
  refine ⟨rfl,fun oV ow=>?_⟩
  unfold fR
  rw [if_neg hw]
theorem fR_quiet {o:IOpR} (hq:o.op.quiet=true) (h:fR C d out n0 o t ownV own=some (e,v,own1)):e=.p:=by
 unfold fR at h
 split at h
 ·exact ev_quiet hq h
 ·cases h; rfl
theorem fR_agree {o:IOpR} (h:Agree t t' o.reads) (hl:t.length=t'.length):fR C d out n0 o t ownV own=fR C d out n0 o t' ownV own:=by
 unfold fR
 have h1:Agree t t' o.op.tmps:=Agree.left h
 have h2:wantedI t o.guard=wantedI t' o.guard:=by
  cases hg:o.guard with
  | none=>rfl
  | some jb =>
   obtain ⟨j,b⟩:=jb
   have h3:=h j (List.mem_append_right _ (by rw [hg]; simp))
   rw [zR,zR] at h3
   simp only [wantedI]
   rw [zbf,zbf] at h3
   by_cases hj:j<t.length
   ·rw [zak hj,zak (hl ▸ hj)] at h3 ⊢
    simp only [zba] at h3
    rw [h3]
   ·rw [List.getElem?_eq_none (by omega),List.getElem?_eq_none (by omega)]
 rw [h1.ev,h2]
end
end
section
section
variable {P:Program} {C:Call} {d:Nat} {out:yLM} {t t':List IV} {own own' ownV own1 own2:yLO} {e ej ei:Eff} {v xj xi:IV} {n0:Nat}
theorem zI {vis:List Nat} {k:Nat}:(hide vis n0 own)[k]?=(own[k]?).map fun o=>if k<n0||vis.contains (k - n0) then o else .gone:=by
 unfold hide
 rw [zf,List.getElem?_mapIdx]
theorem yw {vis:List Nat} {s:Nat} {O:IObj} (h:vis.contains s=false):hide vis n0 (own.set (n0+s) O)=hide vis n0 own:=by
 apply List.ext_getElem?
 intro k
 rw [zI,zI,List.getElem?_set]
 by_cases hk:n0+s=k
 ·subst hk
  have h1:(decide (n0+s<n0)||vis.contains (n0+s - n0))=false:=by
   have h2:n0+s - n0=s:=by omega
   rw [h2,h,decide_eq_false (by omega)]
   rfl
  rw [if_pos rfl]
  simp only [h1,zaz,if_false]
  by_cases hl:n0+s<own.length
  ·rw [if_pos hl,zak hl]
   rfl
  ·rw [if_neg hl,List.getElem?_eq_none (by omega)]
 ·rw [if_neg hk]
theorem look_hide_w {vis:List Nat} {l i i' o n o':Nat} {c c2 xs:List IV} (h:look d out (hide vis n0 own) l i=some (.cells c)) (hw:own[i']?=some (.cells c2)) (hf:o'+xs.length<=c2.length)
  (hne:(l==d&&i==i')=false∨o+n<=o'∨o'+xs.length<=o) :
  ∃ c',look d out (hide vis n0 (own.set i' (.cells (wrN c2 o' xs)))) l i=some (.cells c')/\∀ k,o<=k->k<o+n->c'[k]?=c[k]?:=by
 unfold look at h ⊢
 by_cases hl:l=d
 ·rw [if_pos hl] at h ⊢
  rw [zI] at h ⊢
  by_cases hi:i=i'
  ·subst hi
   rw [hw,za5] at h
   split at h
   ·rename_i hv
    cases h
    have hil:i<own.length:=(zal.1 hw).1
    refine ⟨_,by rw [zbw hil,za5,if_pos hv],fun k h1 h2=>?_⟩
    rw [Zd _ _ _ _ hf,if_neg]
    rcases hne with hne | hne | hne
    ·simp [hl] at hne
    ·omega
    ·omega
   ·cases h
  ·rw [zbq (Ne.symm hi)]
   exact ⟨c,h,fun k _ _=>rfl⟩
 ·rw [if_neg hl] at h ⊢
  exact ⟨c,h,fun k _ _=>rfl⟩
theorem look_hide_w' {vis:List Nat} {l i i' o n o':Nat} {c c2 xs:List IV} (h:look d out (hide vis n0 (own.set i' (.cells (wrN c2 o' xs)))) l i=some (.cells c)) (hw:own[i']?=some (.cells c2)) (hf:o'+xs.length<=c2.length)
  (hne:(l==d&&i==i')=false∨o+n<=o'∨o'+xs.length<=o) :
  ∃ c',look d out (hide vis n0 own) l i=some (.cells c')/\∀ k,o<=k->k<o+n->c'[k]?=c[k]?:=by
 unfold look at h ⊢
 by_cases hl:l=d
 ·rw [if_pos hl] at h ⊢
  rw [zI] at h ⊢
  by_cases hi:i=i'
  ·subst hi
   have hil:i<own.length:=(zal.1 hw).1
   rw [zbw hil,za5] at h
   split at h
   ·rename_i hv
    cases h
    refine ⟨_,by rw [hw,za5,if_pos hv],fun k h1 h2=>?_⟩
    rw [Zd _ _ _ _ hf,if_neg]
    rcases hne with hne | hne | hne
    ·simp [hl] at hne
    ·omega
    ·omega
   ·cases h
  ·rw [zbq (Ne.symm hi)] at h
   exact ⟨c,h,fun k _ _=>rfl⟩
 ·rw [if_neg hl] at h ⊢
  exact ⟨c,h,fun k _ _=>rfl⟩
theorem hide_gone {vis:List Nat} {i j:Nat} (h:j≠i):(hide vis n0 (own.set i .gone))[j]?=(hide vis n0 own)[j]?:=by
 rw [zI,zI,zbq (Ne.symm h)]
theorem YS {vis:List Nat} {l i j:Nat} {c:List IV} (h:j≠i) (hc:look d out (hide vis n0 own) l j=some (.cells c)):look d out (hide vis n0 (own.set i .gone)) l j=some (.cells c):=by
 unfold look at hc ⊢
 by_cases hl:l=d
 ·rw [if_pos hl] at hc ⊢
  rw [hide_gone h]
  exact hc
 ·rw [if_neg hl] at hc ⊢
  exact hc
theorem YT {vis:List Nat} {l i j:Nat} {c:List IV} (h:j≠i) (hc:look d out (hide vis n0 (own.set i .gone)) l j=some (.cells c)):look d out (hide vis n0 own) l j=some (.cells c):=by
 unfold look at hc ⊢
 by_cases hl:l=d
 ·rw [if_pos hl] at hc ⊢
  rw [hide_gone h] at hc
  exact hc
 ·rw [if_neg hl] at hc ⊢
  exact hc
theorem swap_f {fj fi:List IObj->List IObj->Res} {sj si:Option Nat} {vj vi:List Nat} (hj:∀ {oV own e v own1},fj oV own=some (e,v,own1)->EffS d out fj (sj.map (n0+·)) oV own e v own1)
  (hi:∀ {oV own e v own1},fi oV own=some (e,v,own1)->EffS d out fi (si.map (n0+·)) oV own e v own1) (c1:∀ s,sj=some s->vi.contains s=false) (c2:∀ s,si=some s->vj.contains s=false)
  (c3:∀ s,sj=some s->si≠some s) (h1:fj (hide vj n0 own) own=some (ej,xj,own1)) (h2:fi (hide vi n0 own1) own1=some (ei,xi,own2)) (hc:comm ej ei=true) :
  ∃ own1',fi (hide vi n0 own) own=some (ei,xi,own1')/\fj (hide vj n0 own1') own1'=some (ej,xj,own2):=by
 have e1:=hj h1
 have e2:=hi h2
 by_cases hpj:ej=.p
 ·subst hpj
  obtain ⟨rfl,g⟩:=e1
  exact ⟨own2,h2,g _ _⟩
 by_cases hpi:ei=.p
 ·subst hpi
  obtain ⟨rfl,g⟩:=e2
  exact ⟨own,g _ _,h1⟩
 have slotj:∀ {s':Nat},sj.map (n0+·)=some s'->∃ s,sj=some s/\s'=n0+s:=fun h=>by
  obtain ⟨s,hs,he⟩:=map_some h
  exact ⟨s,hs,he⟩
 have sloti:∀ {s':Nat},si.map (n0+·)=some s'->∃ s,si=some s/\s'=n0+s:=fun h=>by
  obtain ⟨s,hs,he⟩:=map_some h
  exact ⟨s,hs,he⟩
 cases ej with
 | p=>exact absurd rfl hpj
 | r =>
  obtain ⟨rfl,g⟩:=e1
  cases ei with
  | p=>exact absurd rfl hpi
  | r=>obtain ⟨rfl,_⟩:=e2; exact ⟨_,h2,h1⟩
  | rl l i o n=>obtain ⟨rfl,_⟩:=e2; exact ⟨_,h2,h1⟩
  | a =>
   obtain ⟨s',O,q1,q2,rfl,q4⟩:=e2
   obtain ⟨s,hs,rfl⟩:=sloti q1
   refine ⟨_,h2,?_⟩
   rw [yw (c2 s hs)]
   exact g _
  | w l i o n=>simp [comm] at hc
  | k i s=>simp [comm] at hc
  | x=>simp [comm] at hc
 | rl l i o n =>
  obtain ⟨rfl,c,hc1,g⟩:=e1
  cases ei with
  | p=>exact absurd rfl hpi
  | r=>obtain ⟨rfl,_⟩:=e2; exact ⟨_,h2,h1⟩
  | rl l i o n=>obtain ⟨rfl,_⟩:=e2; exact ⟨_,h2,h1⟩
  | a =>
   obtain ⟨s',O,q1,q2,rfl,q4⟩:=e2
   obtain ⟨s,hs,rfl⟩:=sloti q1
   refine ⟨_,h2,?_⟩
   rw [yw (c2 s hs)]
   exact g _ _ c hc1 (fun _ _ _=>rfl)
  | w l' i' o' n' =>
   obtain ⟨rfl,c2',xs,q1,rfl,q3,rfl,q5⟩:=e2
   have hne:(l==l'&&i==i')=false∨o+n<=o'∨o'+xs.length<=o:=by
    simp only [comm,Bool.or_eq_true,Bool.not_eq_true',decide_eq_true_eq] at hc
    rcases hc with (hc | hc) | hc
    ·exact .inl hc
    ·exact .inr (.inl hc)
    ·exact .inr (.inr hc)
   obtain ⟨c',hc',hag⟩:=look_hide_w (n:=n) hc1 q1 q3 hne
   exact ⟨_,q5 _,g _ _ c' hc' hag⟩
  | k i' s' =>
   obtain ⟨q1,O,rfl⟩:=e2
   obtain ⟨s,hs,rfl⟩:=sloti q1
   have hne:i≠i':=by simpa [comm] using hc
   refine ⟨_,h2,g _ _ c ?_ (fun _ _ _=>rfl)⟩
   rw [yw (c2 s hs)]
   exact YS hne hc1
  | x=>simp [comm] at hc
 | a =>
  obtain ⟨s',O,q1,q2,rfl,q4⟩:=e1
  obtain ⟨s,hs,rfl⟩:=slotj q1
  cases ei with
  | p=>exact absurd rfl hpi
  | r =>
   obtain ⟨rfl,g⟩:=e2
   rw [yw (c1 s hs)] at g
   exact ⟨_,g _,h1⟩
  | rl l i o n =>
   obtain ⟨rfl,c,hc1,g⟩:=e2
   rw [yw (c1 s hs)] at hc1
   exact ⟨_,g _ _ c hc1 (fun _ _ _=>rfl),h1⟩
  | a =>
   obtain ⟨s2',O2,r1,r2,rfl,r4⟩:=e2
   obtain ⟨s2,hs2,rfl⟩:=sloti r1
   rw [yw (c1 s hs)] at r4
   have hne:s≠s2:=fun h=>c3 s hs (h ▸ hs2)
   have hne':n0+s≠n0+s2:=by omega
   rw [zbq hne'] at r2
   refine ⟨_,r4 _ r2,?_⟩
   rw [yw (c2 s2 hs2),List.set_comm _ _ hne']
   exact q4 _ (by rw [zbq (Ne.symm hne')]; exact q2)
  | w l i o n=>simp [comm] at hc
  | k i s=>simp [comm] at hc
  | x=>simp [comm] at hc
 | w l i o n =>
  cases ei with
  | p=>exact absurd rfl hpi
  | rl l' i' o' n' =>
   obtain ⟨rfl,c2',xs,q1,rfl,q3,rfl,q5⟩:=e1
   obtain ⟨rfl,c,hc1,g⟩:=e2
   have hne:(l'==l&&i'==i)=false∨o'+n'<=o∨o+xs.length<=o':=by
    simp only [comm,Bool.or_eq_true,Bool.not_eq_true',decide_eq_true_eq] at hc
    rcases hc with (hc | hc) | hc
    ·refine .inl ?_
     simp only [Bool.and_eq_false_iff,beq_eq_false_iff_ne] at hc ⊢
     exact hc.imp (fun h=>Ne.symm h) (fun h=>Ne.symm h)
    ·exact .inr (.inr hc)
    ·exact .inr (.inl hc)
   obtain ⟨c',hc',hag⟩:=look_hide_w' (n:=n') hc1 q1 q3 hne
   exact ⟨_,g _ _ c' hc' hag,h1⟩
  | _=>simp [comm] at hc
 | k i s' =>
  obtain ⟨q1,O,rfl⟩:=e1
  obtain ⟨s,hs,rfl⟩:=slotj q1
  cases ei with
  | p=>exact absurd rfl hpi
  | rl l i2 o n =>
   obtain ⟨rfl,c,hc1,g⟩:=e2
   have hne:i2≠i:=by simpa [comm] using hc
   rw [yw (c1 s hs)] at hc1
   exact ⟨_,g _ _ c (YT hne hc1) (fun _ _ _=>rfl),h1⟩
  | _=>simp [comm] at hc
 | x=>cases ei <;> first | exact absurd rfl hpi | simp [comm] at hc
structure Loose (oj oi:IOpR):Prop where
 apart:apartI oj oi=true
 c1:∀ s,oj.op.slot?=some s->oi.vis.contains s=false
 c2:∀ s,oi.op.slot?=some s->oj.vis.contains s=false
 c3:∀ s,oj.op.slot?=some s->oi.op.slot?≠some s
theorem put_len {dst:Option Nat} {v:IV}:(put t dst v).length=t.length:=by
 cases dst with
 | none=>rfl
 | some i=>rw [zK,List.length_set]
theorem put_agree {dst:Option Nat} {v:IV} {l:List Nat} (h:∀ x,dst=some x->x ∉ l):Agree t (put t dst v) l:=fun i hi=>by
 cases dst with
 | none=>rfl
 | some x =>
  rw [zK,zR,zR,zbf,zbf,zbq]
  intro hx
  exact h x rfl (hx ▸ hi)
theorem put_comm {d1 d2:Option Nat} {v1 v2:IV} (h:∀ x,d1=some x->d2≠some x):put (put t d1 v1) d2 v2=put (put t d2 v2) d1 v1:=by
 cases d1 with
 | none=>rfl
 | some x =>
  cases d2 with
  | none=>rfl
  | some y =>
   rw [zK,zK,zK,zK,List.set_comm]
   intro hx
   exact h x rfl (by rw [hx])
theorem Loose.apart' {oj oi:IOpR} (h:Loose oj oi):(∀ x,oj.dst=some x->x ∉ oi.reads/\oi.dst≠some x)/\∀ x,oi.dst=some x->x ∉ oj.reads:=by
 have ha:=h.apart
 unfold apartI at ha
 rw [za3] at ha
 constructor
 ·intro x hx
  have h1:=ha.1
  rw [hx] at h1
  simp only [za3,Bool.not_eq_true',bne_iff_ne] at h1
  exact ⟨fun hm=>by simp at h1; exact h1.1 hm,h1.2⟩
 ·intro x hx
  have h1:=ha.2
  rw [hx] at h1
  simp only [Bool.not_eq_true'] at h1
  exact fun hm=>by simp at h1; exact h1 hm
theorem swapR (hC:CallE C) {oj oi:IOpR} {st st1 st2:St} (hl:Loose oj oi) (h1:stepR C d out true n0 oj st=some (ej,st1)) (h2:stepR C d out true n0 oi st1=some (ei,st2)) (hc:comm ej ei=true) :
  ∃ st1',stepR C d out true n0 oi st=some (ei,st1')/\stepR C d out true n0 oj st1'=some (ej,st2):=by
 obtain ⟨a1,a2⟩:=hl.apart'
 rw [ZW] at h1 h2
 obtain ⟨⟨e1,v1,o1⟩,g1,k1⟩:=map_some h1
 cases k1
 obtain ⟨⟨e2,v2,o2⟩,g2,k2⟩:=map_some h2
 cases k2
 simp only [if_true] at g1 g2
 have ag:∀ oV o,fR C d out n0 oi (put st.t oj.dst v1) oV o=fR C d out n0 oi st.t oV o:=fun oV o =>
  (fR_agree (put_agree fun x hx=>(a1 x hx).1) put_len.symm).symm
 rw [ag] at g2
 obtain ⟨o1',r1,r2⟩:=swap_f (fj:=fR C d out n0 oj st.t) (fi:=fR C d out n0 oi st.t) (sj:=oj.op.slot?) (si:=oi.op.slot?) (fun h=>fR_eff hC h) (fun h=>fR_eff hC h) hl.c1 hl.c2 hl.c3 g1 g2 hc
 refine ⟨⟨put st.t oi.dst v2,o1'⟩,?_,?_⟩
 ·rw [ZW]
  simp only [if_true]
  rw [r1]
  rfl
 ·rw [ZW]
  simp only [if_true]
  rw [← fR_agree (put_agree a2) put_len.symm,r2]
  simp only [za5,zao,Prod.mk.injEq,true_and]
  rw [put_comm fun x hx=>(a1 x hx).2]
end
inductive Runs (C:Call) (d:Nat) (out:yLM) (n0:Nat) (l:List IOpR) (es:List Eff):List Nat->St->St->Prop where
 | nil (st:St):Runs C d out n0 l es [] st st
 | cons {i:Nat} {is:List Nat} {o:IOpR} {e:Eff} {st st1 st2:St} (ho:l[i]?=some o) (he:es[i]?=some e) (hs:stepR C d out true n0 o st=some (e,st1)) (hr:Runs C d out n0 l es is st1 st2):Runs C d out n0 l es (i::is) st st2
section
variable {C:Call} {d:Nat} {out:yLM} {n0:Nat} {l:List IOpR} {es:List Eff}
theorem Runs.front (hC:CallE C) {i:Nat} {post:List Nat}:∀ {pre:List Nat} {st st2:St},(∀ j∈pre,∀ (oj oi:IOpR) (ej ei:Eff),l[j]?=some oj->l[i]?=some oi->es[j]?=some ej->es[i]?=some ei->Loose oj oi/\comm ej ei=true)->Runs C d out n0 l es (pre++i::post) st st2->Runs C d out n0 l es (i::(pre++post)) st st2
 | [],st,st2,_,h=>h
 | j::pre,st,st2,hp,h=>by
  cases h with
  | cons ho he hs hr =>
   have ih:=Runs.front hC (fun k hk=>hp k (List.mem_cons_of_mem _ hk)) hr
   cases ih with
   | cons ho2 he2 hs2 hr2 =>
    obtain ⟨hl,hc⟩:=hp j (zbn ..) _ _ _ _ ho ho2 he he2
    obtain ⟨st',q1,q2⟩:=swapR hC hl hs hs2 hc
    exact .cons ho2 he2 q1 (.cons ho he q2 hr2)
end
end
section
def Fits (P:Program) (ops:Array Oper) (o:Oper) (r:IOpR):Prop:=r.dst=o.dst/\(∃ slot,cOp P o.op slot=some r.op)/\cGuard ops o.guard=some r.guard
section
variable {P:Program} {ops:Array Oper} {B:Nat} {W0:World} {C:Call} {d:Nat} {out:yLM} {n0:Nat} {Q:Exit->Act->World->Prop}
theorem YU:∀ {L:List Oper} {s s':Nat} {l:List IOpR},cOps P ops L s=some (l,s')->l.length=L.length/\∀ (i:Nat) (o:Oper),L[i]?=some o->∃ r,l[i]?=some r/\Fits P ops o r
 | [],s,s',l,h=>by
  simp only [cOps,zao,Prod.mk.injEq] at h
  obtain ⟨rfl,rfl⟩:=h
  exact ⟨rfl,fun i o h=>by simp at h⟩
 | o::rest,s,s',l,h=>by
  simp only [cOps] at h
  split at h
  ·rename_i op g h1 h2
   split at h
   ·rename_i l2 s2 h3
    cases h
    obtain ⟨q1,q2⟩:=YU h3
    refine ⟨by simp [q1],fun i o' hi=>?_⟩
    cases i with
    | zero =>
     simp only [za8,zao] at hi
     subst hi
     exact ⟨_,rfl,rfl,⟨s,h1⟩,h2⟩
    | succ i =>
     simp only [za1] at hi ⊢
     exact q2 i o' hi
   ·simp at h
  ·simp at h
theorem text_wp (hC:CallOK P B W0 C):∀ (L:List Oper) (l:List IOpR) (k:Nat) (st st':St) (es:List Eff) (a:Act) (W:World) (β:Pl),(∀ j,L[j]?=ops[k+j]?)->l.length=L.length->(∀ (i:Nat) (o:Oper),L[i]?=some o->∃ r,l[i]?=some r/\Fits P ops o r) ->
  runR C d out false n0 l st=some (es,st')->Base B W0 β W->TR β W st.t a.tmps->RS β (look d out st.own) W ->
  (∀ (β':Pl) (W':World) (a':Act),TR β' W' st'.t a'.tmps->RS β' (look d out st'.own) W'->Fr d β W β' W'->a'.defers=a.defers->Q .normal a' W')->wpOps P ops Q (List.range' k L.length) a W
 | [],l,k,st,st',es,a,W,β,hL,hl,hf,hs,hb,ht,hR,hQ=>by
  have:l=[]:=by simpa using hl
  subst this
  simp only [runR,zao,Prod.mk.injEq] at hs
  obtain ⟨_,rfl⟩:=hs
  simp only [zbc,List.range'_zero,wpOps]
  exact hQ β W a ht hR (Fr.refl _ _ _) rfl
 | o::L,l,k,st,st',es,a,W,β,hL,hl,hf,hs,hb,ht,hR,hQ=>by
  cases l with
  | nil=>simp at hl
  | cons r l =>
   obtain ⟨r',hr,hfit⟩:=hf 0 o rfl
   simp only [za8,zao] at hr
   subst hr
   obtain ⟨h1,⟨slot,h2⟩,h3⟩:=hfit
   simp only [runR] at hs
   split at hs
   ·rename_i e st1 he
    split at hs
    ·rename_i es2 st2 hr2
     cases hs
     rw [zau,List.range'_succ,wpOps_cons]
     have hok:ops[k]?=some o:=by simpa using (hL 0).symm
     refine op_wp hC hb hok h1 h2 h3 ht hR he fun β1 W1 a1 g1 g2 g3 g4=>?_
     refine text_wp hC L l (k+1) st1 st' es2 a1 W1 β1 (fun j=>?_) (by simpa using hl) (fun i o' hi=>?_) hr2 (hb.fr g3) g1 g2 (fun β2 W2 a2 k1 k2 k3 k4=>hQ β2 W2 a2 k1 k2 (g3.trans k3) (k4.trans g4))
     ·have:=hL (j+1)
      rw [za1] at this
      rw [this]
      congr 1
      omega
     ·obtain ⟨r2,q1,q2⟩:=hf (i+1) o' (by simpa using hi)
      exact ⟨r2,by simpa using q1,q2⟩
    ·simp at hs
   ·simp at hs
theorem before_spec {b:Array Nat} {o:Oper} {j:Nat} (h:(beforeOne b o).testBit j=true):∃ e∈o.after,Region.binds .any e=true/\(e.on=j∨(b.getD e.on 0).testBit j=true):=by
 have key:∀ (l:List Edge) (s:Nat),(l.foldl (fun s e=>if Region.binds .any e then s ||| 2 ^ e.on ||| b.getD e.on 0 else s) s).testBit j=true->s.testBit j=true∨∃ e∈l,Region.binds .any e=true/\(e.on=j∨(b.getD e.on 0).testBit j=true):=by
  intro l
  induction l with
  | nil=>intro s h; exact .inl h
  | cons e l ih =>
   intro s h
   rw [List.foldl_cons] at h
   rcases ih _ h with h | ⟨e',h1,h2⟩
   ·by_cases hb:Region.binds .any e=true
    ·rw [if_pos hb] at h
     rw [Nat.testBit_or,Nat.testBit_or,Bool.or_eq_true,Bool.or_eq_true] at h
     rcases h with (h | h) | h
     ·exact .inl h
     ·exact .inr ⟨e,zbn ..,hb,.inl (by rw [Nat.testBit_two_pow] at h; simpa using h)⟩
     ·exact .inr ⟨e,zbn ..,hb,.inr h⟩
    ·rw [if_neg hb] at h
     exact .inl h
   ·exact .inr ⟨e',List.mem_cons_of_mem _ h1,h2⟩
 unfold beforeOne at h
 rw [← Array.foldl_toList] at h
 rcases key _ _ h with h | ⟨e,h1,h2⟩
 ·simp at h
 ·exact ⟨e,Array.mem_toList_iff.1 h1,h2⟩
structure RegOK (P:Program) (ops:Array Oper) (b:Array Nat) (l:List IOpR) (es:List Eff):Prop where
 len:l.length=ops.size
 fit:∀ (i:Nat) (o:Oper),ops[i]?=some o->∃ r,l[i]?=some r/\Fits P ops o r
 loose:∀ (j i:Nat) (oj oi:IOpR) (ej ei:Eff),j<i->(b.getD i 0).testBit j=false->l[j]?=some oj->l[i]?=some oi->es[j]?=some ej->es[i]?=some ei->Loose oj oi/\comm ej ei=true
 back:∀ (i:Nat) (o:Oper),ops[i]?=some o->∀ e∈o.after,Region.binds .any e=true->e.on<i
 bit:∀ (i:Nat) (o:Oper),ops[i]?=some o->b.getD i 0=beforeOne b o
def rest (n:Nat) (listed:Array Bool):List Nat:=(List.range n).filter fun i=>!listed.getD i true
theorem yj {n i:Nat} {listed:Array Bool}:i∈rest n listed↔i<n/\listed.getD i true=false:=by
 unfold rest
 simp
theorem getD_set {listed:Array Bool} {i k:Nat} {z:Bool} (hi:i<listed.size):(listed.setIfInBounds i true).getD k z=if k=i then true else listed.getD k z:=by
 by_cases hk:k=i
 ·subst hk
  rw [if_pos rfl]
  simp [Array.getD,hi]
 ·rw [if_neg hk]
  simp only [Array.getD_eq_getD_getElem?]
  rw [Array.getElem?_setIfInBounds_ne (Ne.symm hk)]
theorem rest_set {n i:Nat} {listed:Array Bool} (hi:i<listed.size):rest n (listed.setIfInBounds i true)=(rest n listed).filter fun k=>k != i:=by
 unfold rest
 rw [List.filter_filter]
 congr 1
 funext k
 rw [getD_set hi]
 by_cases hk:k=i
 ·simp [hk]
 ·simp [hk]
theorem rest_split {n i:Nat} {listed:Array Bool} (h:i∈rest n listed):∃ pre post,rest n listed=pre++i::post/\(∀ j∈pre,j<i)/\((rest n listed).filter fun k=>k != i)=pre++post:=by
 obtain ⟨pre,post,hp⟩:=List.append_of_mem h
 have hs:(rest n listed).Pairwise (·<·):=List.Pairwise.filter _ List.pairwise_lt_range
 rw [hp] at hs
 rw [List.pairwise_append] at hs
 obtain ⟨h1,h2,h3⟩:=hs
 rw [zbx] at h2
 refine ⟨pre,post,hp,fun j hj=>h3 j hj i (zbn ..),?_⟩
 rw [hp,List.filter_append,List.filter_cons]
 have g1:pre.filter (fun k=>k != i)=pre:=List.filter_eq_self.2 fun j hj=>by
  have:=h3 j hj i (zbn ..)
  simp; omega
 have g2:post.filter (fun k=>k != i)=post:=List.filter_eq_self.2 fun j hj=>by
  have:=h2.1 j hj
  simp; omega
 rw [g1,g2]
 simp
theorem any_wp (hC:CallOK P B W0 C) (hE:CallE C) {b:Array Nat} {l:List IOpR} {es:List Eff} (ok:RegOK P ops b l es):∀ (fuel:Nat) (listed:Array Bool) (st st':St) (a:Act) (W:World) (β:Pl),listed.size=ops.size->(rest ops.size listed).length=fuel ->
  (∀ (i j:Nat),listed.getD i false=true->(b.getD i 0).testBit j=true->listed.getD j false=true)->Runs C d out n0 l es (rest ops.size listed) st st'->Base B W0 β W->TR β W st.t a.tmps->RS β (look d out st.own) W ->
  (∀ (β':Pl) (W':World) (a':Act),TR β' W' st'.t a'.tmps->RS β' (look d out st'.own) W'->Fr d β W β' W'->a'.defers=a.defers->Q .normal a' W')->wpAny P .any ops Q fuel listed a W
 | 0,listed,st,st',a,W,β,hsz,hfu,hcl,hr,hb,ht,hR,hQ=>by
  have hn:rest ops.size listed=[]:=zbb.1 hfu
  rw [hn] at hr
  cases hr
  refine ⟨?_,hQ β W a ht hR (Fr.refl _ _ _) rfl⟩
  unfold Region.ready
  rw [List.filter_eq_nil_iff]
  intro i hi
  have h1:i ∉ rest ops.size listed:=by rw [hn]; simp
  rw [yj] at h1
  simp only [List.mem_range] at hi
  have h2:listed.getD i true=true:=by
   cases h:listed.getD i true
   ·exact absurd ⟨hi,h⟩ h1
   ·rfl
  rw [h2]
  simp
 | fuel+1,listed,st,st',a,W,β,hsz,hfu,hcl,hr,hb,ht,hR,hQ=>by
  constructor
  ·intro hnil
   exfalso
   cases hre:rest ops.size listed with
   | nil=>rw [hre] at hfu; simp at hfu
   | cons i is =>
    have hi:i∈rest ops.size listed:=by rw [hre]; exact zbn ..
    have hlt:∀ j,j<i->listed.getD j false=true:=by
     intro j hj
     have h1:i<ops.size:=(yj.1 hi).1
     have hs:(rest ops.size listed).Pairwise (·<·):=List.Pairwise.filter _ List.pairwise_lt_range
     rw [hre,zbx] at hs
     have h2:j ∉ rest ops.size listed:=by
      rw [hre]
      intro hm
      rcases za4.1 hm with rfl | hm
      ·omega
      ·have:=hs.1 j hm; omega
     rw [yj] at h2
     have hjs:j<listed.size:=by omega
     simp only [Array.getD,hjs,dif_pos] at h2 ⊢
     cases h:listed[j]
     ·exact absurd ⟨by omega,h⟩ h2
     ·exact h
    have h1:i∈Region.ready .any ops listed:=by
     unfold Region.ready
     rw [List.mem_filter]
     refine ⟨List.mem_range.2 (yj.1 hi).1,?_⟩
     rw [(yj.1 hi).2,Array.getElem?_eq_getElem (yj.1 hi).1]
     simp only [za5,zba,zbj,Bool.true_and,Array.all_eq_true_iff_forall_mem,Bool.or_eq_true,Bool.not_eq_true']
     intro e he
     cases hb:Region.binds .any e
     ·exact .inl rfl
     ·exact .inr (hlt _ (ok.back i _ (Array.getElem?_eq_getElem (yj.1 hi).1) e he hb))
    rw [hnil] at h1
    simp at h1
  ·intro i hi
   unfold Region.ready at hi
   rw [List.mem_filter] at hi
   obtain ⟨hi1,hi2⟩:=hi
   rw [List.mem_range] at hi1
   rw [za3] at hi2
   obtain ⟨hi2,hi3⟩:=hi2
   have hin:i∈rest ops.size listed:=yj.2 ⟨hi1,by simpa using hi2⟩
   have hio:ops[i]?=some ops[i]:=Array.getElem?_eq_getElem hi1
   rw [hio] at hi3
   simp only [za5,zba,Array.all_eq_true_iff_forall_mem,Bool.or_eq_true,Bool.not_eq_true'] at hi3
   have hbits:∀ j,(b.getD i 0).testBit j=true->listed.getD j false=true:=by
    intro j hj
    rw [ok.bit i _ hio] at hj
    obtain ⟨e,he,hbd,hh⟩:=before_spec hj
    have h1:listed.getD e.on false=true:=(hi3 e he).resolve_left (by rw [hbd]; simp)
    rcases hh with rfl | hh
    ·exact h1
    ·exact hcl _ _ h1 hh
   obtain ⟨pre,post,hsp,hlt,hfil⟩:=rest_split hin
   rw [hsp] at hr
   have hfr:=Runs.front hE (fun j hj oj oi ej ei h1 h2 h3 h4=>ok.loose j i oj oi ej ei (hlt j hj) (by
    cases hb:(b.getD i 0).testBit j
    ·rfl
    ·have h5:=hbits j hb
     have h6:j∈rest ops.size listed:=by rw [hsp]; exact List.mem_append_left _ hj
     rw [yj] at h6
     have hjs:j<listed.size:=by omega
     simp only [Array.getD,hjs,dif_pos] at h5 h6
     rw [h5] at h6
     simp at h6) h1 h2 h3 h4) hr
   cases hfr with
   | cons ho he hs hr2 =>
    rename_i r e st1
    obtain ⟨r',hr',g1,⟨slot,g2⟩,g3⟩:=ok.fit i _ hio
    rw [ho] at hr'
    cases hr'
    have hil:i<listed.size:=by omega
    refine op_wp hC hb hio g1 g2 g3 ht hR hs fun β1 W1 a1 k1 k2 k3 k4=>?_
    have hrest:rest ops.size (listed.setIfInBounds i true)=pre++post:=by rw [rest_set hil,hfil]
    refine any_wp hC hE ok fuel _ st1 st' a1 W1 β1 (by simpa using hsz) ?_ ?_ (by rw [hrest]; exact hr2) (hb.fr k3) k1 k2 (fun β2 W2 a2 q1 q2 q3 q4=>hQ β2 W2 a2 q1 q2 (k3.trans q3) (q4.trans k4))
    ·rw [hrest]
     rw [hsp] at hfu
     simp only [zaw,zau] at hfu ⊢
     omega
    ·intro i' j' h1 h2
     rw [getD_set hil] at h1 ⊢
     by_cases hj:j'=i
     ·rw [if_pos hj]
     ·rw [if_neg hj]
      by_cases hii:i'=i
      ·subst hii
       exact hbits j' h2
      ·rw [if_neg hii] at h1
       exact hcl i' j' h1 h2
theorem Yt {l:List IOpR} {es:List Eff}:∀ {l':List IOpR} {es':List Eff} {k:Nat} {st st':St},(∀ j,l'[j]?=l[k+j]?)->(∀ j,es'[j]?=es[k+j]?)->runR C d out true n0 l' st=some (es',st')->Runs C d out n0 l es (List.range' k l'.length) st st'
 | [],es',k,st,st',hl,he,h=>by
  simp only [runR,zao,Prod.mk.injEq] at h
  obtain ⟨rfl,rfl⟩:=h
  exact .nil _
 | r::l',es',k,st,st',hl,he,h=>by
  simp only [runR] at h
  split at h
  ·rename_i e st1 h1
   split at h
   ·rename_i es2 st2 h2
    cases h
    rw [zau,List.range'_succ]
    refine .cons (by simpa using (hl 0).symm) (by simpa using (he 0).symm) h1 (Yt (fun j=>?_) (fun j=>?_) h2)
    ·have:=hl (j+1)
     rw [za1] at this
     rw [this]; congr 1; omega
    ·have:=he (j+1)
     rw [za1] at this
     rw [this]; congr 1; omega
   ·simp at h
  ·simp at h
end
end
section
section
variable {P:Program} {ops:Array Oper} {B:Nat} {W0:World} {C:Call} {d:Nat} {out:yLM} {n0:Nat}
theorem YV {x y:IOpR} (h1:apartI x y=true) (h2:slotApart x y=true):Loose x y:=by
 unfold slotApart at h2
 rw [za3] at h2
 refine ⟨h1,fun s hs=>?_,fun s hs=>?_,fun s hs=>?_⟩
 ·have:=h2.1
  rw [hs] at this
  simp only [za3,Bool.not_eq_true'] at this
  exact this.1
 ·have:=h2.2
  rw [hs] at this
  simpa using this
 ·have:=h2.1
  rw [hs] at this
  simp only [za3,bne_iff_ne] at this
  exact this.2
theorem mem_pairs {n j i:Nat} (h:j<i) (hi:i<n):(j,i)∈pairs n:=by
 unfold pairs
 rw [List.mem_flatMap]
 exact ⟨i,List.mem_range.2 hi,List.mem_map.2 ⟨j,List.mem_range.2 h,rfl⟩⟩
theorem withVis_get {b:Array Nat} {l:List IOpR} {i:Nat} {r:IOpR} (h:l[i]?=some r):∃ v,(withVis b l)[i]?=some { r with vis:=v }:=by
 unfold withVis
 rw [List.getElem?_mapIdx,h]
 exact ⟨_,rfl⟩
theorem YW {drawn:Bool}:∀ {l:List IOpR} {es:List Eff} {st st':St},runR C d out drawn n0 l st=some (es,st')->∀ (i:Nat) (r:IOpR) (e:Eff),l[i]?=some r->es[i]?=some e->∃ s1 s2,stepR C d out drawn n0 r s1=some (e,s2)
 | [],es,st,st',h,i,r,e,h1,h2=>by simp at h1
 | q::l,es,st,st',h,i,r,e,h1,h2=>by
  simp only [runR] at h
  split at h
  ·rename_i e1 st1 g1
   split at h
   ·rename_i es2 st2 g2
    cases h
    cases i with
    | zero =>
     simp only [za8,zao] at h1 h2
     subst h1 h2
     exact ⟨_,_,g1⟩
    | succ i =>
     simp only [za1] at h1 h2
     exact YW g2 i r e h1 h2
   ·simp at h
  ·simp at h
theorem quiet_p {drawn:Bool} {r:IOpR} {e:Eff} {s1 s2:St} (hq:r.op.quiet=true) (h:stepR C d out drawn n0 r s1=some (e,s2)):e=.p:=by
 rw [ZW] at h
 obtain ⟨⟨e1,v1,o1⟩,g1,k1⟩:=map_some h
 cases k1
 exact fR_quiet hq g1
theorem comm_p1 {e:Eff}:comm .p e=true:=by cases e <;> rfl
theorem comm_p2 {e:Eff}:comm e .p=true:=by cases e <;> rfl
theorem regOK {b:Array Nat} {l0:List IOpR} {s:Nat} {es:List Eff} {st st':St} {drawn:Bool} (hc:cOps P ops ops.toList 0=some (l0,s)) (hok:regionOK ops b (withVis b l0)=true) (hr:runR C d out drawn n0 (withVis b l0) st=some (es,st'))
  (hcm:((looseP b (withVis b l0).length).filter (loud (withVis b l0))).all (fun (j,i)=>comm (es.getD j .x) (es.getD i .x))=true):RegOK P ops b (withVis b l0) es:=by
 obtain ⟨hl,hf⟩:=YU hc
 have hwl:(withVis b l0).length=l0.length:=by simp [withVis]
 unfold regionOK at hok
 rw [za3,zbu,zbu] at hok
 obtain ⟨k1,k2⟩:=hok
 have k2':∀ (i:Nat) (o:Oper),ops[i]?=some o->(o.after.all (fun e=>!Region.binds .any e||decide (e.on<i))&&b.getD i 0==beforeOne b o)=true:=fun i o ho=>by
  have:=k2 (o,i) (List.mem_zipIdx_iff_getElem?.2 (by simpa using ho))
  simpa using this
 refine ⟨by rw [hwl,hl]; simp,fun i o ho=>?_,fun j i oj oi ej ei hlt hb hj hi hej hei=>?_,fun i o ho e he hbd=>?_,fun i o ho=>?_⟩
 ·obtain ⟨r,h1,h2⟩:=hf i o (by simpa using ho)
  obtain ⟨v,hv⟩:=withVis_get (b:=b) h1
  exact ⟨_,hv,h2⟩
 ·have hil:i<(withVis b l0).length:=(zal.1 hi).1
  have hm:(j,i)∈looseP b (withVis b l0).length:=by
   unfold looseP
   rw [List.mem_filter]
   exact ⟨mem_pairs hlt hil,by simp only [hb,zbj]⟩
  have h1:=k1 _ hm
  simp only [hj,hi,za3] at h1
  refine ⟨YV h1.1 h1.2,?_⟩
  by_cases hq1:oj.op.quiet=true
  ·obtain ⟨s1,s2,hs⟩:=YW hr j oj ej hj hej
   rw [quiet_p hq1 hs]
   exact comm_p1
  by_cases hq2:oi.op.quiet=true
  ·obtain ⟨s1,s2,hs⟩:=YW hr i oi ei hi hei
   rw [quiet_p hq2 hs]
   exact comm_p2
  rw [zbu] at hcm
  have h2:=hcm (j,i) (List.mem_filter.2 ⟨hm,by simp only [loud,hj,hi]; simp [hq1,hq2]⟩)
  simp only at h2
  rw [zbf,zbf,hej,hei] at h2
  exact h2
 ·have:=k2' i o ho
  rw [za3] at this
  have h3:=Array.all_eq_true_iff_forall_mem.1 this.1 e he
  rw [hbd] at h3
  simpa using h3
 ·have:=k2' i o ho
  rw [za3] at this
  simpa using this.2
def exitOf:Out->Exit
 | .normal=>.normal
 | .exit id=>.exit id
 | .ret=>.ret
def Ends (d:Nat) (out:yLM) (β:Pl) (W:World) (a:Act) (Q:Exit->Act->World->Prop) (o:Out) (st':St):Prop:=∀ (β':Pl) (W':World) (a':Act),TR β' W' st'.t a'.tmps->RS β' (look d out st'.own) W'->Fr d β W β' W'->a'.defers=a.defers->Q (exitOf o) a' W'
theorem Ends.step {β β1:Pl} {W W1:World} {a a1:Act} {Q:Exit->Act->World->Prop} {o:Out} {st':St} (h:Ends d out β W a Q o st') (h1:Fr d β W β1 W1) (h2:a1.defers=a.defers):Ends d out β1 W1 a1 Q o st' :=
 fun β' W' a' g1 g2 g3 g4=>h β' W' a' g1 g2 (h1.trans g3) (g4.trans h2)
theorem region_sim (hC:CallOK P B W0 C) (hE:CallE C) (hm:P.follows .mixedOrders=true) {id:Nat} {drawn dr:Bool} {s:Nat} {l:List IOpR} {fr:List (Nat × Nat)} {st st':St} {o:Out} {β:Pl} {W:World} {a:Act} {Q:Exit->Act->World->Prop}
  (hc:cRegion P ops drawn=some (.region dr s l fr)) (hx:regionX C d out dr s l fr st=some (o,st')) (hb:Base B W0 β W) (ht:TR β W st.t a.tmps) (hR:RS β (look d out st.own) W) (hQ:Ends d out β W a Q o st'):(Code.region id ops drawn).wp P Q a W:=by
 unfold cRegion at hc
 split at hc
 ·simp at hc
 rename_i l0 s0 hco
 unfold regionX at hx
 split at hx
 ·rename_i es st1 hrun
  rw [zf] at hrun
  cases drawn
  ·simp only [zaz,if_false,zao,IC.region.injEq] at hc
   obtain ⟨rfl,rfl,rfl,rfl⟩:=hc
   simp only [zbj,Bool.true_or,if_true] at hx
   cases hx
   obtain ⟨hl,hf⟩:=YU hco
   refine wp_region ?_
   have:=text_wp (Q:=Q) hC ops.toList l0 0 _ st' es a W β (fun j=>by simp) hl hf hrun hb ht (hR.more s0) hQ
   rw [List.range_eq_range']
   simpa using this
  ·simp only [if_true] at hc
   unfold drawnR at hc
   split at hc
   ·rename_i hok
    simp only [zao,IC.region.injEq] at hc
    obtain ⟨rfl,rfl,rfl,rfl⟩:=hc
    simp only [zbm,Bool.false_or] at hx
    split at hx
    ·rename_i hcm
     cases hx
     have ok:=regOK hco hok hrun hcm
     refine wp_region_any hm ?_
     have hfr:Fr d β W β { W with drawn:=W.drawn+1 }:=⟨fun _ _ _ h=>h,fun _ _ _ _ h=>.inl h,fun _ _ _=>rfl,zaq _,fun _ c _ _ h=>⟨c,h,rfl⟩,rfl,rfl,rfl⟩
     have hrest:rest ops.size (Array.replicate ops.size false)=List.range ops.size:=by
      unfold rest
      rw [List.filter_eq_self]
      intro i hi
      rw [List.mem_range] at hi
      simp [Array.getD,hi]
     refine any_wp (n0:=st.own.length) (st:=⟨st.t,st.own++List.replicate s0 .free⟩) (st':=st') (β:=β) hC hE ok ops.size _ a _ (by simp) (by rw [hrest]; simp) ?_ ?_ (hb.fr hfr) (ht.ext hfr.ext) ((hR.more s0).same (W':={ W with drawn:=W.drawn+1 }) rfl) (hQ.step hfr rfl)
     ·intro i j h1
      simp only [Array.getD] at h1
      split at h1
      ·simp at h1
      ·simp at h1
     ·rw [hrest,← ok.len,List.range_eq_range']
      exact Yt (fun j=>by simp) (fun j=>by simp) hrun
    ·simp at hx
   ·simp at hc
 ·simp at hx
theorem cRegion_form {drawn:Bool} {ic:IC} (h:cRegion P ops drawn=some ic):∃ dr s l fr,ic=.region dr s l fr:=by
 unfold cRegion at h
 split at h
 ·simp at h
 ·split at h
  ·unfold drawnR at h
   split at h
   ·cases h; exact ⟨_,_,_,_,rfl⟩
   ·simp at h
  ·cases h; exact ⟨_,_,_,_,rfl⟩
theorem YX (hC:CallOK P B W0 C) (hE:CallE C) (hm:P.follows .mixedOrders=true) {n:Nat}:∀ (c:Code) {ic:IC} {st st':St} {o:Out} {β:Pl} {W:World} {a:Act} {Q:Exit->Act->World->Prop},
  cCode P c=some ic->exec C d out n ic st=some (o,st')->Base B W0 β W->TR β W st.t a.tmps->RS β (look d out st.own) W->Ends d out β W a Q o st'->c.wp P Q a W:=by
 intro c
 induction c with
 | skip =>
  intro ic st st' o β W a Q hc hx hb ht hR hQ
  simp only [cCode,zao] at hc
  subst hc
  simp only [exec,zao,Prod.mk.injEq] at hx
  obtain ⟨rfl,rfl⟩:=hx
  exact wp_skip (hQ β W a ht hR (Fr.refl _ _ _) rfl)
 | ret =>
  intro ic st st' o β W a Q hc hx hb ht hR hQ
  simp only [cCode,zao] at hc
  subst hc
  simp only [exec,zao,Prod.mk.injEq] at hx
  obtain ⟨rfl,rfl⟩:=hx
  exact wp_ret (hQ β W a ht hR (Fr.refl _ _ _) rfl)
 | exit id =>
  intro ic st st' o β W a Q hc hx hb ht hR hQ
  simp only [cCode,zao] at hc
  subst hc
  simp only [exec,zao,Prod.mk.injEq] at hx
  obtain ⟨rfl,rfl⟩:=hx
  exact wp_exit (hQ β W a ht hR (Fr.refl _ _ _) rfl)
 | region id ops draw =>
  intro ic st st' o β W a Q hc hx hb ht hR hQ
  simp only [cCode] at hc
  obtain ⟨dr,s,l,fr,rfl⟩:=cRegion_form hc
  simp only [exec] at hx
  exact region_sim hC hE hm hc hx hb ht hR hQ
 | seq x y ih1 ih2 =>
  intro ic st st' o β W a Q hc hx hb ht hR hQ
  simp only [cCode] at hc
  split at hc
  ·rename_i i1 i2 h1 h2
   cases hc
   simp only [exec] at hx
   unfold seqX at hx
   refine wp_seq ?_
   split at hx
   ·rename_i st1 he
    refine ih1 h1 he hb ht hR fun β1 W1 a1 g1 g2 g3 g4=>?_
    exact ih2 h2 hx (hb.fr g3) g1 g2 (hQ.step g3 g4)
   ·rename_i hne
    refine ih1 h1 hx hb ht hR fun β1 W1 a1 g1 g2 g3 g4=>?_
    have:=hQ β1 W1 a1 g1 g2 g3 g4
    cases o with
    | normal=>exact absurd hx (hne _)
    | exit id=>exact this
    | ret=>exact this
  ·simp at hc
 | cond c x y ih1 ih2 =>
  intro ic st st' o β W a Q hc hx hb ht hR hQ
  simp only [cCode] at hc
  split at hc
  ·rename_i z i1 i2 h0 h1 h2
   cases hc
   simp only [exec] at hx
   unfold condX at hx
   have hv:=ht.eval h0
   split at hx
   ·rename_i hz
    rw [hz] at hv
    generalize hev:a.eval c=u at hv
    cases hv
    exact wp_cond_true hev (ih1 h1 hx hb ht hR hQ)
   ·rename_i hz
    rw [hz] at hv
    generalize hev:a.eval c=u at hv
    cases hv
    exact wp_cond_false hev (ih2 h2 hx hb ht hR hQ)
   ·simp at hx
  ·simp at hc
 | block id x ih =>
  intro ic st st' o β W a Q hc hx hb ht hR hQ
  simp only [cCode] at hc
  obtain ⟨i1,h1,rfl⟩:=map_some hc
  simp only [exec] at hx
  unfold blockX at hx
  refine wp_block ?_
  split at hx
  ·rename_i j st1 he
   split at hx
   ·rename_i hj
    cases hx
    refine ih h1 he hb ht hR fun β1 W1 a1 g1 g2 g3 g4=>?_
    simp only [exitOf,Exit.inBlock,if_pos hj]
    exact hQ β1 W1 a1 g1 g2 g3 g4
   ·rename_i hj
    cases hx
    refine ih h1 he hb ht hR fun β1 W1 a1 g1 g2 g3 g4=>?_
    simp only [exitOf,Exit.inBlock,if_neg hj]
    exact hQ β1 W1 a1 g1 g2 g3 g4
  ·rename_i hne
   refine ih h1 hx hb ht hR fun β1 W1 a1 g1 g2 g3 g4=>?_
   have:=hQ β1 W1 a1 g1 g2 g3 g4
   cases o with
   | normal=>exact this
   | exit id=>exact absurd hx (hne _ _)
   | ret=>exact this
 | loop x ih =>
  intro ic st st' o β W a Q hc hx hb ht hR hQ
  simp only [cCode] at hc
  obtain ⟨i1,h1,rfl⟩:=map_some hc
  simp only [exec] at hx
  refine wp_loop_rounds n ?_
  have key:∀ (m:Nat) (st st':St) (o:Out) (β:Pl) (W:World) (a:Act),iter (exec C d out n i1) m st=some (o,st')->Base B W0 β W->TR β W st.t a.tmps->RS β (look d out st.own) W->Ends d out β W a Q o st'->Code.rounds P x Q m a W:=by
   intro m
   induction m with
   | zero=>intro st st' o β W a hx; simp [iter] at hx
   | succ m ihm =>
    intro st st' o β W a hx hb ht hR hQ
    rw [rounds_succ]
    simp only [iter] at hx
    split at hx
    ·rename_i st1 he
     exact ih h1 he hb ht hR fun β1 W1 a1 g1 g2 g3 g4=>ihm _ _ _ _ _ _ hx (hb.fr g3) g1 g2 (hQ.step g3 g4)
    ·rename_i hne
     refine ih h1 hx hb ht hR fun β1 W1 a1 g1 g2 g3 g4=>?_
     have:=hQ β1 W1 a1 g1 g2 g3 g4
     cases o with
     | normal=>exact absurd hx (hne _)
     | exit id=>exact this
     | ret=>exact this
  exact key n st st' o β W a hx hb ht hR hQ
 | _=>intro ic st st' o β W a Q hc; simp [cCode] at hc
end
end
section
theorem zC {α β:Type} {f:α->Option β}:∀ {l:List α} {l':List β},l.mapM f=some l'->l'.length=l.length/\(∀ (j:Nat) (y:β),l'[j]?=some y->∃ x,l[j]?=some x/\f x=some y)
 | [],l',h=>by
  simp only [List.mapM_nil,Option.pure_def,zao] at h
  subst h
  exact ⟨rfl,fun j y h=>by simp at h⟩
 | x::l,l',h=>by
  rw [List.mapM_cons] at h
  cases hx:f x with
  | none=>rw [hx] at h; simp at h
  | some y =>
   rw [hx] at h
   cases hl:l.mapM f with
   | none=>rw [hl] at h; simp at h
   | some l2 =>
    rw [hl] at h
    simp only [Option.bind_eq_bind,za7,Option.pure_def,zao] at h
    subst h
    obtain ⟨h1,h2⟩:=zC hl
    refine ⟨by simp [h1],fun j z hz=>?_⟩
    cases j with
    | zero=>simp only [za8,zao] at hz; subst hz; exact ⟨x,rfl,hx⟩
    | succ j=>simp only [za1] at hz ⊢; exact h2 j z hz
section
variable {lv:Nat} {own':yLO} {β1 β':Pl} {W:World}
theorem or_cell {β:Pl} {k s:Nat} {c:List IV} (h:OR β W k s (.cells c)) (j:Nat) (z:IV) (hz:c[j]?=some z):∃ y,W.cell? ⟨k,s+j,none⟩=some y/\VR β W z y:=by
 obtain ⟨c',t,hh,hc⟩:=h
 obtain ⟨y,hy,hv⟩:=hc j z hz
 refine ⟨y,?_,hv⟩
 simp only [World.cell?,hh,Option.isSome_none,zaz,if_false]
 rw [Nat.add_comm]
 exact hy
theorem zS (H1:∀ l i p,l≠lv->β1 l i=some p->β' l i=some p) (H2:∀ k,Konst β1 W k->Konst β' W k) (H3:∀ i k s o,β1 lv i=some (k,s)->own'[i]?=some o->o.live=true->Konst β' W k/\OR β1 W k s o) :
  ∀ (n:Nat) (v v':IV) (x:Value),VR β1 W v x->freeze n lv own' v=some v'->VR β' W v' x
 | 0,v,v',x,h,hf=>by simp [freeze] at hf
 | n+1,v,v',x,h,hf=>by
  have vrs:∀ {xs xs':List IV} {ys:List Value},VRs β1 W xs ys->xs.mapM (freeze n lv own')=some xs'->VRs β' W xs' ys:=fun {xs xs' ys} hv hm=>by
   obtain ⟨h1,h2⟩:=zC hm
   refine ⟨h1.trans hv.1,fun j a b ha hb=>?_⟩
   obtain ⟨a0,ha0,hfa⟩:=h2 j a ha
   exact zS H1 H2 H3 n a0 a b (hv.2 j a0 b ha0 hb) hfa
  have cells:∀ {cs cs':List IV} {k s:Nat},(∀ (j:Nat) (z:IV),cs[j]?=some z->∃ y,W.cell? ⟨k,s+j,none⟩=some y/\VR β1 W z y)->cs.mapM (freeze n lv own')=some cs' ->
    (∀ (j:Nat) (z:IV),cs'[j]?=some z->∃ y,W.cell? ⟨k,s+j,none⟩=some y/\VR β' W z y):=fun {cs cs' k s} hc hm j z hz=>by
   obtain ⟨h1,h2⟩:=zC hm
   obtain ⟨z0,hz0,hfz⟩:=h2 j z hz
   obtain ⟨y,hy,hv⟩:=hc j z0 hz0
   exact ⟨y,hy,zS H1 H2 H3 n z0 z y hv hfz⟩
  cases v with
  | ptrM l i off =>
   obtain ⟨k,s,hb,rfl⟩:=YJ h
   simp only [freeze] at hf
   split at hf
   ·rename_i hl
    rw [hl] at hb
    split at hf
    ·rename_i c hc
     obtain ⟨cs,hcs,rfl⟩:=map_some hf
     obtain ⟨hk,ho⟩:=H3 i k s _ hb hc rfl
     exact ZP hk (cells (or_cell ho) hcs)
    ·simp at hf
   ·rename_i hl
    cases hf
    exact .ptrM (H1 l i _ hl hb)
  | slM l i off len cap sz tight =>
   obtain ⟨k,s,o',cap',hb,ho,hl1,hl2,htg,hr,rfl⟩:=YK h
   simp only [freeze] at hf
   split at hf
   ·rename_i hl
    rw [hl] at hb
    split at hf
    ·rename_i c hc
     obtain ⟨cs,hcs,rfl⟩:=map_some hf
     cases hseg:seg c off (len*sz) with
     | none=>rw [hseg] at hcs; simp at hcs
     | some sg =>
      rw [hseg] at hcs
      simp only [za7] at hcs
      obtain ⟨hk,hor⟩:=H3 i k s _ hb hc rfl
      obtain ⟨g1,g2⟩:=Ze hseg
      obtain ⟨m1,m2⟩:=zC hcs
      refine slC_mk (fun _=>hk) (fun j z hz=>?_) (m1.trans g1) (zbo hl1 hl2) (fun ht=>?_)
      ·have hne:cap≠0:=by
        intro h0
        have:len=0:=by omega
        have hj:=(zal.1 hz).1
        rw [m1,g1,this,Nat.zero_mul] at hj
        omega
       obtain ⟨z0,hz0,hfz⟩:=m2 j z hz
       obtain ⟨y,hy,hv⟩:=or_cell hor _ _ (g2 j z0 hz0)
       refine ⟨y,?_,zS H1 H2 H3 n z0 z y hv hfz⟩
       rw [← hy,ho.resolve_left hne]
       congr 2
       omega
      ·simp only [za3,beq_iff_eq] at ht
       rw [htg ht.1,ht.2]
    ·simp at hf
   ·rename_i hl
    cases hf
    exact .slM (H1 l i _ hl hb) ho hl1 hl2 htg hr
  | mapM l i =>
   obtain ⟨k,s,hb,rfl⟩:=mapMI h
   simp only [freeze] at hf
   split at hf
   ·rename_i hl
    rw [hl] at hb
    split at hf
    ·rename_i ks vs bs clock hc
     split at hf
     ·rename_i a b ha hb2
      cases hf
      obtain ⟨hk,es,hh,n1,n2,n3,he⟩:=H3 i k s _ hb hc rfl
      obtain ⟨a1,a2⟩:=zC ha
      obtain ⟨b1,b2⟩:=zC hb2
      have hen:∀ (j:Nat),j<a.length->∃ e,es[j]?=some e:=fun j hj=>⟨es[j]'(by omega),Array.getElem?_eq_getElem (by omega)⟩
      refine .mapC (fun j=>(es[j]?).getD ⟨undef,undef,0⟩) hk hh (by omega) (by omega) (fun j hj=>?_) (fun j z hz=>?_) (fun j z hz=>?_)
      ·obtain ⟨e,he'⟩:=hen j hj
       rw [he']; rfl
      ·obtain ⟨e,he'⟩:=hen j (zal.1 hz).1
       obtain ⟨z0,hz0,hfz⟩:=a2 j z hz
       simp only [he',zba]
       exact zS H1 H2 H3 n z0 z _ ((he j e he').1 z0 hz0) hfz
      ·obtain ⟨e,he'⟩:=hen j (by have:=(zal.1 hz).1; omega)
       obtain ⟨z0,hz0,hfz⟩:=b2 j z hz
       simp only [he',zba]
       exact zS H1 H2 H3 n z0 z _ ((he j e he').2.1 z0 hz0) hfz
     ·simp at hf
    ·simp at hf
   ·rename_i hl
    cases hf
    exact .mapM (H1 l i _ hl hb)
  | ptrC cs off =>
   obtain ⟨k,s,hk,hc,rfl⟩:=ptrCI2 h
   simp only [freeze] at hf
   obtain ⟨cs',hcs,rfl⟩:=map_some hf
   exact ZP (H2 k hk) (cells hc hcs)
  | slC cs len sz tight =>
   obtain ⟨k,s,cap',ad,hk,hc,hn,hl,ht,hadd,rfl⟩:=slCI h
   simp only [freeze] at hf
   obtain ⟨cs',hcs,rfl⟩:=map_some hf
   exact ZO (fun hne=>H2 k (hk hne)) (cells hc hcs) ((zC hcs).1.trans hn) hl ht hadd
  | mapC ks vs =>
   simp only [freeze] at hf
   split at hf
   ·rename_i a b ha hb2
    cases hf
    cases h with
    | mapC e hk hm hn hn' he hkv hvv =>
     obtain ⟨a1,a2⟩:=zC ha
     obtain ⟨b1,b2⟩:=zC hb2
     refine .mapC e (H2 _ hk) hm (by omega) (by omega) (fun j hj=>he j (by omega)) (fun j z hz=>?_) (fun j z hz=>?_)
     ·obtain ⟨z0,hz0,hfz⟩:=a2 j z hz
      exact zS H1 H2 H3 n z0 z _ (hkv j z0 hz0) hfz
     ·obtain ⟨z0,hz0,hfz⟩:=b2 j z hz
      exact zS H1 H2 H3 n z0 z _ (hvv j z0 hz0) hfz
   ·simp at hf
  | agg cs =>
   obtain ⟨ws,hw,rfl⟩:=aggI h
   simp only [freeze] at hf
   obtain ⟨cs',hcs,rfl⟩:=map_some hf
   exact YG (vrs hw hcs)
  | tuple cs =>
   obtain ⟨ws,hw,rfl⟩:=tupleI h
   simp only [freeze] at hf
   obtain ⟨cs',hcs,rfl⟩:=map_some hf
   have:=vrs hw hcs
   exact .tuple (by simpa using this.1) (fun j x y hx hy=>this.2 j x y hx (by simpa using hy))
  | fn f a b =>
   obtain ⟨a',b',ha,hb,rfl⟩:=fnI h
   simp only [freeze] at hf
   split at hf
   ·rename_i a2 b2 h1 h2
    cases hf
    have ga:=vrs ha h1
    have gb:=vrs hb h2
    exact .fn (by simpa using ga.1) (by simpa using gb.1) (fun j x y hx hy=>ga.2 j x y hx (by simpa using hy)) (fun j x y hx hy=>gb.2 j x y hx (by simpa using hy))
   ·simp at hf
  | bool b=>simp only [freeze,zao] at hf; subst hf; rw [yZ h]; exact .bool b
  | int k m=>simp only [freeze,zao] at hf; subst hf; rw [ZB h]; exact .int k m
  | str s=>simp only [freeze,zao] at hf; subst hf; rw [Yk h]; exact .str s
  | nilptr=>simp only [freeze,zao] at hf; subst hf; rw [Zb h]; exact .nilptr
  | nilsl=>simp only [freeze,zao] at hf; subst hf; rw [yb h]; exact .nilsl
  | nilmap=>simp only [freeze,zao] at hf; subst hf; rw [nilmapI h]; exact .nilmap
  | nilfn =>
   simp only [freeze,zao] at hf; subst hf
   cases h
   exact .nilfn
end
def noPl:Pl:=fun _ _=>none
theorem yT {lv:Nat} {own':yLO} {β:Pl} {W:World} (H3:∀ i k s o,β lv i=some (k,s)->own'[i]?=some o->o.live=true->k<W.heap.size/\OR β W k s o) :
  ∀ (n:Nat) (v v':IV) (x:Value),VR β W v x->freezeA n lv own' v=some v'->VR noPl W v' x
 | 0,v,v',x,h,hf=>by simp [freezeA] at hf
 | n+1,v,v',x,h,hf=>by
  have H2:∀ k,k<W.heap.size->Konst noPl W k:=fun k hk=>⟨hk,fun l i s h=>by simp [noPl] at h⟩
  have vrs:∀ {xs xs':List IV} {ys:List Value},VRs β W xs ys->xs.mapM (freezeA n lv own')=some xs'->VRs noPl W xs' ys:=fun {xs xs' ys} hv hm=>by
   obtain ⟨h1,h2⟩:=zC hm
   refine ⟨h1.trans hv.1,fun j a b ha hb=>?_⟩
   obtain ⟨a0,ha0,hfa⟩:=h2 j a ha
   exact yT H3 n a0 a b (hv.2 j a0 b ha0 hb) hfa
  have cells:∀ {cs cs':List IV} {k s:Nat},(∀ (j:Nat) (z:IV),cs[j]?=some z->∃ y,W.cell? ⟨k,s+j,none⟩=some y/\VR β W z y)->cs.mapM (freezeA n lv own')=some cs' ->
    (∀ (j:Nat) (z:IV),cs'[j]?=some z->∃ y,W.cell? ⟨k,s+j,none⟩=some y/\VR noPl W z y):=fun {cs cs' k s} hc hm j z hz=>by
   obtain ⟨h1,h2⟩:=zC hm
   obtain ⟨z0,hz0,hfz⟩:=h2 j z hz
   obtain ⟨y,hy,hv⟩:=hc j z0 hz0
   exact ⟨y,hy,yT H3 n z0 z y hv hfz⟩
  cases v with
  | slM l i off len cap sz tight =>
   obtain ⟨k,s,o',cap',hb,ho,hl1,hl2,htg,hr,rfl⟩:=YK h
   simp only [freezeA] at hf
   split at hf
   ·rename_i hl
    rw [hl] at hb
    split at hf
    ·rename_i c hc
     obtain ⟨cs,hcs,rfl⟩:=map_some hf
     cases hseg:seg c off (len*sz) with
     | none=>rw [hseg] at hcs; simp at hcs
     | some sg =>
      rw [hseg] at hcs
      simp only [za7] at hcs
      obtain ⟨hk,hor⟩:=H3 i k s _ hb hc rfl
      obtain ⟨g1,g2⟩:=Ze hseg
      obtain ⟨m1,m2⟩:=zC hcs
      refine slC_mk (fun _=>H2 k hk) (fun j z hz=>?_) (m1.trans g1) (zbo hl1 hl2) (fun ht=>by cases ht)
      have hne:cap≠0:=by
       intro h0
       have:len=0:=by omega
       have hj:=(zal.1 hz).1
       rw [m1,g1,this,Nat.zero_mul] at hj
       omega
      obtain ⟨z0,hz0,hfz⟩:=m2 j z hz
      obtain ⟨y,hy,hv⟩:=or_cell hor _ _ (g2 j z0 hz0)
      refine ⟨y,?_,yT H3 n z0 z y hv hfz⟩
      rw [← hy,ho.resolve_left hne]
      congr 2
      omega
    ·simp at hf
   ·simp at hf
  | slC cs len sz tight =>
   obtain ⟨k,s,cap',ad,hk,hc,hn,hl,ht,hadd,rfl⟩:=slCI h
   simp only [freezeA] at hf
   obtain ⟨cs',hcs,rfl⟩:=map_some hf
   exact ZO (fun hne=>H2 k (hk hne).1) (cells hc hcs) ((zC hcs).1.trans hn) hl ht hadd
  | agg cs =>
   obtain ⟨ws,hw,rfl⟩:=aggI h
   simp only [freezeA] at hf
   obtain ⟨cs',hcs,rfl⟩:=map_some hf
   exact YG (vrs hw hcs)
  | bool b=>simp only [freezeA,zao] at hf; subst hf; rw [yZ h]; exact .bool b
  | int k m=>simp only [freezeA,zao] at hf; subst hf; rw [ZB h]; exact .int k m
  | str s=>simp only [freezeA,zao] at hf; subst hf; rw [Yk h]; exact .str s
  | nilsl=>simp only [freezeA,zao] at hf; subst hf; rw [yb h]; exact .nilsl
  | ptrM _ _ _=>simp [freezeA] at hf
  | ptrC _ _=>simp [freezeA] at hf
  | mapM _ _=>simp [freezeA] at hf
  | mapC _ _=>simp [freezeA] at hf
  | tuple _=>simp [freezeA] at hf
  | fn _ _ _=>simp [freezeA] at hf
  | nilptr=>simp [freezeA] at hf
  | nilmap=>simp [freezeA] at hf
  | nilfn=>simp [freezeA] at hf
theorem freezeAs_sim {lv:Nat} {own':yLO} {β:Pl} {W:World} (H3:∀ i k s o,β lv i=some (k,s)->own'[i]?=some o->o.live=true->k<W.heap.size/\OR β W k s o) {n:Nat} {xs xs':List IV} {ys:List Value} (hv:VRs β W xs ys) (hm:xs.mapM (freezeA n lv own')=some xs'):VRs noPl W xs' ys:=by
 obtain ⟨h1,h2⟩:=zC hm
 refine ⟨h1.trans hv.1,fun j a b ha hb=>?_⟩
 obtain ⟨a0,ha0,hfa⟩:=h2 j a ha
 exact yT H3 n a0 a b (hv.2 j a0 b ha0 hb) hfa
section
variable {P:Program} {d:Nat} {out:yLM} {β:Pl} {W:World}
def resV (tm:Array Value):ResultVar->Sem Value
 | .tmp t=>pure (tm.getD t undef)
 | .cell a t=>do loadVar t (← asAddr (tm.getD a undef))
theorem ZF (fn:Func) (tm:Array Value):results fn tm=(do
  let vs ← fn.results.mapM (resV tm)
  pure (if h:vs.size=1 then vs[0] else .tuple vs)):=by
 unfold results
 have:(fun x:ResultVar=>(match x with | .tmp t=>(pure (tm.getD t undef):Sem Value) | .cell a t=>do loadVar t (← asAddr (tm.getD a undef))))=resV tm:=by
  funext r
  cases r <;> rfl
 rw [← this]
 rfl
theorem mapM_run {α:Type} {f:α->Sem Value}:∀ {l:List α} {vs:List Value},l.length=vs.length->(∀ (j:Nat) (x:α) (y:Value),l[j]?=some x->vs[j]?=some y->(f x).run P W=.ok y W)->(l.mapM f).run P W=.ok vs W
 | [],vs,h1,h2=>by
  have:vs=[]:=by simpa using h1.symm
  subst this
  simp
 | x::l,vs,h1,h2=>by
  cases vs with
  | nil=>simp at h1
  | cons v vs =>
   have g1:=h2 0 x v rfl rfl
   have g2:=mapM_run (l:=l) (vs:=vs) (by simpa using h1) (fun j x y hx hy=>h2 (j+1) x y (by simpa using hx) (by simpa using hy))
   rw [List.mapM_cons]
   simp [g1,g2]
theorem ZG {fn:Func} {rs:List IRes} {st:St} {tm:Array Value} {v:IV} (hc:allM (cRes P) fn.results.toList=some rs) (ht:TR β W st.t tm) (hR:RS β (look d out st.own) W) (hr:resultI d out st rs=some v) :
  ∃ x,(results fn tm).run P W=.ok x W/\VR β W v x:=by
 have one:∀ (r:ResultVar) (r':IRes) (z:IV),cRes P r=some r'->resI d out st r'=some z->∃ y,(resV tm r).run P W=.ok y W/\VR β W z y:=by
  intro r r' z h1 h2
  cases r with
  | tmp t =>
   simp only [cRes,zao] at h1
   subst h1
   simp only [resI,zao] at h2
   subst h2
   exact ⟨tm.getD t undef,by simp [resV],ht.get t⟩
  | cell a t =>
   simp only [cRes] at h1
   obtain ⟨⟨agg,n⟩,hl,rfl⟩:=map_some h1
   simp only [resI] at h2
   have hv:=ht.get a
   split at h2
   ·rename_i l i off hq
    rw [hq] at hv
    split at h2
    ·rename_i c hc
     obtain ⟨ad,hx,hA⟩:=at_ptrM hR hv hc
     obtain ⟨y,hy,hvy⟩:=load_sim hl hA h2
     refine ⟨y,?_,hvy⟩
     simp only [resV,hx]
     simpa [asAddr] using hy
    ·simp at h2
   ·simp at h2
 unfold resultI at hr
 obtain ⟨zs,hzs⟩:∃ zs,rs.mapM (resI d out st)=some zs:=by
  cases h:rs.mapM (resI d out st) with
  | none=>rw [h] at hr; simp at hr
  | some zs=>exact ⟨zs,rfl⟩
 rw [hzs] at hr
 obtain ⟨m1,m2⟩:=zC hzs
 obtain ⟨a1,a2⟩:=yY hc
 have hex:∀ (L:List ResultVar) (zs:List IV),L.length=zs.length->(∀ (j:Nat) (r:ResultVar) (z:IV),L[j]?=some r->zs[j]?=some z->∃ y,(resV tm r).run P W=.ok y W/\VR β W z y) ->
   ∃ ys:List Value,VRs β W zs ys/\∀ (j:Nat) (r:ResultVar) (y:Value),L[j]?=some r->ys[j]?=some y->(resV tm r).run P W=.ok y W:=by
  intro L
  induction L with
  | nil =>
   intro zs h1 h2
   have:zs=[]:=by simpa using h1.symm
   subst this
   exact ⟨[],VRs.nil,fun j r y hr=>by simp at hr⟩
  | cons r L ih =>
   intro zs h1 h2
   cases zs with
   | nil=>simp at h1
   | cons z zs =>
    obtain ⟨y,hy,hv⟩:=h2 0 r z rfl rfl
    obtain ⟨ys,g1,g2⟩:=ih zs (by simpa using h1) (fun j r z hr hz=>h2 (j+1) r z (by simpa using hr) (by simpa using hz))
    refine ⟨y::ys,g1.cons hv,fun j r' y' hr hy'=>?_⟩
    cases j with
    | zero=>simp only [za8,zao] at hr hy'; subst hr hy'; exact hy
    | succ j=>exact g2 j r' y' (by simpa using hr) (by simpa using hy')
 obtain ⟨ys,g1,g2⟩:=hex fn.results.toList zs (by omega) (fun j r z hr hz=>by
  obtain ⟨r',hr',hc0⟩:=a2 j r hr
  obtain ⟨r0,hr0,hz'⟩:=m2 j z hz
  rw [hr'] at hr0
  cases hr0
  exact one r r' z hc0 hz')
 have hrun:(fn.results.mapM (resV tm)).run P W=.ok ys.toArray W:=by
  rw [Array.mapM_eq_mapM_toList]
  have:=mapM_run (P:=P) (W:=W) (l:=fn.results.toList) (vs:=ys) (by rw [← g1.1]; omega) g2
  rw [map_eq_pure_bind]
  simp [this]
 cases zs with
 | nil =>
  have hy0:ys=[]:=by simpa using g1.1.symm
  subst hy0
  simp only [zao] at hr
  subst hr
  refine ⟨.tuple #[],?_,.tuple rfl (fun j x y hx=>by simp at hx)⟩
  rw [ZF]
  simp only [zat,hrun,zan]
  simp
 | cons z zs =>
  cases ys with
  | nil=>exact absurd g1.1 (by simp)
  | cons y ys =>
   cases zs with
   | nil =>
    have hy0:ys=[]:=by have:=g1.1; simpa using this.symm
    subst hy0
    simp only [zao] at hr
    subst hr
    refine ⟨y,?_,g1.2 0 _ _ rfl rfl⟩
    rw [ZF]
    simp only [zat,hrun,zan]
    simp
   | cons z2 zs =>
    simp only [zao] at hr
    subst hr
    refine ⟨.tuple (y::ys).toArray,?_,.tuple (by simpa using g1.1) (fun j x y hx hy=>g1.2 j x y hx (by simpa using hy))⟩
    rw [ZF]
    simp only [zat,hrun,zan]
    have:(y::ys).toArray.size≠1:=by have:=g1.1; simp only [zau] at this; simp only [List.size_toArray,zau]; omega
    rw [dif_neg this]
    rfl
end
end
section
def SumOK (P:Program) (B:Nat) (W0:World) (S:ySM):Prop:=∀ (f:FuncId) (args:List IV) (v:IV),S f args=some v ->
 (∃ fn, P.funcs[f]? = some fn ∧ fn.name ≠ "runtime.NumGoroutine" ∧ fn.body.isSome = true) ∧
 ∀ (β:Pl) (W:World) (args':List Value),Base B W0 β W->VRs β W args args'->Calls P f args'.toArray W fun x W'=>∃ y,x=.returned y/\Below W.heap.size W W'/\VR β W' v y
def TabOK (P:Program) (F:FuncId->Option IFn):Prop:=∀ (f:FuncId) (i:IFn),F f=some i->∃ fn,P.funcs[f]?=some fn/\cFn P fn i.mode=some i
section
variable {P:Program} {B:Nat} {W0:World} {F:FuncId->Option IFn} {S:ySM}
theorem Fr.of_below {d:Nat} {β:Pl} {W W':World} (h:Below W.heap.size W W'):Fr d β W β W' where
 keep _ _ _ h:=h
 fresh _ _ _ _ h:=.inl h
 block k hk _:=h.block k hk
 size:=h.size
 rows k c t f hc:=⟨c,by rw [h.block k (za6.1 hc).1]; exact hc,rfl⟩
 os:=h.os
 tape:=h.tape
 output:=h.output
theorem rs_in {d:Nat} {out:yLM} {own ownV:yLO} {β:Pl} {W:World} (hR:RS β (look d out own) W) (hs:Seen ownV own):RS β (look (d+1) (fun l=>if l=d then ownV else out l) []) W:=by
 have lk:∀ {l i o},look (d+1) (fun l=>if l=d then ownV else out l) [] l i=some o->look d out own l i=some o∨(o=.gone/\l=d):=fun {l i o} h=>by
  unfold look at h ⊢
  split at h
  ·simp at h
  ·split at h
   ·dsimp only at h
    by_cases hl:l=d
    ·rw [if_pos hl] at h
     rw [if_pos hl]
     exact (hs.2 i o h).imp id fun h=>⟨h,hl⟩
    ·rw [if_neg hl] at h
     rw [if_neg hl,if_pos (by omega)]
     exact .inl h
   ·simp at h
 have nl:∀ {l:Nat} {o:IObj},(o=.gone/\l=d)->o.live=true->False:=fun {l o} h hl=>by rw [h.1] at hl; simp [IObj.live] at hl
 constructor
 ·intro l i k s o hb hg
  rcases lk hg with h | h
  ·exact hR.obj _ _ _ _ _ hb h
  ·rw [h.1]; trivial
 ·intro l i l' i' k s s' o o' hb hb' hg hg' hl hl'
  rcases lk hg with h | h
  ·rcases lk hg' with h' | h'
   ·exact hR.one _ _ _ _ _ _ _ _ _ hb hb' h h' hl hl'
   ·exact (nl h' hl').elim
  ·exact (nl h hl).elim
 ·exact hR.here
 ·intro l i o hg hl
  rcases lk hg with h | h
  ·exact hR.has _ _ _ h hl
  ·exact (nl h hl).elim
 ·intro l i p hb
  obtain ⟨o,ho⟩:=hR.dom _ _ _ hb
  unfold look at ho ⊢
  dsimp only
  by_cases hl:l=d
  ·subst hl
   rw [if_pos rfl] at ho
   rw [if_neg (by omega),if_pos (by omega),if_pos rfl]
   have:i<ownV.length:=by rw [hs.1]; exact (zal.1 ho).1
   exact ⟨_,zak this⟩
  ·rw [if_neg hl] at ho
   split at ho
   ·rename_i hlt
    rw [if_neg (by omega),if_pos (by omega),if_neg hl]
    exact ⟨o,ho⟩
   ·simp at ho
theorem start_tr {β:Pl} {W:World} {args:List IV} {args':List Value} (h:VRs β W args args') (n:Nat):TR β W (args++List.replicate (n - args.length) (.tuple [])) (args'.toArray++Array.replicate (n - args'.toArray.size) undef):=by
 unfold TR
 rw [Array.toList_append,Array.toList_replicate]
 refine h.append ⟨by simp [h.1],fun j x y hx hy=>?_⟩
 rw [List.getElem?_replicate] at hx hy
 split at hx
 ·split at hy
  ·cases hx; cases hy; exact ZM
  ·simp at hy
 ·simp at hx
theorem leave_sim {d:Nat} {out:yLM} {ownV ownC own ownC':yLO} {β β1:Pl} {W W1:World} {n id mode:Nat} {v v':IV} {x:Value} {e:Eff} (hR:RS β (look d out ownC) W) (hR1:RS β1 (look (d+1) (fun l=>if l=d then ownV else out l) own) W1)
  (hF:Fr (d+1) β W β1 W1) (hv:VR β1 W1 v x) (hl:leave n d own ownC id mode v=some (e,v',ownC')):∃ β',VR β' W1 v' x/\RS β' (look d out ownC') W1/\Fr d β W β' W1:=by
 have hno:∀ i p,β (d+1) i≠some p:=fun i p hb=>by
  obtain ⟨o,ho⟩:=hR.dom _ _ _ hb
  unfold look at ho
  rw [if_neg (by omega),if_neg (by omega)] at ho
  simp at ho
 have hbel:Below W.heap.size W W1:=hF.below hno
 have hnew:∀ i k s,β1 (d+1) i=some (k,s)->W.heap.size<=k:=fun i k s hb=>by
  rcases hF.fresh _ _ _ _ hb with h | ⟨_,⟨i',s',h⟩ | h⟩
  ·exact absurd h (hno _ _)
  ·exact absurd h (hno _ _)
  ·exact h
 have hold:∀ l i p,l≠d+1->β1 l i=some p->β l i=some p:=fun l i p hl hb=>by
  rcases hF.fresh l i p.1 p.2 hb with h | ⟨h,_⟩
  ·exact h
  ·exact absurd h hl
 have hlk:∀ i,look (d+1) (fun l=>if l=d then ownV else out l) own (d+1) i=own[i]?:=fun i=>zY i
 unfold leave at hl
 split at hl
 ·rename_i i off len cap sz tight r hm
  unfold handed at hl
  split at hl
  ·rename_i c hc
   split at hl
   ·rename_i s hs
    split at hl
    ·rename_i c' hc'
     have hcase:∃ (xs:Value),(VR β1 W1 (.slM (d+1) i off len cap sz tight) xs)/\((r=none/\xs=x/\mkAt ownC id (.cells c') (.slM d id 0 len cap sz tight)=some (e,v',ownC'))∨∃ (rl r':List IV) (ws:List Value),r=some rl/\rl.mapM (freeze n (d+1) (own.set i .gone))=some r'/\VRs β1 W1 rl ws/\x=.tuple (xs::ws).toArray/\mkAt ownC id (.cells c') (.tuple (.slM d id 0 len cap sz tight::r'))=some (e,v',ownC')):=by
      split at hm
      ·split at hm
       ·split at hm
        ·rename_i hl1
         cases hm
         subst hl1
         exact ⟨x,hv,.inl ⟨rfl,rfl,hl⟩⟩
        ·simp at hm
       ·rename_i l0 i0 off0 len0 cap0 sz0 tight0 r0
        split at hm
        ·rename_i hl1
         cases hm
         subst hl1
         obtain ⟨ws,hw,rfl⟩:=tupleI hv
         have h1:=hw.1
         cases hws:ws.toList with
         | nil=>rw [hws] at h1; simp at h1
         | cons y ys =>
          rw [hws] at hw
          simp only at hl
          split at hl
          ·rename_i r' hr'
           refine ⟨y,hw.2 0 _ _ rfl rfl,.inr ⟨_,r',ys,rfl,hr',⟨by have:=hw.1; simpa using this,fun j a b ha hb=>hw.2 (j+1) a b (by simpa using ha) (by simpa using hb)⟩,?_,hl⟩⟩
           rw [← hws]
          ·simp at hl
        ·simp at hm
       ·simp at hm
      ·simp at hm
     obtain ⟨xs,hvs,hcs⟩:=hcase
     obtain ⟨k,s0,o',cap',hb,ho,hl1,hl2,htg,hrm,rfl⟩:=YK hvs
     have hown:look (d+1) (fun l=>if l=d then ownV else out l) own (d+1) i=some (.cells c):=by rw [hlk]; exact hc
     have hor:=hR1.obj _ _ _ _ _ hb hown
     obtain ⟨g1,g2⟩:=Ze hs
     obtain ⟨m1,m2⟩:=zC hc'
     have hfree:ownC[id]?=some .free:=by
      rcases hcs with ⟨_,_,h⟩ | ⟨_,_,_,_,_,_,_,h⟩
      ·exact (zX h).1
      ·exact (zX h).1
     have hnone:β d id=none:=hR.free (by rw [zY]; exact hfree)
     have hk1:k<W1.heap.size:=hR1.here _ _ _ _ hb
     have frz:∀ (z z':IV) (y:Value),VR β1 W1 z y->freeze n (d+1) (own.set i .gone) z=some z'->VR (upd β d id (k,o')) W1 z' y:=by
      intro z z' y
      refine zS (fun l j p hne hbp=>?_) (fun k2 hk2=>⟨hk2.1,fun l j s2 hbp=>?_⟩) (fun j k2 s2 o2 hbp hg hlv=>?_) n z z' y
      ·have:=hold l j p hne hbp
       rw [yq]
       ·exact this
       ·rintro ⟨rfl,rfl⟩
        rw [hnone] at this
        simp at this
      ·by_cases hq:l=d/\j=id
       ·rw [hq.1,hq.2,zF] at hbp
        cases hbp
        exact hk2.2 _ _ _ hb
       ·rw [yq hq] at hbp
        exact hk2.2 _ _ _ (hF.keep _ _ _ hbp)
      ·have hji:j≠i:=by
        rintro rfl
        rw [zbw (zal.1 hc).1] at hg
        cases hg
        simp [IObj.live] at hlv
       rw [zbq (Ne.symm hji)] at hg
       have hg':look (d+1) (fun l=>if l=d then ownV else out l) own (d+1) j=some o2:=by rw [hlk]; exact hg
       refine ⟨⟨hR1.here _ _ _ _ hbp,fun l j' s3 hbq=>?_⟩,hR1.obj _ _ _ _ _ hbp hg'⟩
       by_cases hq:l=d/\j'=id
       ·rw [hq.1,hq.2,zF] at hbq
        cases hbq
        exact hji (hR1.one _ _ _ _ _ _ _ _ _ hbp hb hg' hown hlv rfl).2
       ·rw [yq hq] at hbq
        have h5:=hR.here _ _ _ _ hbq
        have h6:=hnew _ _ _ hbp
        omega
     have hcells:OR (upd β d id (k,o')) W1 k o' (.cells c'):=by
      obtain ⟨cc,ty,hh,hcc⟩:=hor
      refine ⟨cc,ty,hh,fun j z hz=>?_⟩
      obtain ⟨z0,hz0,hfz⟩:=m2 j z hz
      obtain ⟨y,hy,hvy⟩:=hcc _ _ (g2 j z0 hz0)
      have hne:cap≠0:=by
       intro h0
       have hj:=(zal.1 hz).1
       rw [m1,g1,h0,Nat.zero_mul] at hj
       omega
      refine ⟨y,?_,frz _ _ _ hvy hfz⟩
      rw [← hy,ho.resolve_left hne]
      congr 1
      omega
     obtain ⟨hRn,hFn⟩:=YI (W':=W1) (k:=k) (s:=o') (o:=.cells c') hR hfree (fun l j s' o2 hbp _ _=>by have h5:=hR.here _ _ _ _ hbp; have h6:=hnew _ _ _ hb; omega) (.inl (hnew _ _ _ hb)) (fun k2 _ hk2=>hbel.block k2 hk2) hbel.size hk1
      (fun c2 t2 f2 hc2=>absurd (za6.1 hc2).1 (by have:=hnew _ _ _ hb; omega)) hbel.os hbel.tape hbel.output (fun _=>hcells)
     have hsl:VR (upd β d id (k,o')) W1 (.slM d id 0 len cap sz tight) (.slice (some ⟨k,o',none⟩) len cap'):=.slM (zF _ _ _ _) (.inr (by omega)) hl1 hl2 htg hrm
     rcases hcs with ⟨rfl,hxx,hmk⟩ | ⟨rl,r',ws,rfl,hr',hw,rfl,hmk⟩
     ·obtain ⟨_,_,rfl,rfl⟩:=zX hmk
      subst hxx
      exact ⟨_,hsl,hRn,hFn⟩
     ·obtain ⟨_,_,rfl,rfl⟩:=zX hmk
      refine ⟨_,?_,hRn,hFn⟩
      obtain ⟨r1,r2⟩:=zC hr'
      have hw':VRs (upd β d id (k,o')) W1 r' ws:=⟨r1.trans hw.1,fun j a b ha hb'=>by
       obtain ⟨a0,ha0,hfa⟩:=r2 j a ha
       exact frz _ _ _ (hw.2 j a0 b ha0 hb') hfa⟩
      have hall:=hsl |> fun h=>VRs.cons h hw'
      exact .tuple (by simpa using hall.1) (fun j a b ha hb'=>hall.2 j a b ha (by simpa using hb'))
    ·simp at hl
   ·simp at hl
  ·simp at hl
 ·obtain ⟨v2,hv2,hq⟩:=map_some hl
  cases hq
  refine ⟨β,?_,hR.old hbel.block hbel.size,Fr.of_below hbel⟩
  refine zS (fun l j p hne hbp=>hold l j p hne hbp) (fun k2 hk2=>⟨hk2.1,fun l j s2 hbp=>hk2.2 _ _ _ (hF.keep _ _ _ hbp)⟩) (fun j k2 s2 o2 hbp hg hlv=>?_) n v v' x hv hv2
  refine ⟨⟨hR1.here _ _ _ _ hbp,fun l j' s3 hbq=>?_⟩,hR1.obj _ _ _ _ _ hbp (by rw [hlk]; exact hg)⟩
  have h5:=hR.here _ _ _ _ hbq
  have h6:=hnew _ _ _ hbp
  omega
theorem leave_eff {d:Nat} {out:yLM} {ownV ownC own ownC':yLO} {n id mode:Nat} {v v':IV} {e:Eff} (hl:leave n d own ownC id mode v=some (e,v',ownC')) :
  (e=.r/\ownC'=ownC/\∀ o,leave n d own o id mode v=some (.r,v',o))∨∃ O,∀ o,leave n d own o id mode v=mkAt o id O v':=by
 unfold leave at hl ⊢
 split at hl
 ·rename_i i off len cap sz tight r hm
  try simp only [hm]
  unfold handed at hl ⊢
  split at hl
  ·rename_i c hc
   try simp only [hc]
   split at hl
   ·rename_i s hs
    try simp only [hs]
    split at hl
    ·rename_i c' hc'
     try simp only [hc']
     split at hl
     ·obtain ⟨_,_,rfl,_⟩:=zX hl
      exact .inr ⟨_,fun o=>rfl⟩
     ·split at hl
      ·rename_i r' hr'
       obtain ⟨_,_,rfl,_⟩:=zX hl
       refine .inr ⟨.cells c',fun o=>?_⟩
       try simp only [hr']
      ·simp at hl
    ·simp at hl
   ·simp at hl
  ·simp at hl
 ·rename_i hm
  obtain ⟨v2,hv2,hq⟩:=map_some hl
  cases hq
  refine .inl ⟨rfl,rfl,fun o=>?_⟩
  simp only [hm,hv2,za5]
theorem Yn {α:Type} {x:Option (Out × St)} {k:St->Option α} {r:α} (h:ended x k=some r):∃ o st,x=some (o,st)/\(o=.normal∨o=.ret)/\k st=some r:=by
 unfold ended at h
 split at h
 ·exact ⟨_,_,rfl,.inl rfl,h⟩
 ·exact ⟨_,_,rfl,.inr rfl,h⟩
 ·simp at h
theorem callN_eff:∀ n,CallE (callN F S n)
 | 0=>fun d out ownV own id f args e v own1 h=>by simp [callN] at h
 | n+1=>fun d out ownV own id f args e v own1 h=>by
  unfold callN at h ⊢
  split at h
  ·rename_i w hw
   cases h
   try simp only [hw]
   exact ⟨rfl,fun o=>rfl⟩
  ·rename_i hw
   try simp only [hw]
   split at h
   ·simp at h
   ·rename_i fn hfn
    try simp only [hfn]
    split at h
    ·obtain ⟨o,st,_,_,hk⟩:=Yn h
     obtain ⟨w,_,hq⟩:=map_some hk
     cases hq
     trivial
    ·rename_i hmode
     try simp only [if_neg hmode]
     split at h
     ·rename_i h3
      try simp only [if_pos h3]
      cases has:args.mapM (freezeA 12 d ownV) with
      | none=>rw [has] at h; simp at h
      | some as =>
       rw [has] at h
       simp only [za7] at h
       obtain ⟨o,st,hx,ho,hk⟩:=Yn h
       cases hr:resultI 0 (fun _=>[]) st fn.res with
       | none=>rw [hr] at hk; simp at hk
       | some w =>
        rw [hr] at hk
        simp only [za7] at hk
        have hfun:∀ o2,((some as).bind fun as=>ended (exec (callN F S n) 0 (fun _=>[]) n fn.body ⟨lit (as++List.replicate (fn.ntmps - as.length) (.tuple [])),[]⟩) fun st=>(resultI 0 (fun _=>[]) st fn.res).bind fun v=>scalarR o2 v)=scalarR o2 w:=fun o2=>by
         simp only [za7]
         rw [hx]
         rcases ho with rfl | rfl <;> simp only [ended,hr,za7]
        cases w with
        | int k x =>
         cases hk
         refine ⟨rfl,fun o2=>?_⟩
         simp only [has]
         exact hfun o2
        | bool b =>
         cases hk
         refine ⟨rfl,fun o2=>?_⟩
         simp only [has]
         exact hfun o2
        | _=>simp [scalarR] at hk
     rename_i h3
     try simp only [if_neg h3]
     obtain ⟨o,st,hx,ho,hk⟩:=Yn h
     cases hr:resultI (d+1) (fun l=>if l=d then ownV else out l) st fn.res with
     | none=>rw [hr] at hk; simp at hk
     | some w =>
      rw [hr] at hk
      simp only [za7] at hk
      have hfun:∀ o2,ended (exec (callN F S n) (d+1) (fun l=>if l=d then ownV else out l) n fn.body ⟨lit (args++List.replicate (fn.ntmps - args.length) (.tuple [])),[]⟩) (fun st=>(resultI (d+1) (fun l=>if l=d then ownV else out l) st fn.res).bind fun v=>leave n d st.own o2 id fn.mode v)=leave n d st.own o2 id fn.mode w:=fun o2=>by
       rw [hx]
       rcases ho with rfl | rfl <;> simp only [ended,hr,za7]
      rcases leave_eff (out:=out) (ownV:=ownV) hk with ⟨rfl,rfl,hall⟩ | ⟨O,hall⟩
      ·exact ⟨rfl,fun o2=>(hfun o2).trans (hall o2)⟩
      ·exact Zf (fun o2=>(hfun o2).trans (hall o2)) h
theorem rs_noPl {W:World}:RS noPl (look 0 (fun _=>[]) []) W:=by
 refine ⟨fun l i k s o hb=>?_,fun l i l' i' k s s' o o' hb=>?_,fun l i k s hb=>?_,fun l i o hg hl=>?_,fun l i p hb=>?_⟩
 ·simp [noPl] at hb
 ·simp [noPl] at hb
 ·simp [noPl] at hb
 ·unfold look at hg
  split at hg
  ·simp at hg
  ·split at hg
   ·omega
   ·simp at hg
 ·simp [noPl] at hb
theorem rs_noPl_base {β:Pl} {W:World} (h:Base B W0 β W):Base B W0 noPl W:=by
 obtain ⟨_,h2,h3⟩:=h
 exact ⟨fun l i k s hb=>by simp [noPl] at hb,h2,h3⟩
theorem YY (hm:P.follows .mixedOrders=true) (hF:TabOK P F) (hS:SumOK P B W0 S):∀ n,CallOK P B W0 (callN F S n)
 | 0=>fun d out ownV own id f args e v own1 args' β W h=>by simp [callN] at h
 | n+1=>fun d out ownV own id f args e v own1 args' β W h hb hs hR hargs=>by
  have hC:=YY hm hF hS n
  have hE:=callN_eff (F:=F) (S:=S) n
  unfold callN at h
  split at h
  ·rename_i w hw
   cases h
   obtain ⟨h1,h2⟩:=hS f args v hw
   refine ⟨h1,(h2 β W args' hb hargs).mono fun x W' hx=>?_⟩
   obtain ⟨y,rfl,hbel,hv⟩:=hx
   exact ⟨y,β,rfl,hv,hR.old hbel.block hbel.size,Fr.of_below hbel⟩
  ·split at h
   ·simp at h
   ·rename_i i hi
    obtain ⟨fn,hfn,hcf⟩:=hF f i hi
    unfold cFn at hcf
    split at hcf
    ·simp at hcf
    ·rename_i hnm
     split at hcf
     ·simp at hcf
     ·rename_i c hbody
      split at hcf
      ·rename_i ib ir hcb hcr
       have hi2:i=⟨fn.ntmps,ir,ib,i.mode⟩:=(zbh hcf).symm
       refine ⟨⟨fn,hfn,hnm,by rw [hbody]; rfl⟩,?_⟩
       refine calls_of_wp hfn hbody ?_
       rw [hi2] at h
       simp only at h
       have hst:=start_tr hargs fn.ntmps
       split at h
       ·obtain ⟨o,st,hx,ho,hk⟩:=Yn h
        obtain ⟨w,hw,hq⟩:=map_some hk
        cases hq
        rw [zf] at hx
        refine YX hC hE hm c hcb hx hb hst hR fun β1 W1 a1 g1 g2 g3 g4=>?_
        obtain ⟨y,hy,hvy⟩:=ZG hcr g1 g2 hw
        have hgoal:a1.defers=[]/\∃ u,(results fn a1.tmps).run P W1=.ok u W1/\∃ y β',Ending.returned u=.returned y/\VR β' W1 v y/\RS β' (look d out st.own) W1/\Fr d β W β' W1 :=
         ⟨g4,y,hy,y,β1,rfl,hvy,g2,g3⟩
        rcases ho with rfl | rfl
        ·exact hgoal
        ·exact hgoal
       ·split at h
        ·cases has:args.mapM (freezeA 12 d ownV) with
         | none=>rw [has] at h; simp at h
         | some as =>
          rw [has] at h
          simp only [za7] at h
          obtain ⟨o,st,hx,ho,hk⟩:=Yn h
          rw [zf] at hx
          cases hr:resultI 0 (fun _=>[]) st ir with
          | none=>rw [hr] at hk; simp at hk
          | some w =>
           rw [hr] at hk
           simp only [za7] at hk
           have hargs2:VRs noPl W as args':=freezeAs_sim (fun i k s o hbp hg hlv=>by
            have hg2:own[i]?=some o:=by
             rcases hs.2 i o hg with h | h
             ·exact h
             ·rw [h] at hlv; simp [IObj.live] at hlv
            exact ⟨hR.here _ _ _ _ hbp,hR.obj _ _ _ _ _ hbp (by rw [zY]; exact hg2)⟩) hargs has
           refine YX hC hE hm c hcb hx (rs_noPl_base hb) (start_tr hargs2 fn.ntmps) rs_noPl fun β1 W1 a1 g1 g2 g3 g4=>?_
           obtain ⟨y,hy,hvy⟩:=ZG hcr g1 g2 hr
           have hbel:Below W.heap.size W W1:=g3.below fun i p hb=>by simp [noPl] at hb
           have hvv:own1=own/\VR β W1 v y:=by
            cases w with
            | int k x=>cases hk; refine ⟨rfl,?_⟩; rw [ZB hvy]; exact .int k x
            | bool b=>cases hk; refine ⟨rfl,?_⟩; rw [yZ hvy]; exact .bool b
            | _=>simp [scalarR] at hk
           obtain ⟨rfl,hvv⟩:=hvv
           have hgoal:a1.defers=[]/\∃ u,(results fn a1.tmps).run P W1=.ok u W1/\∃ y β',Ending.returned u=.returned y/\VR β' W1 v y/\RS β' (look d out own1) W1/\Fr d β W β' W1 :=
            ⟨g4,y,hy,y,β,rfl,hvv,hR.old hbel.block hbel.size,Fr.of_below hbel⟩
           rcases ho with rfl | rfl
           ·exact hgoal
           ·exact hgoal
        ·obtain ⟨o,st,hx,ho,hk⟩:=Yn h
         rw [zf] at hx
         cases hr:resultI (d+1) (fun l=>if l=d then ownV else out l) st ir with
         | none=>rw [hr] at hk; simp at hk
         | some w =>
          rw [hr] at hk
          simp only [za7] at hk
          refine YX hC hE hm c hcb hx hb hst (rs_in hR hs) fun β1 W1 a1 g1 g2 g3 g4=>?_
          obtain ⟨y,hy,hvy⟩:=ZG hcr g1 g2 hr
          obtain ⟨β',q1,q2,q3⟩:=leave_sim hR g2 g3 hvy hk
          have hgoal:a1.defers=[]/\∃ u,(results fn a1.tmps).run P W1=.ok u W1/\∃ y β',Ending.returned u=.returned y/\VR β' W1 v y/\RS β' (look d out own1) W1/\Fr d β W β' W1 :=
           ⟨g4,y,hy,y,β',rfl,q1,q2,q3⟩
          rcases ho with rfl | rfl
          ·exact hgoal
          ·exact hgoal
      ·simp at hcf
theorem run_calls (hm:P.follows .mixedOrders=true) (hF:TabOK P F) {W:World} (hS:SumOK P W.heap.size W S) {n:Nat} {f:FuncId} {args:List IV} {e:Eff} {v:IV} {own1:yLO} (h:callN F S n 0 (fun _=>[]) [] [] 0 f args=some (e,v,own1)) {args':List Value} (ha:VRs noPl W args args') :
  Calls P f args'.toArray W fun x W'=>∃ y β',x=.returned y/\VR β' W' v y/\Below W.heap.size W W':=by
 have hR:RS noPl (look 0 (fun _=>[]) []) W:=by
  refine ⟨fun l i k s o hb=>?_,fun l i l' i' k s s' o o' hb=>?_,fun l i k s hb=>?_,fun l i o hg hl=>?_,fun l i p hb=>?_⟩
  ·simp [noPl] at hb
  ·simp [noPl] at hb
  ·simp [noPl] at hb
  ·unfold look at hg
   split at hg
   ·simp at hg
   ·split at hg
    ·omega
    ·simp at hg
  ·simp [noPl] at hb
 obtain ⟨_,h2⟩:=YY hm hF hS n 0 (fun _=>[]) [] [] 0 f args e v own1 args' noPl W h ⟨fun l i k s hb=>by simp [noPl] at hb,zaq _,Below.refl _ _⟩ ⟨rfl,fun i o h=>.inl h⟩ hR ha
 refine h2.mono fun x W' hx=>?_
 obtain ⟨y,β',h3,h4,_,h6⟩:=hx
 exact ⟨y,β',h3,h4,h6.below fun i p hb=>by simp [noPl] at hb⟩
end
end
section
section
variable {C:Call} {d:Nat} {out:yLM} {n n0:Nat} {st st':St} {K:yKM}
def Ex (C:Call) (d:Nat) (out:yLM) (n:Nat) (ic:IC) (K:yKM) (st:St):Prop:=∃ o st',exec C d out n ic st=some (o,st')/\K o st'
theorem Ex.mono {ic:IC} {K':yKM} (h:Ex C d out n ic K st) (hk:∀ o st',K o st'->K' o st'):Ex C d out n ic K' st:=let ⟨o,st',h1,h2⟩:=h; ⟨o,st',h1,hk o st' h2⟩
theorem ex_skip (h:K .normal st):Ex C d out n .skip K st:=⟨_,_,rfl,h⟩
theorem ex_ret (h:K .ret st):Ex C d out n .ret K st:=⟨_,_,rfl,h⟩
theorem ex_exit {id:Nat} (h:K (.exit id) st):Ex C d out n (.exit id) K st:=⟨_,_,rfl,h⟩
def andThen (k:St->Prop) (K:yKM):yKM
 | .normal,st=>k st
 | o,st=>K o st
theorem ex_seq {a b:IC} (h:Ex C d out n a (andThen (Ex C d out n b K) K) st):Ex C d out n (.seq a b) K st:=by
 obtain ⟨o,st1,h1,h2⟩:=h
 cases o with
 | normal =>
  obtain ⟨o2,st2,h3,h4⟩:=h2
  exact ⟨o2,st2,by simp only [exec,h1,seqX,h3],h4⟩
 | exit id=>exact ⟨_,st1,by simp only [exec,h1,seqX],h2⟩
 | ret=>exact ⟨_,st1,by simp only [exec,h1,seqX],h2⟩
def inBlock (id:Nat) (K:yKM):yKM
 | .exit j,st=>if j=id then K .normal st else K (.exit j) st
 | o,st=>K o st
theorem ex_block {id:Nat} {a:IC} (h:Ex C d out n a (inBlock id K) st):Ex C d out n (.block id a) K st:=by
 obtain ⟨o,st1,h1,h2⟩:=h
 cases o with
 | normal=>exact ⟨_,st1,by simp only [exec,h1,blockX],h2⟩
 | ret=>exact ⟨_,st1,by simp only [exec,h1,blockX],h2⟩
 | exit j =>
  by_cases hj:j=id
  ·simp only [inBlock,if_pos hj] at h2
   exact ⟨.normal,st1,by simp only [exec,h1,blockX,if_pos hj],h2⟩
  ·simp only [inBlock,if_neg hj] at h2
   exact ⟨.exit j,st1,by simp only [exec,h1,blockX,if_neg hj],h2⟩
theorem ex_loop {a:IC} (I:Nat->St->Prop) (j:Nat) (hn:j<n) (h0:I j st) (h:∀ j st,I j st->Ex C d out n a (andThen (fun st'=>∃ j',j'<j/\I j' st') K) st):Ex C d out n (.loop a) K st:=by
 have key:∀ (m j:Nat) (st:St),j<m->I j st->∃ o st',iter (exec C d out n a) m st=some (o,st')/\K o st':=by
  intro m
  induction m with
  | zero=>intro j st hj; omega
  | succ m ih =>
   intro j st hj hI
   obtain ⟨o,st1,h1,h2⟩:=h j st hI
   cases o with
   | normal =>
    obtain ⟨j',hj',hI'⟩:=h2
    obtain ⟨o2,st2,h3,h4⟩:=ih j' st1 (by omega) hI'
    exact ⟨o2,st2,by simp only [iter,h1,h3],h4⟩
   | exit id=>exact ⟨_,st1,by simp only [iter,h1],h2⟩
   | ret=>exact ⟨_,st1,by simp only [iter,h1],h2⟩
 obtain ⟨o,st',h1,h2⟩:=key n j st hn h0
 exact ⟨o,st',by simp only [exec,h1],h2⟩
def Rn (C:Call) (d:Nat) (out:yLM) (n0:Nat) (ops:List IOpR) (k:St->Prop) (t:List IV) (own:yLO):Prop:=∃ es st',runR C d out false n0 ops ⟨t,own⟩=some (es,st')/\k st'
theorem ex_text {slots:Nat} {ops:List IOpR} {fr:List (Nat × Nat)} (h:Rn C d out st.own.length ops (K .normal) st.t (st.own++List.replicate slots .free)):Ex C d out n (.region false slots ops fr) K st:=by
 obtain ⟨es,st',h1,h2⟩:=h
 refine ⟨.normal,st',?_,h2⟩
 simp only [exec,regionX,zf,h1,zbj,Bool.true_or,if_true]
variable {t:List IV} {own own':yLO} {k:St->Prop} {rest:List IOpR}
theorem rn_nil (h:k ⟨t,own⟩):Rn C d out n0 [] k t own:=⟨_,_,rfl,h⟩
theorem rn_cons {dst:Option Nat} {op:IOp} {vis:List Nat} {e:Eff} {v:IV} (he:evOp C d out n0 own own t op=some (e,v,own')) (h:Rn C d out n0 rest k (put t dst v) own'):Rn C d out n0 (⟨dst,op,none,vis⟩::rest) k t own:=by
 obtain ⟨es,st',h1,h2⟩:=h
 refine ⟨e::es,st',?_,h2⟩
 simp only [runR,stepR,wantedI,if_true,zaz,if_false,he,h1]
theorem rn_no {dst:Option Nat} {op:IOp} {vis:List Nat} {g:Nat × Bool} (hg:wantedI t (some g)=false) (h:Rn C d out n0 rest k (put t dst (.tuple [])) own):Rn C d out n0 (⟨dst,op,some g,vis⟩::rest) k t own:=by
 obtain ⟨es,st',h1,h2⟩:=h
 refine ⟨.p::es,st',?_,h2⟩
 simp only [runR,stepR,hg,zaz,if_false,h1]
def Rd (C:Call) (d:Nat) (out:yLM) (n0:Nat) (ops:List IOpR) (k:List Eff->St->Prop) (t:List IV) (own:yLO):Prop:=∃ es st',runR C d out true n0 ops ⟨t,own⟩=some (es,st')/\k es st'
theorem ex_drawn {slots:Nat} {ops:List IOpR} {fr:List (Nat × Nat)} (h:Rd C d out st.own.length ops (fun es st'=>fr.all (fun ji=>comm (es.getD ji.1 .x) (es.getD ji.2 .x))=true/\K .normal st') st.t (st.own++List.replicate slots .free)):Ex C d out n (.region true slots ops fr) K st:=by
 obtain ⟨es,st',h1,h2,h3⟩:=h
 refine ⟨.normal,st',?_,h3⟩
 simp only [exec,regionX,zf,h1,zbm,Bool.false_or]
 rw [if_pos h2]
variable {kd:List Eff->St->Prop}
theorem rd_nil (h:kd [] ⟨t,own⟩):Rd C d out n0 [] kd t own:=⟨_,_,rfl,h⟩
theorem rd_cons {dst:Option Nat} {op:IOp} {vis:List Nat} {e:Eff} {v:IV} (he:evOp C d out n0 (hide vis n0 own) own t op=some (e,v,own')) (h:Rd C d out n0 rest (fun es st'=>kd (e::es) st') (put t dst v) own'):Rd C d out n0 (⟨dst,op,none,vis⟩::rest) kd t own:=by
 obtain ⟨es,st',h1,h2⟩:=h
 refine ⟨e::es,st',?_,h2⟩
 simp only [runR,stepR,wantedI,if_true,he,h1]
theorem rd_no {dst:Option Nat} {op:IOp} {vis:List Nat} {g:Nat × Bool} (hg:wantedI t (some g)=false) (h:Rd C d out n0 rest (fun es st'=>kd (.p::es) st') (put t dst (.tuple [])) own):Rd C d out n0 (⟨dst,op,some g,vis⟩::rest) kd t own:=by
 obtain ⟨es,st',h1,h2⟩:=h
 refine ⟨.p::es,st',?_,h2⟩
 simp only [runR,stepR,hg,zaz,if_false,h1]
end
def Fz (k:Nat) (v:IV):Prop:=∀ m,k<=m->∀ lv own,freeze m lv own v=some v
theorem Fz.le {k k':Nat} {v:IV} (h:Fz k v) (hk:k<=k'):Fz k' v:=fun m hm=>h m (zbo hk hm)
theorem zV {f:IV->Option IV}:∀ {l:List IV},(∀ x∈l,f x=some x)->l.mapM f=some l
 | [],_=>rfl
 | x::l,h=>by
  rw [List.mapM_cons,h x (zbn ..),zV (l:=l) fun y hy=>h y (List.mem_cons_of_mem _ hy)]
  rfl
theorem zm {b:Bool}:Fz 1 (.bool b):=fun m hm lv own=>by obtain ⟨m,rfl⟩:∃ q,m=q+1:=⟨m - 1,by omega⟩; rfl
theorem yE {k:IntKind} {i:Int}:Fz 1 (.int k i):=fun m hm lv own=>by obtain ⟨m,rfl⟩:∃ q,m=q+1:=⟨m - 1,by omega⟩; rfl
theorem fz_nilsl:Fz 1 .nilsl:=fun m hm lv own=>by obtain ⟨m,rfl⟩:∃ q,m=q+1:=⟨m - 1,by omega⟩; rfl
theorem fz_slC {k:Nat} {cs:List IV} {len sz:Nat} {tight:Bool} (h:∀ x∈cs,Fz k x):Fz (k+1) (.slC cs len sz tight):=fun m hm lv own=>by
 obtain ⟨m,rfl⟩:∃ q,m=q+1:=⟨m - 1,by omega⟩
 simp only [freeze,zV fun x hx=>h x hx m (by omega) lv own,za5]
theorem fz_agg {k:Nat} {cs:List IV} (h:∀ x∈cs,Fz k x):Fz (k+1) (.agg cs):=fun m hm lv own=>by
 obtain ⟨m,rfl⟩:∃ q,m=q+1:=⟨m - 1,by omega⟩
 simp only [freeze,zV fun x hx=>h x hx m (by omega) lv own,za5]
def Gives (F:FuncId->Option IFn) (S:ySM) (f:FuncId) (args:List IV) (v:IV):Prop :=
 ∃ N,∀ m,N<=m->∀ d out ownV own id,callN F S m d out ownV own id f args=some (.r,v,own)
section
variable {F:FuncId->Option IFn} {S:ySM}
theorem gives_of {f:FuncId} {i:IFn} {args:List IV} {v w:IV} (hS:S f args=none) (hi:F f=some i) (hm:i.mode=0) (N:Nat)
  (h:∀ m,N<=m->∀ d out,Ex (callN F S m) d out m i.body (fun o st=>(o=.normal∨o=.ret)/\resultI d out st i.res=some v/\freeze m d st.own v=some w) ⟨args++List.replicate (i.ntmps - args.length) (.tuple []),[]⟩):Gives F S f args w:=by
 refine ⟨N+1,fun m hN d out ownV own id=>?_⟩
 obtain ⟨m,rfl⟩:∃ q,m=q+1:=⟨m - 1,by omega⟩
 obtain ⟨o,st,h1,h2,h3,h4⟩:=h m (by omega) (d+1) (fun l=>if l=d then ownV else out l)
 have hm2:¬ i.mode=2:=by omega
 have hm3:¬ i.mode=3:=by omega
 have hm1:¬ i.mode=1:=by omega
 simp only [callN,hS,hi,if_neg hm2,if_neg hm3,zf,h1]
 rcases h2 with rfl | rfl <;> simp only [ended,h3,za7,leave,if_neg hm1,h4,za5]
end
theorem yf {i:Nat} (h:i+1<9223372036854775808):wrapI .i64 ((i:Int)+1)=((i+1:Nat):Int):=by
 rw [zE,IntWalk.i64_in _ (by omega)]
 rfl
theorem zM {k:IntKind} {i:Nat}:natI (.int k (i:Int))=some i:=by
 show (if 0<=(i:Int) then some (i:Int).toNat else none)=some i
 rw [if_pos (by omega)]
 simp
theorem ze {α:Type} {g:α->List IV} {sz:Nat} (hg:∀ x,(g x).length=sz):∀ {l:List α} {i:Nat} {x:α} (k n:Nat),l[i]?=some x->k+n<=sz->rdN (l.flatMap g) (i*sz+k) n=rdN (g x) k n
 | [],i,x,k,n,h,_=>by simp at h
 | y::l,0,x,k,n,h,hk=>by
  simp only [za8,zao] at h
  subst h
  rw [zbg,Nat.zero_mul,zap]
  have key:∀ (n k:Nat),k+n<=sz->rdN (g y++l.flatMap g) k n=rdN (g y) k n:=by
   intro n
   induction n with
   | zero=>intro k _; rfl
   | succ n ih =>
    intro k hk
    simp only [rdN]
    rw [zar (by rw [hg]; omega),ih (k+1) (by omega)]
  exact key n k hk
 | y::l,i+1,x,k,n,h,hk=>by
  simp only [za1] at h
  rw [← ze hg k n h hk,zbg]
  have key:∀ (n k:Nat),rdN (g y++l.flatMap g) (sz+k) n=rdN (l.flatMap g) k n:=by
   intro n
   induction n with
   | zero=>intro k; rfl
   | succ n ih =>
    intro k
    simp only [rdN]
    rw [zas (by rw [hg]; omega),hg,show sz+k - sz=k by omega,show sz+k+1=sz+(k+1) by omega,ih (k+1)]
  rw [show (i+1)*sz+k=sz+(i*sz+k) by rw [Nat.succ_mul]; omega]
  exact key n _
inductive Sl (sz:Nat):List IV->Nat->IV->Prop where
 | nil:Sl sz [] 0 .nilsl
 | row (cs:List IV) (len:Nat) (tight:Bool) (h:cs.length=len*sz):Sl sz cs len (.slC cs len sz tight)
end
end Go.Proofs.YtgmifgfbnnbgjaaGreatDoor
end
section
namespace Go.Proofs.YtgmifgfbnnbgjaaGreatDoor
open Go Go.RowKit Go.ChangeShapes Go.WideShapes
section
structure SlOf (sz:Nat) {α:Type} (g:α->List IV) where
 l:List α
 v:IV
 ok:Sl sz (l.flatMap g) l.length v
 few:l.length<9223372036854775808
def Reads (P:Program) (W:World) (t:TypeId) {α:Type} (g:α->List IV):Prop :=
 ∀ (H:Type) (enc:TypeId × Value->H) (fuel:Nat) (cs:List Value) (x:DataW H × List MemPlace),DataW.trod enc P W 0 (fun _=>true) true fuel t cs=some x->∃ a:α,VRs noPl W (g a) cs
section
variable {P:Program} {W:World} {t:TypeId}
theorem reads_int {k:IntKind} (ht:P.underlying t=some (.int k)):Reads P W t (fun n:Int=>[IV.int k n]):=fun H enc fuel cs x h=>by
 obtain ⟨n,rfl,_,_⟩:=DataW.trod_int ht h
 exact ⟨n,(VRs.nil).cons (.int k n)⟩
theorem reads_str (ht:P.underlying t=some .string):Reads P W t (fun s:{ s:ByteArray // s.size<=maxLen }=>[IV.str s.1]):=fun H enc fuel cs x h=>by
 obtain ⟨s,rfl,_,hs⟩:=DataW.trod_string ht h
 exact ⟨⟨s,hs⟩,(VRs.nil).cons (.str s)⟩
theorem list_by {α:Type} (Q:Nat->α->Prop):∀ n,(∀ i,i<n->∃ a,Q i a)->∃ l:List α,l.length=n/\∀ i a,l[i]?=some a->Q i a
 | 0,_=>⟨[],rfl,fun i a h=>by simp at h⟩
 | n+1,hp=>by
  obtain ⟨l,hl,hh⟩:=list_by Q n (fun i hi=>hp i (by omega))
  obtain ⟨a,ha⟩:=hp n (by omega)
  refine ⟨l++[a],by simp [hl],fun i b h=>?_⟩
  by_cases hi:i<l.length
  ·rw [zar hi] at h; exact hh i b h
  ·rw [zas (by omega)] at h
   have hi2:i - l.length=0:=by
    have:=(zal.1 h).1
    simp at this; omega
   rw [hi2] at h
   simp only [za8,zao] at h
   subst h
   have:i=n:=by omega
   subst this
   exact ha
theorem flat_get {α:Type} {g:α->List IV} {sz:Nat} (hg:∀ x,(g x).length=sz):∀ {l:List α} {j:Nat} {z:IV},(l.flatMap g)[j]?=some z->∃ i r x,l[i]?=some x/\r<sz/\(g x)[r]?=some z/\j=i*sz+r
 | [],j,z,h=>by simp at h
 | y::l,j,z,h=>by
  rw [zbg] at h
  by_cases hj:j<(g y).length
  ·rw [zar hj] at h
   exact ⟨0,j,y,rfl,by rw [← hg y]; exact hj,h,by omega⟩
  ·rw [zas (by omega)] at h
   obtain ⟨i,r,x,h1,h2,h3,h4⟩:=flat_get hg h
   refine ⟨i+1,r,x,by simpa using h1,h2,h3,?_⟩
   rw [hg] at h4 hj
   rw [Nat.succ_mul]
   omega
theorem zn {α:Type} {g:α->List IV} {sz:Nat} (hg:∀ x,(g x).length=sz):∀ {l:List α},(l.flatMap g).length=l.length*sz
 | []=>by simp
 | y::l=>by rw [zbg,zaw,hg,zn hg,zau,Nat.succ_mul]; omega
theorem yx {α:Type} {g:α->List IV} {e:TypeId} {sz:Nat} (ht:P.underlying t=some (.slice e)) (hc:P.cellsOf e=sz) (hsz:0<sz) (hg:∀ a,(g a).length=sz) (he:Reads P W e g):Reads P W t (fun q:SlOf sz g=>[q.v]):=fun H enc fuel cs x h=>by
 have hlt:=fun p hp=>DataW.trod_lt _ _ _ _ h p hp
 rcases Go.Deep.open_slice ht h with ⟨rfl,_⟩ | ⟨a,len,cap,m,n,D,Pl,rfl,hb,hl,hm,hmm,hx,hel⟩
 ·exact ⟨⟨[],.nilsl,.nil,by simp⟩,(VRs.nil).cons .nilsl⟩
 ·simp only [if_true] at hmm
  subst hmm
  rw [hc] at hel hx
  obtain ⟨l,hll,hls⟩:=list_by (fun i (q:α)=>∃ cs',W.cells? 0 (a.add (i*sz)) sz=some cs'/\VRs noPl W (g q) cs') len (fun i hi=>by
   obtain ⟨cs',h1,h2⟩:=hel i (by omega)
   obtain ⟨q,hq⟩:=he _ _ _ _ _ h2
   exact ⟨q,cs',h1,hq⟩)
  have hcell:∀ (j:Nat) (z:IV),(l.flatMap g)[j]?=some z->∃ y,W.cell? (a.add j)=some y/\VR noPl W z y:=fun j z hz=>by
   obtain ⟨i,r,q,h1,h2,h3,rfl⟩:=flat_get hg hz
   obtain ⟨cs',hcs,hv⟩:=hls i q h1
   obtain ⟨_,_,hat⟩:=World.cells?_some hcs
   obtain ⟨y,hy,hvy⟩:=hv.get h3
   refine ⟨y,?_,hvy⟩
   have:=hat r h2
   rw [Go.Deep.add_add] at this
   rw [this,hy]
  have hfl:=zn (l:=l) hg
  have hspot:len≠0->a.spot=none:=fun h0=>by
   have h1:0<(l.flatMap g).length:=by rw [hfl,hll]; exact Nat.mul_pos (by omega) hsz
   obtain ⟨y,hy,_⟩:=hcell 0 _ (zak h1)
   cases hs:a.spot with
   | none=>rfl
   | some s =>
    simp only [World.cell?,Addr.add] at hy
    split at hy
    ·simp [hs] at hy
    ·simp at hy
  have hblk:len≠0->a.block<W.heap.size:=fun h0=>by
   have hrow:MemPlace.cell a.block (a.off+0)∈x.2:=by
    rw [hx]
    refine List.mem_append.2 (Or.inl (MemPlace.mem_row.2 ⟨0,Nat.mul_pos (by omega) hsz,rfl⟩))
   exact hlt _ hrow
  subst hll
  refine ⟨⟨l,.slC (l.flatMap g) l.length sz false,.row _ _ _ hfl,Nat.lt_of_le_of_lt (zbo hl hm) (by decide)⟩,(VRs.nil).cons ?_⟩
  refine ZO (k:=a.block) (s:=a.off) (fun h0=>⟨hblk h0,fun l i s hb=>by simp [noPl] at hb⟩) (fun j z hz=>?_) hfl hl (fun h=>by simp at h) (fun h0=>?_)
  ·obtain ⟨y,hy,hvy⟩:=hcell j z hz
   refine ⟨y,?_,hvy⟩
   have h0:l.length≠0:=by
    intro h0
    have:=(zal.1 hz).1
    rw [hfl,h0] at this
    simp at this
   rw [← hy,yD (hspot h0)]
  ·have:=hspot h0
   cases a
   simp only at this
   rw [this]
end
end
end Go.Proofs.YtgmifgfbnnbgjaaGreatDoor
end
section
namespace Go.Proofs.YtgmifgfbnnbgjaaGreatDoor
open Go Go.RowKit
section
def iv (n:Int):IV:=.int .i64 n
theorem zg (n:Int):iv n=.int .i64 n:=zax rfl rfl
def intc (n:Int):List IV:=[iv n]
structure Pt where
 x:Int
 y:Int
def Pt.c (p:Pt):List IV:=[iv p.x,iv p.y]
structure Nd where
 id:Int
 at':Pt
def Nd.c (n:Nd):List IV:=[iv n.id,iv n.at'.x,iv n.at'.y]
structure Ac where
 id:Int
 fr:Int
 to:Int
 via:SlOf 2 Pt.c
 l:Int
 r:Int
def Ac.c (a:Ac):List IV:=[iv a.id,iv a.fr,iv a.to,a.via.v,iv a.l,iv a.r]
structure Ft where
 id:Int
 kind:Int
 cls:Int
 name:{ s:ByteArray // s.size<=maxLen }
 parts:SlOf 1 intc
def Ft.c (f:Ft):List IV:=[iv f.id,iv f.kind,iv f.cls,.str f.name.1,f.parts.v]
structure Pn where
 ns:SlOf 3 Nd.c
 as:SlOf 6 Ac.c
 fs:SlOf 1 intc
def Pn.c (p:Pn):List IV:=[p.ns.v,p.as.v,p.fs.v]
structure Sv where
 pl:Pn
 ft:SlOf 5 Ft.c
def Sv.c (s:Sv):List IV:=[s.pl.ns.v,s.pl.as.v,s.pl.fs.v,s.ft.v]
theorem zi (n:Int):(intc n).length=1:=rfl
theorem Pt.c_len (p:Pt):p.c.length=2:=rfl
theorem Nd.c_len (p:Nd):p.c.length=3:=rfl
theorem Ac.c_len (p:Ac):p.c.length=6:=rfl
theorem Ft.c_len (p:Ft):p.c.length=5:=rfl
end
section
section
variable {C:Call} {d:Nat} {out:yLM} {n n0:Nat} {st st':St} {K:yKM}
theorem Ex_skip:Ex C d out n .skip K st=K .normal st:=propext ⟨fun ⟨o,st',h,hk⟩=>by simp only [exec,zao,Prod.mk.injEq] at h; obtain ⟨rfl,rfl⟩:=h; exact hk,ex_skip⟩
theorem Ex_ret:Ex C d out n .ret K st=K .ret st:=propext ⟨fun ⟨o,st',h,hk⟩=>by simp only [exec,zao,Prod.mk.injEq] at h; obtain ⟨rfl,rfl⟩:=h; exact hk,ex_ret⟩
theorem Ex_exit {id:Nat}:Ex C d out n (.exit id) K st=K (.exit id) st:=propext ⟨fun ⟨o,st',h,hk⟩=>by simp only [exec,zao,Prod.mk.injEq] at h; obtain ⟨rfl,rfl⟩:=h; exact hk,ex_exit⟩
theorem yN {a b:IC}:Ex C d out n (.seq a b) K st=Ex C d out n a (andThen (Ex C d out n b K) K) st:=by
 refine propext ⟨fun ⟨o,st',h,hk⟩=>?_,ex_seq⟩
 simp only [exec] at h
 unfold seqX at h
 split at h
 ·rename_i st1 he
  exact ⟨.normal,st1,he,o,st',h,hk⟩
 ·rename_i hne
  refine ⟨o,st',h,?_⟩
  cases o with
  | normal=>exact absurd h (hne _)
  | exit id=>exact hk
  | ret=>exact hk
theorem YZ {id:Nat} {a:IC}:Ex C d out n (.block id a) K st=Ex C d out n a (inBlock id K) st:=by
 refine propext ⟨fun ⟨o,st',h,hk⟩=>?_,ex_block⟩
 simp only [exec] at h
 unfold blockX at h
 split at h
 ·rename_i j st1 he
  split at h
  ·rename_i hj
   cases h
   refine ⟨.exit j,st',he,?_⟩
   simp only [inBlock,if_pos hj]
   exact hk
  ·rename_i hj
   cases h
   refine ⟨.exit j,st',he,?_⟩
   simp only [inBlock,if_neg hj]
   exact hk
 ·rename_i hne
  refine ⟨o,st',h,?_⟩
  cases o with
  | normal=>exact hk
  | exit id=>exact absurd h (hne _ _)
  | ret=>exact hk
def ExC (C:Call) (d:Nat) (out:yLM) (n:Nat) (v:IV) (a b:IC) (K:yKM) (st:St):Prop:=match v with
 | .bool true=>Ex C d out n a K st
 | .bool false=>Ex C d out n b K st
 | _=>False
theorem Ex_cond {c:Opd} {a b:IC} {t:List IV} {own:yLO}:Ex C d out n (.cond c a b) K ⟨t,own⟩=ExC C d out n (ρ t c) a b K ⟨t,own⟩:=by
 unfold Ex
 simp only [exec]
 generalize ρ t c=v
 cases v with
 | bool b=>cases b <;> rfl
 | _=>simp [condX,ExC]
theorem ExC_true {a b:IC}:ExC C d out n (.bool true) a b K st=Ex C d out n a K st:=zax rfl rfl
theorem ExC_false {a b:IC}:ExC C d out n (.bool false) a b K st=Ex C d out n b K st:=zax rfl rfl
theorem Ex_text {slots:Nat} {ops:List IOpR} {fr:List (Nat × Nat)} {t:List IV} {own:yLO}:Ex C d out n (.region false slots ops fr) K ⟨t,own⟩=Rn C d out own.length ops (K .normal) t (own++List.replicate slots .free):=by
 refine propext ⟨fun ⟨o,st',h,hk⟩=>?_,fun h=>ex_text (st:=⟨t,own⟩) h⟩
 simp only [exec,regionX,zf] at h
 split at h
 ·rename_i es st1 hr
  simp only [zbj,Bool.true_or,if_true,zao,Prod.mk.injEq] at h
  obtain ⟨rfl,rfl⟩:=h
  exact ⟨es,st1,hr,hk⟩
 ·simp at h
theorem Ex_drawn0 {slots:Nat} {ops:List IOpR} {fr:List (Nat × Nat)} {t:List IV} {own:yLO}:Ex C d out n (.region true slots ops fr) K ⟨t,own⟩=Rd C d out own.length ops (fun es st'=>fr.all (fun ji=>comm (es.getD ji.1 .x) (es.getD ji.2 .x))=true/\K .normal st') t (own++List.replicate slots .free):=by
 refine propext ⟨fun ⟨o,st',h,hk⟩=>?_,fun h=>ex_drawn (st:=⟨t,own⟩) h⟩
 simp only [exec,regionX,zf] at h
 split at h
 ·rename_i es st1 hr
  simp only [zbm,Bool.false_or] at h
  split at h
  ·rename_i hc
   cases h
   exact ⟨es,st',hr,hc,hk⟩
  ·simp at h
 ·simp at h
variable {t t':List IV} {own own':yLO} {k:St->Prop} {rest:List IOpR} {kd:List Eff->St->Prop} {acc:List Eff}
def RnP (C:Call) (d:Nat) (out:yLM) (n0:Nat) (rest:List IOpR) (k:St->Prop) (dst:Option Nat) (t:List IV) (r:Res):Prop:=match r with
 | some (_,v,own')=>Rn C d out n0 rest k (put t dst v) own'
 | none=>False
def Ra (C:Call) (d:Nat) (out:yLM) (n0:Nat) (ops:List IOpR) (kd:List Eff->St->Prop) (acc:List Eff) (t:List IV) (own:yLO):Prop:=Rd C d out n0 ops (fun es st'=>kd (acc++es) st') t own
def RaP (C:Call) (d:Nat) (out:yLM) (n0:Nat) (rest:List IOpR) (kd:List Eff->St->Prop) (acc:List Eff) (dst:Option Nat) (t:List IV) (r:Res):Prop:=match r with
 | some (e,v,own')=>Ra C d out n0 rest kd (acc++[e]) (put t dst v) own'
 | none=>False
def Free (fr:List (Nat × Nat)) (K:yKM) (es:List Eff) (st:St):Prop:=fr.all (fun ji=>comm (es.getD ji.1 .x) (es.getD ji.2 .x))=true/\K .normal st
theorem Ex_drawn {slots:Nat} {ops:List IOpR} {fr:List (Nat × Nat)} {t:List IV} {own:yLO}:Ex C d out n (.region true slots ops fr) K ⟨t,own⟩=Ra C d out own.length ops (Free fr K) [] t (own++List.replicate slots .free):=by
 rw [Ex_drawn0]
 rfl
theorem RnP_some {e:Eff} {v:IV} {dst:Option Nat}:RnP C d out n0 rest k dst t (some (e,v,own'))=Rn C d out n0 rest k (put t dst v) own':=zax rfl rfl
theorem RaP_some {e:Eff} {v:IV} {dst:Option Nat}:RaP C d out n0 rest kd acc dst t (some (e,v,own'))=Ra C d out n0 rest kd (acc++[e]) (put t dst v) own':=zax rfl rfl
theorem Rn_nil:Rn C d out n0 [] k t own=k ⟨t,own⟩:=propext ⟨fun ⟨es,st',h,hk⟩=>by simp only [runR,zao,Prod.mk.injEq] at h; obtain ⟨rfl,rfl⟩:=h; exact hk,rn_nil⟩
theorem Ra_nil:Ra C d out n0 [] kd acc t own=kd acc ⟨t,own⟩:=by
 unfold Ra
 refine propext ⟨fun ⟨es,st',h,hk⟩=>?_,fun h=>rd_nil (by simpa using h)⟩
 simp only [runR,zao,Prod.mk.injEq] at h
 obtain ⟨rfl,rfl⟩:=h
 simpa using hk
theorem Rn_cons {dst:Option Nat} {op:IOp} {vis:List Nat}:Rn C d out n0 (⟨dst,op,none,vis⟩::rest) k t own=RnP C d out n0 rest k dst t (evOp C d out n0 own own t op):=by
 refine propext ⟨fun ⟨es,st',h,hk⟩=>?_,fun h=>?_⟩
 ·simp only [runR,stepR,wantedI,if_true,zaz,if_false] at h
  cases he:evOp C d out n0 own own t op with
  | none=>rw [he] at h; simp at h
  | some r =>
   obtain ⟨e,v,o⟩:=r
   rw [he] at h
   simp only at h
   split at h
   ·rename_i es2 st2 hr
    cases h
    exact ⟨es2,st',hr,hk⟩
   ·simp at h
 ·cases he:evOp C d out n0 own own t op with
  | none=>rw [he] at h; exact h.elim
  | some r =>
   obtain ⟨e,v,o⟩:=r
   rw [he] at h
   exact rn_cons he h
theorem Rn_yes {dst:Option Nat} {op:IOp} {vis:List Nat} {g:Nat × Bool} (hg:wantedI t (some g)=true):Rn C d out n0 (⟨dst,op,some g,vis⟩::rest) k t own=RnP C d out n0 rest k dst t (evOp C d out n0 own own t op):=by
 rw [← Rn_cons (vis:=vis)]
 have h0:wantedI t none=true:=zax rfl rfl
 unfold Rn
 simp only [runR,stepR,hg,h0]
theorem Rn_no {dst:Option Nat} {op:IOp} {vis:List Nat} {g:Nat × Bool} (hg:wantedI t (some g)=false):Rn C d out n0 (⟨dst,op,some g,vis⟩::rest) k t own=Rn C d out n0 rest k (put t dst (.tuple [])) own:=by
 refine propext ⟨fun ⟨es,st',h,hk⟩=>?_,rn_no hg⟩
 simp only [runR,stepR,hg,zaz,if_false] at h
 split at h
 ·rename_i es2 st2 hr
  cases h
  exact ⟨es2,st',hr,hk⟩
 ·simp at h
def RnG (C:Call) (d:Nat) (out:yLM) (n0:Nat) (op:IOp) (v:Option IV) (b:Bool) (rest:List IOpR) (k:St->Prop) (dst:Option Nat) (t:List IV) (own:yLO):Prop:=match v with
 | some (.bool c)=>if c=b then RnP C d out n0 rest k dst t (evOp C d out n0 own own t op) else Rn C d out n0 rest k (put t dst (.tuple [])) own
 | _=>Rn C d out n0 rest k (put t dst (.tuple [])) own
theorem Rn_guard {dst:Option Nat} {op:IOp} {vis:List Nat} {j:Nat} {b:Bool}:Rn C d out n0 (⟨dst,op,some (j,b),vis⟩::rest) k t own=RnG C d out n0 op t[j]? b rest k dst t own:=by
 unfold RnG
 split
 ·rename_i c hc
  split
  ·rename_i hcb
   exact Rn_yes (by simp [wantedI,hc,hcb])
  ·rename_i hcb
   exact Rn_no (by simp [wantedI,hc,hcb])
 ·rename_i hne
  refine Rn_no ?_
  cases hv:t[j]? with
  | none=>simp [wantedI,hv]
  | some v=>cases v with
   | bool c=>exact absurd hv (hne c)
   | _=>simp [wantedI,hv]
def RaG (C:Call) (d:Nat) (out:yLM) (n0:Nat) (op:IOp) (vis:List Nat) (v:Option IV) (b:Bool) (rest:List IOpR) (kd:List Eff->St->Prop) (acc:List Eff) (dst:Option Nat) (t:List IV) (own:yLO):Prop:=match v with
 | some (.bool c)=>if c=b then RaP C d out n0 rest kd acc dst t (evOp C d out n0 (hide vis n0 own) own t op) else Ra C d out n0 rest kd (acc++[.p]) (put t dst (.tuple [])) own
 | _=>Ra C d out n0 rest kd (acc++[.p]) (put t dst (.tuple [])) own
theorem RnG_tt {op:IOp} {dst:Option Nat}:RnG C d out n0 op (some (.bool true)) true rest k dst t own=RnP C d out n0 rest k dst t (evOp C d out n0 own own t op):=by simp [RnG]
theorem RnG_ff {op:IOp} {dst:Option Nat}:RnG C d out n0 op (some (.bool false)) false rest k dst t own=RnP C d out n0 rest k dst t (evOp C d out n0 own own t op):=by simp [RnG]
theorem RnG_tf {op:IOp} {dst:Option Nat}:RnG C d out n0 op (some (.bool true)) false rest k dst t own=Rn C d out n0 rest k (put t dst (.tuple [])) own:=by simp [RnG]
theorem RnG_ft {op:IOp} {dst:Option Nat}:RnG C d out n0 op (some (.bool false)) true rest k dst t own=Rn C d out n0 rest k (put t dst (.tuple [])) own:=by simp [RnG]
theorem RnG_un {op:IOp} {dst:Option Nat} {b:Bool}:RnG C d out n0 op (some (.tuple [])) b rest k dst t own=Rn C d out n0 rest k (put t dst (.tuple [])) own:=by simp [RnG]
theorem Ra_cons {dst:Option Nat} {op:IOp} {vis:List Nat}:Ra C d out n0 (⟨dst,op,none,vis⟩::rest) kd acc t own=RaP C d out n0 rest kd acc dst t (evOp C d out n0 (hide vis n0 own) own t op):=by
 refine propext ⟨fun ⟨es,st',h,hk⟩=>?_,fun h=>?_⟩
 ·simp only [runR,stepR,wantedI,if_true] at h
  cases he:evOp C d out n0 (hide vis n0 own) own t op with
  | none=>rw [he] at h; simp at h
  | some r =>
   obtain ⟨e,v,o⟩:=r
   rw [he] at h
   simp only at h
   split at h
   ·rename_i es2 st2 hr
    cases h
    exact ⟨es2,st',hr,by simpa using hk⟩
   ·simp at h
 ·cases he:evOp C d out n0 (hide vis n0 own) own t op with
  | none=>rw [he] at h; exact h.elim
  | some r =>
   obtain ⟨e,v,o⟩:=r
   rw [he] at h
   obtain ⟨es,st',h1,h2⟩:=h
   exact rd_cons he ⟨es,st',h1,by simpa using h2⟩
theorem Ra_yes {dst:Option Nat} {op:IOp} {vis:List Nat} {g:Nat × Bool} (hg:wantedI t (some g)=true):Ra C d out n0 (⟨dst,op,some g,vis⟩::rest) kd acc t own=RaP C d out n0 rest kd acc dst t (evOp C d out n0 (hide vis n0 own) own t op):=by
 rw [← Ra_cons]
 have h0:wantedI t none=true:=zax rfl rfl
 unfold Ra Rd
 simp only [runR,stepR,hg,h0]
theorem Ra_no {dst:Option Nat} {op:IOp} {vis:List Nat} {g:Nat × Bool} (hg:wantedI t (some g)=false):Ra C d out n0 (⟨dst,op,some g,vis⟩::rest) kd acc t own=Ra C d out n0 rest kd (acc++[.p]) (put t dst (.tuple [])) own:=by
 unfold Ra
 refine propext ⟨fun ⟨es,st',h,hk⟩=>?_,fun ⟨es,st',h,hk⟩=>rd_no hg ⟨es,st',h,by simpa using hk⟩⟩
 simp only [runR,stepR,hg,zaz,if_false] at h
 split at h
 ·rename_i es2 st2 hr
  cases h
  exact ⟨es2,st',hr,by simpa using hk⟩
 ·simp at h
theorem Ra_guard {dst:Option Nat} {op:IOp} {vis:List Nat} {j:Nat} {b:Bool}:Ra C d out n0 (⟨dst,op,some (j,b),vis⟩::rest) kd acc t own=RaG C d out n0 op vis t[j]? b rest kd acc dst t own:=by
 unfold RaG
 split
 ·rename_i c hc
  split
  ·rename_i hcb
   exact Ra_yes (by simp [wantedI,hc,hcb])
  ·rename_i hcb
   exact Ra_no (by simp [wantedI,hc,hcb])
 ·rename_i hne
  refine Ra_no ?_
  cases hv:t[j]? with
  | none=>simp [wantedI,hv]
  | some v=>cases v with
   | bool c=>exact absurd hv (hne c)
   | _=>simp [wantedI,hv]
theorem RaG_tt {op:IOp} {vis:List Nat} {dst:Option Nat}:RaG C d out n0 op vis (some (.bool true)) true rest kd acc dst t own=RaP C d out n0 rest kd acc dst t (evOp C d out n0 (hide vis n0 own) own t op):=by simp [RaG]
theorem RaG_ff {op:IOp} {vis:List Nat} {dst:Option Nat}:RaG C d out n0 op vis (some (.bool false)) false rest kd acc dst t own=RaP C d out n0 rest kd acc dst t (evOp C d out n0 (hide vis n0 own) own t op):=by simp [RaG]
theorem RaG_tf {op:IOp} {vis:List Nat} {dst:Option Nat}:RaG C d out n0 op vis (some (.bool true)) false rest kd acc dst t own=Ra C d out n0 rest kd (acc++[.p]) (put t dst (.tuple [])) own:=by simp [RaG]
theorem RaG_ft {op:IOp} {vis:List Nat} {dst:Option Nat}:RaG C d out n0 op vis (some (.bool false)) true rest kd acc dst t own=Ra C d out n0 rest kd (acc++[.p]) (put t dst (.tuple [])) own:=by simp [RaG]
theorem RaG_un {op:IOp} {vis:List Nat} {dst:Option Nat} {b:Bool}:RaG C d out n0 op vis (some (.tuple [])) b rest kd acc dst t own=Ra C d out n0 rest kd (acc++[.p]) (put t dst (.tuple [])) own:=by simp [RaG]
theorem zr {k:St->Prop}:andThen k K .normal st=k st:=zax rfl rfl
theorem yy {k:St->Prop}:andThen k K .ret st=K .ret st:=zax rfl rfl
theorem Zg {k:St->Prop} {j:Nat}:andThen k K (.exit j) st=K (.exit j) st:=zax rfl rfl
theorem yO {id:Nat}:inBlock id K .normal st=K .normal st:=zax rfl rfl
theorem zO {id:Nat}:inBlock id K .ret st=K .ret st:=zax rfl rfl
theorem Zh {id j:Nat}:inBlock id K (.exit j) st=if j=id then K .normal st else K (.exit j) st:=zax rfl rfl
theorem ρ_at {i:Nat}:ρ t (.tmp i)=getK (.tuple []) t i:=zax rfl rfl
theorem getK_zero {α:Type} {z x:α} {l:List α}:getK z (x::l) 0=x:=zax rfl rfl
theorem getK_succ {α:Type} {z x:α} {l:List α} {i:Nat}:getK z (x::l) (i+1)=getK z l i:=zax rfl rfl
theorem set_zero {α:Type} {x v:α} {l:List α}:(x::l).set 0 v=v::l:=zax rfl rfl
theorem set_succ {α:Type} {x v:α} {l:List α} {i:Nat}:(x::l).set (i+1) v=x::l.set i v:=zax rfl rfl
end
section
variable {C:Call} {d:Nat} {out:yLM} {n0:Nat} {own ownV:yLO} {t:List IV}
theorem ev_mov (x:Opd):evOp C d out n0 ownV own t (.mov x)=some (.p,ρ t x,own):=zax rfl rfl
theorem ev_nilchk (x:Opd):evOp C d out n0 ownV own t (.nilchk x)=e_nilchk own t x:=zax rfl rfl
theorem ev_pick (c a b:Opd):evOp C d out n0 ownV own t (.pick c a b)=e_pick own t c a b:=zax rfl rfl
theorem ev_newv (cs:List IV) (slot:Nat):evOp C d out n0 ownV own t (.newv cs slot)=mkAt own (n0+slot) (.cells cs) (.ptrM d (n0+slot) 0):=zax rfl rfl
theorem ev_box (x:Opd) (slot:Nat):evOp C d out n0 ownV own t (.box x slot)=e_box d n0 own t x slot:=zax rfl rfl
theorem ev_build (z:List IV) (ps:List (Nat × Nat × Opd)):evOp C d out n0 ownV own t (.build z ps)=(fillI t z ps).map fun c=>(.p,.agg c,own):=zax rfl rfl
theorem ev_bslice (z:List IV) (sz len:Nat) (ps:List (Nat × Nat × Opd)):evOp C d out n0 ownV own t (.bslice z sz len ps)=e_bslice own t z sz len ps:=zax rfl rfl
theorem ev_load (agg:Bool) (n:Nat) (x:Opd):evOp C d out n0 ownV own t (.load agg n x)=e_load d out ownV own t agg n x:=zax rfl rfl
theorem ev_store (n:Nat) (x v:Opd):evOp C d out n0 ownV own t (.store n x v)=e_store d own t n x v:=zax rfl rfl
theorem ev_bin (op:BinOp) (x y:Opd):evOp C d out n0 ownV own t (.bin op x y)=(binI op (ρ t x) (ρ t y)).map fun v=>(.p,v,own):=zax rfl rfl
theorem ev_eqagg (neg:Bool) (ks:List Nat) (x y:Opd):evOp C d out n0 ownV own t (.eqagg neg ks x y)=e_eqagg own t neg ks x y:=zax rfl rfl
theorem ev_eqb (neg:Bool) (x y:Opd):evOp C d out n0 ownV own t (.eqb neg x y)=e_eqb own t neg x y:=zax rfl rfl
theorem ev_eqp (neg:Bool) (x y:Opd):evOp C d out n0 ownV own t (.eqp neg x y)=e_eqp own t neg x y:=zax rfl rfl
theorem ev_eqs (neg:Bool) (x y:Opd):evOp C d out n0 ownV own t (.eqs neg x y)=e_eqs own t neg x y:=zax rfl rfl
theorem ev_un (op:UnOp) (x:Opd):evOp C d out n0 ownV own t (.un op x)=(unI op (ρ t x)).map fun v=>(.p,v,own):=zax rfl rfl
theorem ev_conv (k:IntKind) (x:Opd):evOp C d out n0 ownV own t (.conv k x)=e_conv own t k x:=zax rfl rfl
theorem ev_cstr (x:Opd):evOp C d out n0 ownV own t (.cstr x)=e_cstr own t x:=zax rfl rfl
theorem ev_mkfn (f:FuncId) (a b:List Opd):evOp C d out n0 ownV own t (.mkfn f a b)=some (.p,.fn f (a.map (ρ t)) (b.map (ρ t)),own):=zax rfl rfl
theorem ev_mkmap (slot:Nat):evOp C d out n0 ownV own t (.mkmap slot)=mkAt own (n0+slot) (.map [] [] [] 0) (.mapM d (n0+slot)):=zax rfl rfl
theorem yP (sz:Nat) (x:Opd) (lo hi mx:Option Opd):evOp C d out n0 ownV own t (.slice sz x lo hi mx)=(sliceI sz t (ρ t x) lo hi mx).map fun v=>(.p,v,own):=zax rfl rfl
theorem ev_faddr (off:Nat) (x:Opd):evOp C d out n0 ownV own t (.faddr off x)=e_faddr own t off x:=zax rfl rfl
theorem ev_field (agg:Bool) (off n:Nat) (x:Opd):evOp C d out n0 ownV own t (.field agg off n x)=e_field own t agg off n x:=zax rfl rfl
theorem ev_iaddrA (sz len:Nat) (x ix:Opd):evOp C d out n0 ownV own t (.iaddrA sz len x ix)=e_iaddrA own t sz len x ix:=zax rfl rfl
theorem ev_index (agg:Bool) (sz len:Nat) (x ix:Opd):evOp C d out n0 ownV own t (.index agg sz len x ix)=e_index own t agg sz len x ix:=zax rfl rfl
theorem ev_lookup (z:IV) (kt:Bool × List Nat) (ok:Bool) (x ix:Opd):evOp C d out n0 ownV own t (.lookup z kt ok x ix)=e_lookup d out ownV own t z kt ok x ix:=zax rfl rfl
theorem ev_mapupd (kt:Bool × List Nat) (m k v:Opd):evOp C d out n0 ownV own t (.mapupd kt m k v)=e_mapupd d own t kt m k v:=zax rfl rfl
theorem Y0 (x:Opd) (i:Nat):evOp C d out n0 ownV own t (.extract x i)=e_extract own t x i:=zax rfl rfl
theorem ev_call (f:Opd) (xs:List Opd) (slot:Nat):evOp C d out n0 ownV own t (.call f xs slot)=e_call C d out n0 ownV own t f xs slot:=zax rfl rfl
theorem zp (z:List IV) (sz:Nat) (zeros:Bool) (s x:Opd) (slot:Nat):evOp C d out n0 ownV own t (.append z sz zeros s x slot)=e_append d out n0 ownV own t z sz zeros s x slot:=zax rfl rfl
theorem ev_mx (m:Bool) (x y:Opd):evOp C d out n0 ownV own t (.mx m x y)=e_mx own t m x y:=zax rfl rfl
theorem ev_cap (x:Opd):evOp C d out n0 ownV own t (.cap x)=e_cap own t x:=zax rfl rfl
end
theorem YC {x:IV} {l:List IV} {k:Nat}:∀ {n:Nat},rdN (x::l) (k+1) n=rdN l k n
 | 0=>rfl
 | n+1=>by simp only [rdN,za1]; rw [YC (k:=k+1)]
theorem rd_here {x:IV} {l:List IV} {n:Nat}:rdN (x::l) 0 (n+1)=(rdN l 0 n).map (x::·):=by
 simp only [rdN,za8,zap]
 rw [YC]
theorem rd_none {l:List IV} {k:Nat}:rdN l k 0=some []:=zax rfl rfl
theorem YD {x:IV} {l:List IV} {k:Nat}:∀ {vs:List IV},wrN (x::l) (k+1) vs=x::wrN l k vs
 | []=>rfl
 | v::vs=>by simp only [wrN,List.set_cons_succ]; rw [YD (k:=k+1)]
theorem wr_here {x v:IV} {l vs:List IV}:wrN (x::l) 0 (v::vs)=v::wrN l 0 vs:=by
 simp only [wrN,List.set_cons_zero,zap]
 rw [YD]
theorem wr_none {l:List IV} {k:Nat}:wrN l k []=l:=zax rfl rfl
end
section
section
variable {α:Type} {g:α->List IV} {sz:Nat} {C:Call} {d:Nat} {out:yLM} {n0:Nat} {own ownV:yLO} {t:List IV}
noncomputable def lenV (d:Nat) (out:yLM) (ownV own:yLO) (k:Nat) (v:IV):Res :=
 match v with
  | .nilsl=>if k=1 then some (.p,.int .i64 0,own) else none
  | .slM _ _ _ n _ _ _=>if k=1 then some (.p,.int .i64 n,own) else none
  | .slC _ n _ _=>if k=1 then some (.p,.int .i64 n,own) else none
  | .str s=>if k=0 then some (.p,.int .i64 s.size,own) else none
  | .nilmap=>if k=2 then some (.p,.int .i64 0,own) else none
  | .mapC ks _=>if k=2 then some (.p,.int .i64 ks.length,own) else none
  | .mapM l i=>if k=2 then match look d out ownV l i with
   | some (.map ks _ _ _)=>some (.r,.int .i64 ks.length,own)
   | _=>none
   else none
  | _=>none
theorem ev_len {k:Nat} {x:Opd}:evOp C d out n0 ownV own t (.len k x)=lenV d out ownV own k (ρ t x):=zax rfl rfl
theorem lenV_sl (q:SlOf sz g):lenV d out ownV own 1 q.v=some (.p,.int .i64 (q.l.length:Nat),own):=by
 obtain ⟨l,v,ok,few⟩:=q
 have hh:∀ (cs:List IV) (n:Nat) (v:IV),Sl sz cs n v->lenV d out ownV own 1 v=some (.p,.int .i64 (n:Nat),own):=fun cs n v h=>by cases h <;> rfl
 exact hh _ _ _ ok
theorem Y1 {l i off n cap z:Nat} {tight:Bool}:lenV d out ownV own 1 (.slM l i off n cap z tight)=some (.p,.int .i64 n,own):=zax rfl rfl
theorem lenV_slC {cs:List IV} {n z:Nat} {tight:Bool}:lenV d out ownV own 1 (.slC cs n z tight)=some (.p,.int .i64 n,own):=zax rfl rfl
theorem lenV_nil:lenV d out ownV own 1 .nilsl=some (.p,.int .i64 0,own):=zax rfl rfl
noncomputable def iaddrV (own:yLO) (sz:Nat) (v ix:IV):Res :=
 match v,natI ix with
  | .slM l i off len _ _ _,some j=>if j<len then some (.p,.ptrM l i (off+j*sz),own) else none
  | .slC cs len _ _,some j=>if j<len then some (.p,.ptrC cs (j*sz),own) else none
  | _,_=>none
theorem ev_iaddr {z:Nat} {x ix:Opd}:evOp C d out n0 ownV own t (.iaddr z x ix)=iaddrV own z (ρ t x) (ρ t ix):=zax rfl rfl
theorem zc (q:SlOf sz g) {k:IntKind} {i:Nat} (h:i<q.l.length):iaddrV own sz q.v (.int k i)=some (.p,.ptrC (q.l.flatMap g) (i*sz),own):=by
 obtain ⟨l,v,ok,few⟩:=q
 have hh:∀ (cs:List IV) (n:Nat) (v:IV),Sl sz cs n v->i<n->iaddrV own sz v (.int k i)=some (.p,.ptrC cs (i*sz),own):=fun cs n v h hi=>by
  cases h
  ·omega
  ·unfold iaddrV
   rw [zM]
   exact if_pos hi
 exact hh _ _ _ ok h
theorem ZH {cs:List IV} {n z:Nat} {tight:Bool} {k:IntKind} {i:Nat} (h:i<n):iaddrV own z (.slC cs n sz tight) (.int k i)=some (.p,.ptrC cs (i*z),own):=by
 unfold iaddrV
 rw [zM]
 exact if_pos h
theorem Zi {l b off n cap z z':Nat} {tight:Bool} {k:IntKind} {i:Nat} (h:i<n):iaddrV own z (.slM l b off n cap z' tight) (.int k i)=some (.p,.ptrM l b (off+i*z),own):=by
 unfold iaddrV
 rw [zM]
 exact if_pos h
theorem YE (q:SlOf sz g):q.v.scalar=true:=by
 obtain ⟨l,v,ok,few⟩:=q
 have hh:∀ (cs:List IV) (n:Nat) (v:IV),Sl sz cs n v->v.scalar=true:=fun cs n v h=>by cases h <;> rfl
 exact hh _ _ _ ok
theorem sl_cells (q:SlOf sz g):q.v.cells=[q.v]:=by
 obtain ⟨l,v,ok,few⟩:=q
 have hh:∀ (cs:List IV) (n:Nat) (v:IV),Sl sz cs n v->v.cells=[v]:=fun cs n v h=>by cases h <;> rfl
 exact hh _ _ _ ok
theorem yg (q:SlOf sz g) {lk:Nat->Nat->Option IObj}:cellsI lk sz q.v=some (q.l.flatMap g,q.l.length):=by
 obtain ⟨l,v,ok,few⟩:=q
 have hh:∀ (cs:List IV) (n:Nat) (v:IV),Sl sz cs n v->cellsI lk sz v=some (cs,n):=fun cs n v h=>by
  cases h
  ·rfl
  ·rename_i h
   simp only [cellsI,seg,zf,zap,h,zaq,if_true,List.drop_zero,za5]
   rw [za0 (by omega)]
 exact hh _ _ _ ok
end
theorem zq {cs:List IV}:(IV.agg cs).cells=cs:=zax rfl rfl
theorem cells_int {k:IntKind} {n:Int}:(IV.int k n).cells=[.int k n]:=zax rfl rfl
theorem Y4 {b:Bool}:(IV.bool b).cells=[.bool b]:=zax rfl rfl
theorem cells_str {s:ByteArray}:(IV.str s).cells=[.str s]:=zax rfl rfl
theorem Yu:IV.nilsl.cells=[.nilsl]:=zax rfl rfl
theorem ZY:IV.nilptr.cells=[.nilptr]:=zax rfl rfl
theorem scal_int {k:IntKind} {n:Int}:(IV.int k n).scalar=true:=zax rfl rfl
theorem scal_bool {b:Bool}:(IV.bool b).scalar=true:=zax rfl rfl
theorem scal_str {s:ByteArray}:(IV.str s).scalar=true:=zax rfl rfl
theorem Y5:IV.nilsl.scalar=true:=zax rfl rfl
theorem scal_ptrM {l i o:Nat}:(IV.ptrM l i o).scalar=true:=zax rfl rfl
theorem scal_slM {l i o n c z:Nat} {tight:Bool}:(IV.slM l i o n c z tight).scalar=true:=zax rfl rfl
theorem scal_slC {cs:List IV} {n z:Nat} {tight:Bool}:(IV.slC cs n z tight).scalar=true:=zax rfl rfl
theorem cells_slM {l i o n c z:Nat} {tight:Bool}:(IV.slM l i o n c z tight).cells=[.slM l i o n c z tight]:=zax rfl rfl
theorem cells_slC {cs:List IV} {n z:Nat} {tight:Bool}:(IV.slC cs n z tight).cells=[.slC cs n z tight]:=zax rfl rfl
theorem scal_fn {f:FuncId} {a b:List IV}:(IV.fn f a b).scalar=true:=zax rfl rfl
section
variable {vis:List Nat} {n:Nat} {x y z w:IObj} {l:yLO}
theorem hide_k0:(hide vis (n+1) (x::l))[0]?=some x:=by rw [zI]; simp
theorem hide_k1:(hide vis (n+1+1) (x::y::l))[1]?=some y:=by rw [zI]; simp
theorem hide_k2:(hide vis (n+1+1+1) (x::y::z::l))[2]?=some z:=by rw [zI]; simp
variable {a b c e:IObj}
theorem hide_k4:(hide vis (n+1+1+1+1+1) (x::y::z::w::a::l))[4]?=some a:=by rw [zI]; simp
theorem hide_k5:(hide vis (n+1+1+1+1+1+1) (x::y::z::w::a::b::l))[5]?=some b:=by rw [zI]; simp
theorem hide_k6:(hide vis (n+1+1+1+1+1+1+1) (x::y::z::w::a::b::c::l))[6]?=some c:=by rw [zI]; simp
theorem hide_end {J:yLO}:(hide vis (J.length+1+1) (x::(J++[y])))[J.length+1]?=some y:=by rw [zI]; simp
theorem hide_k3:(hide vis (n+1+1+1+1) (x::y::z::w::l))[3]?=some w:=by rw [zI]; simp
end
section
variable {α:Type} {l r:List α} {x y v:α}
theorem get_end:(l++x::r)[l.length]?=some x:=by simp
theorem get_end1:(l++x::y::r)[l.length+1]?=some y:=by simp
variable {z w:α}
theorem get_end2:(l++x::y::z::r)[l.length+2]?=some z:=by simp
theorem get_end3:(l++x::y::z::w::r)[l.length+3]?=some w:=by simp
theorem set_end:(l++x::r).set l.length v=l++v::r:=by simp
theorem set_end1:(l++x::y::r).set (l.length+1) v=l++x::v::r:=by simp
end
section
variable {C:Call} {d:Nat} {out:yLM} {n:Nat} {st:St} {K:yKM}
theorem zd {a:IC} (I:Nat->St->Prop) (j:Nat) (hn:j<n) (h0:I j st)
  (h:∀ (j:Nat) (st:St) (K':yKM),I j st->(∀ st' j',j'<j->I j' st'->K' .normal st')->(∀ id st',K (.exit id) st'->K' (.exit id) st')->(∀ st',K .ret st'->K' .ret st')->Ex C d out n a K' st):Ex C d out n (.loop a) K st :=
 ex_loop I j hn h0 fun j st hI=>h j st _ hI (fun st' j' h1 h2=>⟨j',h1,h2⟩) (fun id st' hk=>hk) (fun st' hk=>hk)
end
section
variable {F:FuncId->Option IFn} {S:ySM} {d:Nat} {out:yLM} {rs:List IRes} {v:IV} {st:St}
def Fin (d:Nat) (out:yLM) (rs:List IRes) (v:IV) (o:Out) (st:St):Prop:=(o=.normal∨o=.ret)/\resultI d out st rs=some v
theorem Fin_ret:Fin d out rs v .ret st=(resultI d out st rs=some v):=propext ⟨fun h=>h.2,fun h=>⟨.inr rfl,h⟩⟩
theorem Y6:Fin d out rs v .normal st=(resultI d out st rs=some v):=propext ⟨fun h=>h.2,fun h=>⟨.inl rfl,h⟩⟩
theorem res1 {r:IRes}:resultI d out st [r]=resI d out st r:=by
 unfold resultI
 cases h:resI d out st r <;> simp [h]
theorem res2 {r r':IRes}:resultI d out st [r,r']=(resI d out st r).bind fun v=>(resI d out st r').map fun w=>.tuple [v,w]:=by
 unfold resultI
 cases h:resI d out st r with
 | none=>simp [h]
 | some v=>cases h':resI d out st r' <;> simp [h,h']
noncomputable def cellV (d:Nat) (out:yLM) (own:yLO) (agg:Bool) (n:Nat) (v:IV):Option IV:=match v with
 | .ptrM l i off=>match look d out own l i with
  | some (.cells c)=>(rdN c off n).bind (mkv agg)
  | _=>none
 | _=>none
theorem resI_tmp {t:List IV} {own:yLO} {i:Nat}:resI d out ⟨t,own⟩ (.tmp i)=some (getK (.tuple []) t i):=by
 simp only [resI]
 rw [zR]
theorem resI_cell {t:List IV} {own:yLO} {agg:Bool} {n a:Nat}:resI d out ⟨t,own⟩ (.cell agg n a)=cellV d out own agg n (getK (.tuple []) t a):=by
 simp only [resI]
 rw [zR]
 rfl
theorem yQ {f:FuncId} {i:IFn} {args:List IV} {k:Nat} (hS:S f args=none) (hi:F f=some i) (hm:i.mode=0) (hv:Fz k v) (N:Nat) (hN:k<=N)
  (h:∀ m,N<=m->∀ d out,Ex (callN F S m) d out m i.body (Fin d out i.res v) ⟨args++List.replicate (i.ntmps - args.length) (.tuple []),[]⟩):Gives F S f args v :=
 gives_of hS hi hm N fun m hm2 d out=>(h m hm2 d out).mono fun o st' hk=>⟨hk.1,hk.2,hv m (by omega) _ _⟩
end
section
variable {F:FuncId->Option IFn} {S:ySM}
def FinF (d:Nat) (out:yLM) (rs:List IRes) (m:Nat) (w:IV) (o:Out) (st:St):Prop:=(o=.normal∨o=.ret)/\∃ v,resultI d out st rs=some v/\freeze m d st.own v=some w
variable {d m:Nat} {out:yLM} {rs:List IRes} {w:IV} {st:St}
theorem zL:FinF d out rs m w .ret st=∃ v,resultI d out st rs=some v/\freeze m d st.own v=some w:=propext ⟨fun h=>h.2,fun h=>⟨.inr rfl,h⟩⟩
theorem Yv:FinF d out rs m w .normal st=∃ v,resultI d out st rs=some v/\freeze m d st.own v=some w:=propext ⟨fun h=>h.2,fun h=>⟨.inl rfl,h⟩⟩
theorem ZZ {f:FuncId} {i:IFn} {args:List IV} {w:IV} (hS:S f args=none) (hi:F f=some i) (hm:i.mode=0) (N:Nat)
  (h:∀ m,N<=m->∀ d out,Ex (callN F S m) d out m i.body (FinF d out i.res m w) ⟨args++List.replicate (i.ntmps - args.length) (.tuple []),[]⟩):Gives F S f args w:=by
 refine ⟨N+1,fun m hN d out ownV own id=>?_⟩
 obtain ⟨m,rfl⟩:∃ q,m=q+1:=⟨m - 1,by omega⟩
 obtain ⟨o,st,h1,h2,v,h3,h4⟩:=h m (by omega) (d+1) (fun l=>if l=d then ownV else out l)
 have hm2:¬ i.mode=2:=by omega
 have hm3:¬ i.mode=3:=by omega
 have hm1:¬ i.mode=1:=by omega
 simp only [callN,hS,hi,if_neg hm2,if_neg hm3,zf,h1]
 rcases h2 with rfl | rfl <;> simp only [ended,h3,za7,leave,if_neg hm1,h4,za5]
end
section
variable {α:Type} {g:α->List IV} {sz:Nat}
theorem sl_fz {k:Nat} (hg:∀ a,∀ x∈g a,Fz k x) {l:List α} {len:Nat} {tight:Bool}:Fz (k+1) (.slC (l.flatMap g) len sz tight):=fz_slC fun x hx=>by
 obtain ⟨a,_,h⟩:=List.mem_flatMap.1 hx
 exact hg a x h
theorem Zj {k m d i n:Nat} (hg:∀ a,∀ x∈g a,Fz k x) (hk:k+1<=m) {l:List α} {own:yLO} {tight:Bool} (hl:l.length=n) (hs:∀ a,(g a).length=sz) (ho:own[i]?=some (.cells (l.flatMap g))):freeze m d own (.slM d i 0 n n sz tight)=some (.slC (l.flatMap g) n sz (tight&&true)):=by
 obtain ⟨m,rfl⟩:∃ q,m=q+1:=⟨m - 1,by omega⟩
 have hseg:seg (l.flatMap g) 0 (n*sz)=some (l.flatMap g):=by
  unfold seg
  rw [zf,zn hs,hl,if_pos (by omega),List.drop_zero,za0 (by rw [zn hs,hl]; exact zaq _)]
 simp only [freeze,if_true,ho,hseg,za7]
 rw [zV fun x hx=>by
  obtain ⟨a,_,h⟩:=List.mem_flatMap.1 hx
  exact hg a x h m (by omega) d own]
 simp
end
end
section
theorem Wc:(type_of% @yN)/\(type_of% @Ex_text)/\(type_of% @Ex_drawn)/\(type_of% @YZ)/\(type_of% @Ex_skip)/\(type_of% @Ex_ret)/\(type_of% @Ex_exit)/\(type_of% @zr)/\(type_of% @yy)/\(type_of% @Zg)/\(type_of% @yO)/\(type_of% @zO)/\(type_of% @Zh)/\(type_of% @Rn_cons)/\(type_of% @Rn_nil)/\(type_of% @RnP_some)/\(type_of% @Ra_cons)/\(type_of% @Ra_nil)/\(type_of% @RaP_some)/\(type_of% @ev_len)/\(type_of% @ev_iaddr)/\(type_of% @ev_mov)/\(type_of% @ev_nilchk)/\(type_of% @ev_pick)/\(type_of% @ev_newv)/\(type_of% @ev_box)/\(type_of% @ev_build)/\(type_of% @ev_bslice)/\(type_of% @ev_load)/\(type_of% @ev_store)/\(type_of% @ev_bin)/\(type_of% @ev_eqagg)/\(type_of% @ev_eqb)/\(type_of% @ev_eqp)/\(type_of% @ev_eqs)/\(type_of% @ev_un)/\(type_of% @ev_conv)/\(type_of% @ev_cstr)/\(type_of% @ev_mkfn)/\(type_of% @ev_mkmap)/\(type_of% @ev_faddr)/\(type_of% @ev_field)/\(type_of% @ev_iaddrA)/\(type_of% @ev_index)/\(type_of% @Y0)/\(type_of% @ev_call)/\(type_of% @ev_mx)/\(type_of% @lenV_sl)/\(type_of% @Y1)/\(type_of% @lenV_slC)/\(type_of% @lenV_nil)/\(type_of% @zf)/\(type_of% @ρ_at)/\(type_of% @ρ_const)/\(type_of% @put_none)/\(type_of% @set_zero)/\(type_of% @set_succ)/\(type_of% @zq)/\(type_of% @cells_int)/\(type_of% @Y4)/\(type_of% @cells_str)/\(type_of% @Yu)/\(type_of% @ZY)/\(type_of% @sl_cells)/\(type_of% @scal_int)/\(type_of% @scal_bool)/\(type_of% @scal_str)/\(type_of% @Y5)/\(type_of% @scal_ptrM)/\(type_of% @scal_fn)/\(type_of% @YE)/\(type_of% @YC)/\(type_of% @rd_here)/\(type_of% @rd_none)/\(type_of% @YD)/\(type_of% @wr_here)/\(type_of% @wr_none)/\(type_of% @get_end)/\(type_of% @get_end1)/\(type_of% @set_end)/\(type_of% @set_end1)/\(type_of% @Fin_ret)/\(type_of% @Y6)/\(type_of% @Ex_cond)/\(type_of% @ExC_true)/\(type_of% @ExC_false)/\(type_of% @Rn_guard)/\(type_of% @RnG_tt)/\(type_of% @RnG_ff)/\(type_of% @RnG_tf)/\(type_of% @RnG_ft)/\(type_of% @RnG_un)/\(type_of% @zg)/\(type_of% @res1)/\(type_of% @res2)/\(type_of% @resI_tmp)/\(type_of% @resI_cell)/\(type_of% @zL)/\(type_of% @Yv)/\(type_of% @scal_slM)/\(type_of% @scal_slC)/\(type_of% @cells_slM)/\(type_of% @cells_slC)/\(type_of% @hide_k0)/\(type_of% @hide_k1)/\(type_of% @hide_k2)/\(type_of% @hide_k3)/\(type_of% @hide_k4)/\(type_of% @hide_k5)/\(type_of% @hide_k6)/\(type_of% @Ra_guard)/\(type_of% @RaG_tt)/\(type_of% @RaG_ff)/\(type_of% @RaG_tf)/\(type_of% @RaG_ft)/\(type_of% @RaG_un)/\(type_of% @get_end2)/\(type_of% @get_end3)/\(type_of% @hide_end) :=
 ⟨@yN,@Ex_text,@Ex_drawn,@YZ,@Ex_skip,@Ex_ret,@Ex_exit,@zr,@yy,@Zg,@yO,@zO,@Zh,@Rn_cons,@Rn_nil,@RnP_some,@Ra_cons,@Ra_nil,@RaP_some,@ev_len,@ev_iaddr,@ev_mov,@ev_nilchk,@ev_pick,@ev_newv,@ev_box,@ev_build,@ev_bslice,@ev_load,@ev_store,@ev_bin,@ev_eqagg,@ev_eqb,@ev_eqp,@ev_eqs,@ev_un,@ev_conv,@ev_cstr,@ev_mkfn,@ev_mkmap,@ev_faddr,@ev_field,@ev_iaddrA,@ev_index,@Y0,@ev_call,@ev_mx,@lenV_sl,@Y1,@lenV_slC,@lenV_nil,@zf,@ρ_at,@ρ_const,@put_none,@set_zero,@set_succ,@zq,@cells_int,@Y4,@cells_str,@Yu,@ZY,@sl_cells,@scal_int,@scal_bool,@scal_str,@Y5,@scal_ptrM,@scal_fn,@YE,@YC,@rd_here,@rd_none,@YD,@wr_here,@wr_none,@get_end,@get_end1,@set_end,@set_end1,@Fin_ret,@Y6,@Ex_cond,@ExC_true,@ExC_false,@Rn_guard,@RnG_tt,@RnG_ff,@RnG_tf,@RnG_ft,@RnG_un,@zg,@res1,@res2,@resI_tmp,@resI_cell,@zL,@Yv,@scal_slM,@scal_slC,@cells_slM,@cells_slC,@hide_k0,@hide_k1,@hide_k2,@hide_k3,@hide_k4,@hide_k5,@hide_k6,@Ra_guard,@RaG_tt,@RaG_ff,@RaG_tf,@RaG_ft,@RaG_un,@get_end2,@get_end3,@hide_end⟩
theorem Wall:(type_of% @Wc)/\(type_of% @getK_zero)/\(type_of% @getK_succ)/\(type_of% @zK) :=
 ⟨@Wc,@getK_zero,@getK_succ,@zK⟩
end
section
def clF:Nat->IV->Bool
 | 0,_=>false
 | n+1,v=>match v with
  | .ptrM ..=>false
  | .ptrC cs _=>cs.all (clF n)
  | .slM ..=>false
  | .slC cs _ _ _=>cs.all (clF n)
  | .mapM ..=>false
  | .mapC ks vs=>ks.all (clF n)&&vs.all (clF n)
  | .fn _ a b=>a.all (clF n)&&b.all (clF n)
  | .agg cs=>cs.all (clF n)
  | .tuple cs=>cs.all (clF n)
  | _=>true
end
section
mutual
def beqIV:IV->IV->Bool
 | .bool a,.bool b=>a==b
 | .int k a,.int k' b=>decide (k=k')&&decide (a=b)
 | .str a,.str b=>a.data.toList==b.data.toList
 | .nilptr,.nilptr=>true
 | .nilsl,.nilsl=>true
 | .slC cs len sz tight,.slC cs' len' sz' tight'=>beqIVs cs cs'&&Nat.beq len len'&&Nat.beq sz sz'&&tight==tight'
 | .nilmap,.nilmap=>true
 | .agg cs,.agg cs'=>beqIVs cs cs'
 | _,_=>false
def beqIVs:List IV->List IV->Bool
 | [],[]=>true
 | x::xs,y::ys=>beqIV x y&&beqIVs xs ys
 | _,_=>false
end
mutual
theorem beqIV_eq:∀ (a b:IV),beqIV a b=true->a=b
 | .bool a,b,h=>by cases b <;> simp [beqIV] at h; subst h; rfl
 | .int k a,b,h=>by cases b <;> simp [beqIV] at h; obtain ⟨rfl,rfl⟩:=h; rfl
 | .str a,b,h=>by
  cases b <;> simp [beqIV] at h
  rename_i b
  cases a; cases b
  simp only [Array.toList_inj] at h
  subst h
  rfl
 | .nilptr,b,h=>by cases b <;> simp [beqIV] at h; rfl
 | .ptrM ..,b,h=>by cases b <;> simp [beqIV] at h
 | .ptrC ..,b,h=>by cases b <;> simp [beqIV] at h
 | .nilsl,b,h=>by cases b <;> simp [beqIV] at h; rfl
 | .slM ..,b,h=>by cases b <;> simp [beqIV] at h
 | .slC cs len sz tight,b,h=>by
  cases b <;> simp only [beqIV,zaz,za3,beq_iff_eq] at h
  obtain ⟨⟨⟨h1,h2⟩,h3⟩,h4⟩:=h
  rw [Zy _ _ h1,Nat.eq_of_beq_eq_true h2,Nat.eq_of_beq_eq_true h3,h4]
 | .nilmap,b,h=>by cases b <;> simp [beqIV] at h; rfl
 | .mapM ..,b,h=>by cases b <;> simp [beqIV] at h
 | .mapC ..,b,h=>by cases b <;> simp [beqIV] at h
 | .nilfn,b,h=>by cases b <;> simp [beqIV] at h
 | .fn ..,b,h=>by cases b <;> simp [beqIV] at h
 | .agg cs,b,h=>by
  cases b <;> simp only [beqIV,zaz] at h
  rw [Zy _ _ h]
 | .tuple ..,b,h=>by cases b <;> simp [beqIV] at h
theorem Zy:∀ (a b:List IV),beqIVs a b=true->a=b
 | [],[],_=>rfl
 | [],_::_,h=>by simp [beqIVs] at h
 | _::_,[],h=>by simp [beqIVs] at h
 | x::xs,y::ys,h=>by
  simp only [beqIVs,za3] at h
  rw [beqIV_eq x y h.1,Zy xs ys h.2]
end
mutual
def noM:IV->Bool
 | .bool _=>true
 | .int _ _=>true
 | .str _=>true
 | .nilptr=>true
 | .nilsl=>true
 | .slC cs _ _ _=>noMs cs
 | .nilmap=>true
 | .agg cs=>noMs cs
 | _=>false
def noMs:List IV->Bool
 | []=>true
 | x::xs=>noM x&&noMs xs
end
theorem Yg:∀ {xs:List IV},noMs xs=true->∀ {j:Nat} {x:IV},xs[j]?=some x->noM x=true
 | [],_,j,x,h=>by simp at h
 | y::ys,h,j,x,hj=>by
  simp only [noMs,za3] at h
  cases j with
  | zero=>simp only [za8,zao] at hj; subst hj; exact h.1
  | succ j=>simp only [za1] at hj; exact Yg h.2 hj
theorem vr_noM {β:Pl} {W:World} {v:IV} {x:Value} (h:VR β W v x) (hv:noM v=true):VR noPl W v x:=by
 have kn:∀ {k:Nat},Konst β W k->Konst noPl W k:=fun hk=>⟨hk.1,fun l i s hb=>by simp [noPl] at hb⟩
 induction h with
 | bool b=>exact .bool b
 | int k n=>exact .int k n
 | str s=>exact .str s
 | nilptr=>exact .nilptr
 | nilsl=>exact .nilsl
 | slC f hk hc _ hn hl ht ha ih=>simp only [noM] at hv; exact .slC f (fun h0=>kn (hk h0)) hc (fun j x hx=>ih j x hx (Yg hv hx)) hn hl ht ha
 | nilmap=>exact .nilmap
 | agg n _ ih=>simp only [noM] at hv; exact .agg n (fun j x y hx hy=>ih j x y hx hy (Yg hv hx))
 | _=>simp [noM] at hv
theorem vrs_noM {β:Pl} {W:World} {xs:List IV} {ys:List Value} (h:VRs β W xs ys) (hv:noMs xs=true):VRs noPl W xs ys:=⟨h.1,fun j x y hx hy=>vr_noM (h.2 j x y hx hy) (Yg hv hx)⟩
def scal:IV->Bool
 | .bool _=>true
 | .int _ _=>true
 | .str _=>true
 | _=>false
theorem vr_scal {β β':Pl} {W W':World} {v:IV} {x:Value} (h:VR β W v x) (hv:scal v=true):VR β' W' v x:=by
 cases h <;> first | exact .bool _ | exact .int _ _ | exact .str _ | simp [scal] at hv
section
variable {P:Program} {B:Nat} {W0:World} {F:FuncId->Option IFn} {S S1 S2:ySM}
theorem rs_none {W:World}:RS noPl (look 0 (fun _=>[]) []) W:=by
 refine ⟨fun l i k s o hb=>?_,fun l i l' i' k s s' o o' hb=>?_,fun l i k s hb=>?_,fun l i o hg hl=>?_,fun l i p hb=>?_⟩
 ·simp [noPl] at hb
 ·simp [noPl] at hb
 ·simp [noPl] at hb
 ·unfold look at hg
  split at hg
  ·simp at hg
  ·split at hg
   ·omega
   ·simp at hg
 ·simp [noPl] at hb
def ptS (f0:FuncId) (a0:List IV) (v0:IV) (S:ySM):ySM:=fun f args=>bif Nat.beq f f0&&beqIVs args a0 then some v0 else S f args
theorem sum_pt (hm:P.follows .mixedOrders=true) (hF:TabOK P F) (hS:SumOK P B W0 S) {f0:FuncId} {a0:List IV} {v0:IV} {n:Nat} {e:Eff} {own1:yLO} (hr:callN F S n 0 (fun _=>[]) [] [] 0 f0 a0=some (e,v0,own1)) (ha:noMs a0=true) (hv:scal v0=true):SumOK P B W0 (ptS f0 a0 v0 S):=by
 intro f args v h
 unfold ptS at h
 cases hc:(Nat.beq f f0&&beqIVs args a0) with
 | false=>rw [hc] at h; exact hS f args v h
 | true =>
  rw [hc] at h
  simp only [cond_true,zao] at h
  subst h
  rw [za3] at hc
  obtain ⟨hc0,hc⟩:=hc
  obtain rfl:=Nat.eq_of_beq_eq_true hc0
  obtain rfl:=Zy _ _ hc
  have key:∀ (W:World) (args':List Value),Base B W0 noPl W->VRs noPl W args args'->_:=fun W args' hb hva=>YY hm hF hS n 0 (fun _=>[]) [] [] 0 f args e v0 own1 args' noPl W hr hb ⟨rfl,fun i o h=>.inl h⟩ rs_none hva
  refine ⟨?_,fun β W args' hb hva=>?_⟩
  ·cases n with
   | zero=>simp [callN] at hr
   | succ n =>
    unfold callN at hr
    split at hr
    ·rename_i w hw
     exact (hS f args w hw).1
    ·split at hr
     ·simp at hr
     ·rename_i i hi
      obtain ⟨fn,hfn,hcf⟩:=hF f i hi
      unfold cFn at hcf
      split at hcf
      ·simp at hcf
      ·rename_i hnm
       split at hcf
       ·simp at hcf
       ·rename_i c hbody
        exact ⟨fn,hfn,hnm,by rw [hbody]; rfl⟩
  ·have hb':Base B W0 noPl W:=⟨fun l i k s hq=>by simp [noPl] at hq,hb.size,hb.below⟩
   refine (key W args' hb' (vrs_noM hva ha)).2.mono fun x W' hx=>?_
   obtain ⟨y,β',h3,h4,_,h6⟩:=hx
   exact ⟨y,h3,h6.below fun i p hq=>by simp [noPl] at hq,vr_scal h4 hv⟩
end
end
end Go.Proofs.YtgmifgfbnnbgjaaGreatDoor
end
