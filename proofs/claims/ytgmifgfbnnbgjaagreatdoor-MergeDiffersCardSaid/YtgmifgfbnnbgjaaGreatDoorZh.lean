/-
  A part of the proof: the small machine, its simulation and its walks.
-/
import Derived.Test.YtgmifgfbnnbgjaaGreatDoorZf
import Derived.Test.YtgmifgfbnnbgjaaGreatDoorZg
set_option linter.unusedVariables false
set_option linter.unusedSimpArgs false
set_option maxRecDepth 1000000
set_option maxHeartbeats 3200000
section
namespace Go.Proofs.YtgmifgfbnnbgjaaGreatDoor
open Go Go.RowKit
section
def bi {α:Type} (r:α->α->Bool) (x y:α):Int:=bif r x y then -1 else 0
theorem ZI {α:Type} {r:α->α->Bool} {x y:α} (h:r x y=false):¬ bi r x y<0:=by
 unfold bi
 rw [h]
 decide
theorem Z9 {α:Type} {r:α->α->Bool} {x y:α} (h:r x y=true):bi r x y<0:=by
 unfold bi
 rw [h]
 decide
section
variable {S:ySM} {α:Type} {g:α->List IV} {e:α->IV} {own0:yLO} {b d:Nat} {out:yLM} {n cp:Nat} {tg:Bool} {r:α->α->Bool} {Nc:Nat}
theorem o_insS (hr0:Orders (bi r)) (hS:NoS S) (hb:b<own0.length) (hE:Elt g e 1 false) (hc:LessOK S Nc e r) (hn:n<65536) (m:Nat) (hm:Nc+n+8<=m) (ownV:yLO) (xs:List α) (J:yLO) (a c:Nat) (hl0:xs.length=n) (hac:a<=c) (hcn:c<=n) :
  ∃ (xs':List α) (J':yLO),(∀ id,callN Ftab S m d out ownV (Bk own0 b (xs.flatMap g)++J) id 207 [.slM d b 0 n cp 1 tg,.int .i64 (a:Int),.int .i64 (c:Int)]=some (.x,.tuple [],Bk own0 b (xs'.flatMap g)++J'))/\xs'.Perm xs/\Else xs xs' a c/\Srt (bi r) xs' a c:=by
 obtain ⟨m,rfl⟩:∃ q,m=q+1:=⟨m - 1,by omega⟩
 have main:∃ v own',(∀ id,callN Ftab S (m+1) d out ownV (Bk own0 b (xs.flatMap g)++J) id 207 [.slM d b 0 n cp 1 tg,.int .i64 (a:Int),.int .i64 (c:Int)]=some (.x,v,own'))/\(v=.tuple []/\∃ (xs':List α) (J':yLO),own'=Bk own0 b (xs'.flatMap g)++J'/\xs'.Perm xs/\Else xs xs' a c/\Srt (bi r) xs' a c):=by
  refine zD (i:=i207) (ns hS (by rfl)) rfl rfl (lb rfl) fun t hfr=>?_
  simp only [V2,Nat.reduceAdd,i207] at hfr
  have hw:wrapI .i64 ((a:Int)+1)=((a+1:Nat):Int):=we
  simp only [i207,V0,sevalprocAttr,hfr,hw]
  refine zd (fun jj st=>∃ (i:Nat) (ys:List α) (J1:yLO),jj=c - i/\a+1<=i/\(ys.Perm xs/\Else xs ys a c/\(i<=c∨c<=a+1)/\Srt (bi r) ys a i)/\st.own=Bk own0 b (ys.flatMap g)++J1/\Slots 49 st.t [(0,.slM d b 0 n cp 1 tg),(1,iv a),(2,iv c),(6,iv i)]) (c - (a+1)) (by omega) ⟨a+1,xs,J,rfl,by omega,⟨List.Perm.refl _,Else.refl _ _ _,by omega,Srt.small (by omega)⟩,rfl,by simp only [V0,sevalprocAttr,hfr]⟩ ?_
  rintro jj ⟨t,own⟩ KA ⟨i,ys,J1,hjj,hi,⟨hp,hel,hic,hst⟩,ho,hfr⟩ hnA heA hrA
  dsimp only at ho hfr
  subst ho
  simp only [V3] at hfr
  have hly:ys.length=n:=hp.length_eq.trans hl0
  by_cases h:i<c
  ·have hwi:wrapI .i64 ((i:Int)+1)=((i+1:Nat):Int):=we
   simp only [V0,sevalprocAttr,hfr,h]
   refine zd (fun jj st=>∃ (k:Nat) (zs:List α) (J2:yLO),jj=k/\k<=i/\(zs.Perm xs/\Else xs zs a c/\a<=k/\Ins (bi r) zs a k i)/\st.own=Bk own0 b (zs.flatMap g)++J2/\Slots 49 st.t [(0,.slM d b 0 n cp 1 tg),(1,iv a),(2,iv c),(6,iv i),(7,iv k)]) i (by omega) ⟨i,ys,J1,rfl,by omega,⟨hp,hel,by omega,Ins.start hst⟩,rfl,by simp only [V0,sevalprocAttr,hfr]⟩ ?_
   rintro jj ⟨t,own⟩ KB ⟨k,zs,J2,hjj,hki,⟨hp2,hel2,hak,hIn⟩,ho,hfr⟩ hnB heB hrB
   dsimp only at ho hfr
   subst ho
   simp only [V3] at hfr
   have hlz:zs.length=n:=hp2.length_eq.trans hl0
   by_cases h2:a<k
   ·have hwk:wrapI .i64 ((k:Int) - 1)=((k - 1:Nat):Int):=we
    have hkn:k<n:=by omega
    have hk1:k - 1<n:=by omega
    obtain ⟨x,hx⟩:=gx (l:=zs) (i:=k) (by omega)
    have lx:=hE.ld hx
    obtain ⟨y,hy⟩:=gx (l:=zs) (i:=k - 1) (by omega)
    have ly:=hE.ld hy
    have cc:=fun ownV own id=>hc m (by omega) d out ownV own id x y
    cases hlt:r x y
    ·simp only [V0,sevalprocAttr,hfr,L1,L2 hb hE,h2,hkn,hk1,hwk,hlz,lx,ly,cc,hlt]
     refine ⟨by simp [comm],?_⟩
     simp only [V0,sevalprocAttr,hfr]
     refine heB _ _ ?_
     simp only [V0,sevalprocAttr,hfr,hwi]
     exact hnA _ (c - (i+1)) (by omega) ⟨i+1,zs,_,rfl,by omega,⟨hp2,hel2,by omega,hIn.done hr0 (by omega) (by omega) (.inr ⟨x,y,hx,hy,ZI hlt⟩) hak⟩,rfl,by simp only [V0,sevalprocAttr,hfr]⟩
    ·simp only [V0,sevalprocAttr,hfr,L1,L2 hb hE,h2,hkn,hk1,hwk,hlz,lx,ly,cc,hlt]
     refine ⟨by simp [comm],?_⟩
     simp only [V0,sevalprocAttr,hfr,L1,L2 hb hE,h2,hkn,hk1,hwk,hlz,lx,ly]
     refine ⟨by simp [comm],?_⟩
     simp only [V0,sevalprocAttr,hfr,hwk]
     exact hnB _ (k - 1) (by omega) ⟨k - 1,_,_,rfl,by omega,⟨(zt hx hy).trans hp2,hel2.trans (zu (by omega) (by omega) (by omega) (by omega)),by omega,hIn.step hr0 h2 (by omega) (by omega) hx hy (Z9 hlt)⟩,rfl,by simp only [V0,sevalprocAttr,hfr]⟩
   ·simp only [V0,sevalprocAttr,hfr,h2,gt_iff_lt]
    refine ⟨by simp [comm],?_⟩
    simp only [V0,sevalprocAttr,hfr]
    refine heB _ _ ?_
    simp only [V0,sevalprocAttr,hfr,hwi]
    exact hnA _ (c - (i+1)) (by omega) ⟨i+1,zs,_,rfl,by omega,⟨hp2,hel2,by omega,hIn.done hr0 (by omega) (by omega) (.inl (by omega)) hak⟩,rfl,by simp only [V0,sevalprocAttr,hfr]⟩
  ·simp only [V0,sevalprocAttr,hfr,h]
   refine heA _ _ ?_
   simp only [V0,sevalprocAttr,hfr,zx,y6]
   refine ⟨_,rfl,rfl,ys,_,rfl,hp,hel,?_⟩
   rcases hic with hic | hic
   ·rw [show c=i by omega]
    exact hst
   ·exact Srt.small hic
 obtain ⟨v,own',h1,rfl,xs',J',rfl,hp⟩:=main
 exact ⟨xs',J',h1,hp⟩
end
end
section
section
variable {S:ySM} {α:Type} {g:α->List IV} {e:α->IV} {own0:yLO} {b d:Nat} {out:yLM} {n cp:Nat} {tg:Bool} {r:α->α->Bool} {Nc:Nat}
theorem o_siftS (hr0:Orders (bi r)) (hS:NoS S) (hb:b<own0.length) (hE:Elt g e 1 false) (hc:LessOK S Nc e r) (hn:n<65536) (m:Nat) (hm:Nc+n+8<=m) (ownV:yLO) (xs:List α) (J:yLO) (zl:Int) (lo hi f:Nat) (hl0:xs.length=n) (hzl:zl=(lo:Int)) (hlo:lo<=n) (hhi:f+hi<=n) (hhp:Heap (bi r) xs f hi (lo+1)) :
  ∃ (xs':List α) (J':yLO),(∀ id,callN Ftab S m d out ownV (Bk own0 b (xs.flatMap g)++J) id 234 [.slM d b 0 n cp 1 tg,.int .i64 zl,.int .i64 (hi:Int),.int .i64 (f:Int)]=some (.x,.tuple [],Bk own0 b (xs'.flatMap g)++J'))/\xs'.Perm xs/\Else xs xs' f (f+hi)/\Heap (bi r) xs' f hi lo:=by
 obtain ⟨m,rfl⟩:∃ q,m=q+1:=⟨m - 1,by omega⟩
 have main:∃ v own',(∀ id,callN Ftab S (m+1) d out ownV (Bk own0 b (xs.flatMap g)++J) id 234 [.slM d b 0 n cp 1 tg,.int .i64 zl,.int .i64 (hi:Int),.int .i64 (f:Int)]=some (.x,v,own'))/\(v=.tuple []/\∃ (xs':List α) (J':yLO),own'=Bk own0 b (xs'.flatMap g)++J'/\xs'.Perm xs/\Else xs xs' f (f+hi)/\Heap (bi r) xs' f hi lo):=by
  refine zD (i:=i234) (ns hS (by rfl)) rfl rfl (lb rfl) fun t hfr=>?_
  simp only [V2,Nat.reduceAdd,i234] at hfr
  subst hzl
  simp only [i234,V0,sevalprocAttr,hfr]
  refine zd (fun jj st=>∃ (q:Nat) (zs:List α) (J2:yLO),jj=hi - q/\q<=n/\(zs.Perm xs/\Else xs zs f (f+hi)/\lo<=q/\Sift (bi r) zs f hi lo q)/\st.own=Bk own0 b (zs.flatMap g)++J2/\Slots 76 st.t [(0,.slM d b 0 n cp 1 tg),(1,iv lo),(2,iv hi),(3,iv f),(8,iv q)]) (hi - lo) (by omega) ⟨lo,xs,J,rfl,hlo,⟨List.Perm.refl _,Else.refl _ _ _,zaq _,Sift.start hhp⟩,rfl,by simp only [V0,sevalprocAttr,hfr]⟩ ?_
  rintro jj ⟨t,own⟩ KA ⟨q,zs,J2,hjj,hq,⟨hp,hel,hlq,hsi⟩,ho,hfr⟩ hnA heA hrA
  dsimp only at ho hfr
  subst ho
  simp only [V3] at hfr
  have hlz:zs.length=n:=hp.length_eq.trans hl0
  have hm2:wrapI .i64 (2*(q:Int))=((2*q:Nat):Int):=we
  have hm3:wrapI .i64 (((2*q:Nat):Int)+1)=((2*q+1:Nat):Int):=we
  have hm4:wrapI .i64 (((2*q+1:Nat):Int)+1)=((2*q+1+1:Nat):Int):=we
  by_cases h:hi<=2*q+1
  ·simp only [V0,sevalprocAttr,hfr,L1,L2 hb hE,hm2,hm3,h]
   refine heA _ _ ?_
   simp only [V0,sevalprocAttr,hfr,zx,zj,y6]
   exact ⟨_,rfl,rfl,zs,_,rfl,hp,hel,hsi.none h⟩
  ·have hi1:wrapI .i64 ((f:Int)+((2*q+1:Nat):Int))=((f+(2*q+1):Nat):Int):=we
   have hi2:wrapI .i64 (((f+(2*q+1):Nat):Int)+1)=((f+(2*q+1)+1:Nat):Int):=we
   have hi3:wrapI .i64 ((f:Int)+(q:Int))=((f+q:Nat):Int):=we
   have hi4:wrapI .i64 ((f:Int)+((2*q+1+1:Nat):Int))=((f+(2*q+1+1):Nat):Int):=we
   have b1:f+(2*q+1)<n:=by omega
   have b3:f+q<n:=by omega
   by_cases h2:2*q+1+1<hi
   ·have b2:f+(2*q+1)+1<n:=by omega
    have b4:f+(2*q+1+1)<n:=by omega
    obtain ⟨x,hx⟩:=gx (l:=zs) (i:=f+(2*q+1)) (by omega)
    have lx:=hE.ld hx
    obtain ⟨y,hy⟩:=gx (l:=zs) (i:=f+(2*q+1)+1) (by omega)
    have ly:=hE.ld hy
    have cc:=fun ownV own id=>hc m (by omega) d out ownV own id x y
    cases hlt:r x y
    ·simp only [V0,sevalprocAttr,hfr,L1,L2 hb hE,hm2,hm3,hm4,h,hi1,hi2,b1,b2,h2,hlz,lx,ly,cc,hlt]
     refine ⟨by simp [comm],?_⟩
     simp only [V0,sevalprocAttr,hfr,L1,L2 hb hE,hi1,hi3]
     obtain ⟨u,hu⟩:=gx (l:=zs) (i:=f+q) (by omega)
     have lu:=hE.ld hu
     obtain ⟨w,hw⟩:=gx (l:=zs) (i:=f+(2*q+1)) (by omega)
     have lw:=hE.ld hw
     have cd:=fun ownV own id=>hc m (by omega) d out ownV own id u w
     cases hlt2:r u w
     ·simp only [V0,sevalprocAttr,hfr,L1,L2 hb hE,hi1,hi3,b1,b3,hlz,lu,lw,cd,hlt2]
      refine ⟨by simp [comm],?_⟩
      simp only [V0,sevalprocAttr,hfr]
      refine hrA _ ?_
      simp only [V0,sevalprocAttr,hfr,zx,zj,y6]
      exact ⟨_,rfl,rfl,zs,_,rfl,hp,hel,hsi.stop hr0 hu (big_fst hr0 hx hy hw (ZI hlt)) (ZI hlt2)⟩
     ·simp only [V0,sevalprocAttr,hfr,L1,L2 hb hE,hi1,hi3,b1,b3,hlz,lu,lw,cd,hlt2]
      refine ⟨by simp [comm],?_⟩
      simp only [V0,sevalprocAttr,hfr,L1,L2 hb hE,hi1,hi3,b1,b3,hlz,lu,lw]
      refine ⟨by simp [comm],?_⟩
      simp only [V0,sevalprocAttr,hfr]
      exact hnA _ (hi - (2*q+1)) (by omega) ⟨2*q+1,_,_,rfl,by omega,⟨(zt hu hw).trans hp,hel.trans (zu (by omega) (by omega) (by omega) (by omega)),by omega,hsi.step hr0 hlq (by omega) (by omega) (by omega) hw (big_fst hr0 hx hy hw (ZI hlt)) (Z9 hlt2)⟩,rfl,by simp only [V0,sevalprocAttr,hfr]⟩
    ·simp only [V0,sevalprocAttr,hfr,L1,L2 hb hE,hm2,hm3,hm4,h,hi1,hi2,b1,b2,h2,hlz,lx,ly,cc,hlt]
     refine ⟨by simp [comm],?_⟩
     simp only [V0,sevalprocAttr,hfr,L1,L2 hb hE,hm4,hi4,hi3]
     obtain ⟨u,hu⟩:=gx (l:=zs) (i:=f+q) (by omega)
     have lu:=hE.ld hu
     obtain ⟨w,hw⟩:=gx (l:=zs) (i:=f+(2*q+1+1)) (by omega)
     have lw:=hE.ld hw
     have cd:=fun ownV own id=>hc m (by omega) d out ownV own id u w
     cases hlt2:r u w
     ·simp only [V0,sevalprocAttr,hfr,L1,L2 hb hE,hi4,hi3,b4,b3,hlz,lu,lw,cd,hlt2]
      refine ⟨by simp [comm],?_⟩
      simp only [V0,sevalprocAttr,hfr]
      refine hrA _ ?_
      simp only [V0,sevalprocAttr,hfr,zx,zj,y6]
      exact ⟨_,rfl,rfl,zs,_,rfl,hp,hel,hsi.stop hr0 hu (big_snd hr0 hx hy hw (Z9 hlt)) (ZI hlt2)⟩
     ·simp only [V0,sevalprocAttr,hfr,L1,L2 hb hE,hi4,hi3,b4,b3,hlz,lu,lw,cd,hlt2]
      refine ⟨by simp [comm],?_⟩
      simp only [V0,sevalprocAttr,hfr,L1,L2 hb hE,hi4,hi3,b4,b3,hlz,lu,lw]
      refine ⟨by simp [comm],?_⟩
      simp only [V0,sevalprocAttr,hfr]
      exact hnA _ (hi - (2*q+1+1)) (by omega) ⟨2*q+1+1,_,_,rfl,by omega,⟨(zt hu hw).trans hp,hel.trans (zu (by omega) (by omega) (by omega) (by omega)),by omega,hsi.step hr0 hlq (by omega) (by omega) (by omega) hw (big_snd hr0 hx hy hw (Z9 hlt)) (Z9 hlt2)⟩,rfl,by simp only [V0,sevalprocAttr,hfr]⟩
   ·simp only [V0,sevalprocAttr,hfr,L1,L2 hb hE,hm2,hm3,hm4,h,h2]
    refine ⟨by simp [comm],?_⟩
    simp only [V0,sevalprocAttr,hfr,L1,L2 hb hE,hi1,hi3]
    obtain ⟨u,hu⟩:=gx (l:=zs) (i:=f+q) (by omega)
    have lu:=hE.ld hu
    obtain ⟨w,hw⟩:=gx (l:=zs) (i:=f+(2*q+1)) (by omega)
    have lw:=hE.ld hw
    have cd:=fun ownV own id=>hc m (by omega) d out ownV own id u w
    cases hlt2:r u w
    ·simp only [V0,sevalprocAttr,hfr,L1,L2 hb hE,hi1,hi3,b1,b3,hlz,lu,lw,cd,hlt2]
     refine ⟨by simp [comm],?_⟩
     simp only [V0,sevalprocAttr,hfr]
     refine hrA _ ?_
     simp only [V0,sevalprocAttr,hfr,zx,zj,y6]
     exact ⟨_,rfl,rfl,zs,_,rfl,hp,hel,hsi.stop hr0 hu (big_one hr0 hw h2) (ZI hlt2)⟩
    ·simp only [V0,sevalprocAttr,hfr,L1,L2 hb hE,hi1,hi3,b1,b3,hlz,lu,lw,cd,hlt2]
     refine ⟨by simp [comm],?_⟩
     simp only [V0,sevalprocAttr,hfr,L1,L2 hb hE,hi1,hi3,b1,b3,hlz,lu,lw]
     refine ⟨by simp [comm],?_⟩
     simp only [V0,sevalprocAttr,hfr]
     exact hnA _ (hi - (2*q+1)) (by omega) ⟨2*q+1,_,_,rfl,by omega,⟨(zt hu hw).trans hp,hel.trans (zu (by omega) (by omega) (by omega) (by omega)),by omega,hsi.step hr0 hlq (by omega) (by omega) (by omega) hw (big_one hr0 hw h2) (Z9 hlt2)⟩,rfl,by simp only [V0,sevalprocAttr,hfr]⟩
 obtain ⟨v,own',h1,rfl,xs',J',rfl,hp⟩:=main
 exact ⟨xs',J',h1,hp⟩
end
end
section
section
variable {S:ySM} {α:Type} {g:α->List IV} {e:α->IV} {own0:yLO} {b d:Nat} {out:yLM} {n cp:Nat} {tg:Bool} {r:α->α->Bool} {Nc:Nat}
theorem o_heapS (hr0:Orders (bi r)) (hS:NoS S) (hb:b<own0.length) (hE:Elt g e 1 false) (hc:LessOK S Nc e r) (hn:n<65536) (m:Nat) (hm:Nc+n+12<=m) (ownV:yLO) (xs:List α) (J:yLO) (a c:Nat) (hl0:xs.length=n) (hac:a<c) (hcn:c<=n) :
  ∃ (xs':List α) (J':yLO),(∀ id,callN Ftab S m d out ownV (Bk own0 b (xs.flatMap g)++J) id 208 [.slM d b 0 n cp 1 tg,.int .i64 (a:Int),.int .i64 (c:Int)]=some (.x,.tuple [],Bk own0 b (xs'.flatMap g)++J'))/\xs'.Perm xs/\Else xs xs' a c/\Srt (bi r) xs' a c:=by
 obtain ⟨m,rfl⟩:∃ q,m=q+1:=⟨m - 1,by omega⟩
 have main:∃ v own',(∀ id,callN Ftab S (m+1) d out ownV (Bk own0 b (xs.flatMap g)++J) id 208 [.slM d b 0 n cp 1 tg,.int .i64 (a:Int),.int .i64 (c:Int)]=some (.x,v,own'))/\(v=.tuple []/\∃ (xs':List α) (J':yLO),own'=Bk own0 b (xs'.flatMap g)++J'/\xs'.Perm xs/\Else xs xs' a c/\Srt (bi r) xs' a c):=by
  refine zD (i:=i208) (ns hS (by rfl)) rfl rfl (lb rfl) fun t hfr=>?_
  simp only [V2,Nat.reduceAdd,i208] at hfr
  have e1:wrapI .i64 ((c:Int) - (a:Int))=((c - a:Nat):Int):=we
  have e2:wrapI .i64 (((c - a:Nat):Int) - 1)=((c - a - 1:Nat):Int):=we
  have e3:wrapI .i64 (Int.tdiv ((c - a - 1:Nat):Int) 2)=(((c - a - 1) / 2:Nat):Int):=Z6 _ 2 (by omega)
  have e0:((2:Int)=0)=False:=eq_false (by decide)
  simp only [i208,V0,sevalprocAttr,hfr,e1,e2,e3,e0]
  refine zd (fun jj st=>∃ (i:Nat) (z:Int) (ys:List α) (J1:yLO),jj=i/\z=(i:Int) - 1/\i<=(c - a - 1) / 2+1/\(ys.Perm xs/\Else xs ys a c/\Heap (bi r) ys a (c - a) i)/\st.own=Bk own0 b (ys.flatMap g)++J1/\Slots 56 st.t [(0,.slM d b 0 n cp 1 tg),(1,iv a),(2,iv c),(6,iv a),(7,.int .i64 0),(8,iv (c - a:Nat)),(9,iv z)]) ((c - a - 1) / 2+1) (by omega) ⟨(c - a - 1) / 2+1,_,xs,J,rfl,(by omega:(((c - a - 1) / 2:Nat):Int)=(((c - a - 1) / 2+1:Nat):Int) - 1),by omega,⟨List.Perm.refl _,Else.refl _ _ _,fun p ch x y h1 h2 h3=>by omega⟩,rfl,by simp only [V0,sevalprocAttr,hfr]⟩ ?_
  rintro jj ⟨t,own⟩ KA ⟨i,z,ys,J1,hjj,hz,hi,⟨hp,hel,hhp⟩,ho,hfr⟩ hnA heA hrA
  dsimp only at ho hfr
  subst ho
  simp only [V3] at hfr
  have hly:ys.length=n:=hp.length_eq.trans hl0
  by_cases h:0<=z
  ·obtain ⟨k,rfl⟩:∃ k:Nat,z=(k:Int):=⟨z.toNat,by omega⟩
   have hw:wrapI .i64 ((k:Int) - 1)=(k:Int) - 1:=Z5 rfl (by omega) (by omega)
   obtain rfl:i=k+1:=by omega
   obtain ⟨ys',J1',hs,hp',hel',hhp'⟩:=o_siftS hr0 (cp:=cp) (tg:=tg) (d:=d) (out:=out) hS hb hE hc hn m (by omega) (Bk own0 b (ys.flatMap g)++(J1++[.free])) ys (J1++[.free]) (k:Int) k (c - a) a hly rfl (by omega) (by omega) hhp
   simp only [V0,sevalprocAttr,hfr,L1,L2 hb hE,h,hs,hw]
   exact hnA _ k (by omega) ⟨k,_,ys',_,rfl,rfl,by omega,⟨hp'.trans hp,hel.trans (hel'.wide (zaq _) (by omega)),hhp'⟩,rfl,by simp only [V0,sevalprocAttr,hfr]⟩
  ·simp only [V0,sevalprocAttr,hfr,L1,L2 hb hE,h]
   refine heA _ _ ?_
   simp only [V0,sevalprocAttr,hfr,e2]
   have hi0:i=0:=by omega
   subst hi0
   refine zd (fun jj st=>∃ (i:Nat) (z:Int) (ys:List α) (J1:yLO),jj=i/\z=(i:Int) - 1/\i<=c - a/\(ys.Perm xs/\Else xs ys a c/\Popd (bi r) ys a c i)/\st.own=Bk own0 b (ys.flatMap g)++J1/\Slots 56 st.t [(0,.slM d b 0 n cp 1 tg),(1,iv a),(2,iv c),(6,iv a),(7,.int .i64 0),(8,iv (c - a:Nat)),(10,iv z)]) (c - a) (by omega) ⟨c - a,_,ys,J1,rfl,(by omega:((c - a - 1:Nat):Int)=((c - a:Nat):Int) - 1),by omega,⟨hp,hel,Popd.start hhp (by omega)⟩,rfl,by simp only [V0,sevalprocAttr,hfr]⟩ ?_
   clear hly hp hel hhp
   rintro jj ⟨t,own⟩ KB ⟨i,z,ys,J1,hjj,hz,hi,⟨hp,hel,hpo⟩,ho,hfr⟩ hnB heB hrB
   dsimp only at ho hfr
   subst ho
   simp only [V3] at hfr
   have hly:ys.length=n:=hp.length_eq.trans hl0
   by_cases h:0<=z
   ·obtain ⟨k,rfl⟩:∃ k:Nat,z=(k:Int):=⟨z.toNat,by omega⟩
    have hw:wrapI .i64 ((k:Int) - 1)=(k:Int) - 1:=Z5 rfl (by omega) (by omega)
    have hw2:wrapI .i64 ((a:Int)+(k:Int))=((a+k:Nat):Int):=we
    have b1:a<n:=by omega
    have b2:a+k<n:=by omega
    obtain ⟨x,hx⟩:=gx (l:=ys) (i:=a) (by omega)
    have lx:=hE.ld hx
    obtain ⟨y,hy⟩:=gx (l:=ys) (i:=a+k) (by omega)
    have ly:=hE.ld hy
    obtain rfl:i=k+1:=by omega
    obtain ⟨ys',J1',hs,hp',hel',hhp'⟩:=o_siftS hr0 (cp:=cp) (tg:=tg) (d:=d) (out:=out) hS hb hE hc hn m (by omega) (Bk own0 b (((ys.set a y).set (a+k) x).flatMap g)++(J1++[.free])) ((ys.set a y).set (a+k) x) (J1++[.free]) 0 0 k a (by simp [hly]) rfl (by omega) (by omega) (hpo.swap (by omega))
    simp only [V0,sevalprocAttr,hfr,L1,L2 hb hE,h,hw2,b1,b2,hly,lx,ly]
    refine ⟨by simp [comm],?_⟩
    simp only [V0,sevalprocAttr,hfr,L1,L2 hb hE,hs,hw]
    exact hnB _ k (by omega) ⟨k,_,ys',_,rfl,rfl,by omega,⟨(hp'.trans (zt hx hy)).trans hp,hel.trans ((zu (by omega) (by omega) (by omega) (by omega)).trans (hel'.wide (zaq _) (by omega))),hpo.next hr0 (by omega) (by omega) hx hy hel' hp' hhp'⟩,rfl,by simp only [V0,sevalprocAttr,hfr]⟩
   ·simp only [V0,sevalprocAttr,hfr,L1,L2 hb hE,h]
    refine heB _ _ ?_
    simp only [V0,sevalprocAttr,hfr,zx,zj,y6]
    obtain rfl:i=0:=by omega
    exact ⟨_,rfl,rfl,ys,_,rfl,hp,hel,hpo.srt⟩
 obtain ⟨v,own',h1,rfl,xs',J',rfl,hp⟩:=main
 exact ⟨xs',J',h1,hp⟩
end
end
section
section
variable {S:ySM} {α:Type} {g:α->List IV} {e:α->IV} {own0:yLO} {b d:Nat} {out:yLM} {n cp:Nat} {tg:Bool} {r:α->α->Bool} {Nc:Nat}
theorem o_revS (hS:NoS S) (hb:b<own0.length) (hE:Elt g e 1 false) (hc:LessOK S Nc e r) (hn:n<65536) (m:Nat) (hm:Nc+n+8<=m) (ownV:yLO) (xs:List α) (J:yLO) (a c:Nat) (hl0:xs.length=n) (hac:a<c) (hcn:c<=n) :
  ∃ (xs':List α) (J':yLO),(∀ id,callN Ftab S m d out ownV (Bk own0 b (xs.flatMap g)++J) id 211 [.slM d b 0 n cp 1 tg,.int .i64 (a:Int),.int .i64 (c:Int)]=some (.x,.tuple [],Bk own0 b (xs'.flatMap g)++J'))/\Mv xs xs' a c:=by
 obtain ⟨m,rfl⟩:∃ q,m=q+1:=⟨m - 1,by omega⟩
 have main:∃ v own',(∀ id,callN Ftab S (m+1) d out ownV (Bk own0 b (xs.flatMap g)++J) id 211 [.slM d b 0 n cp 1 tg,.int .i64 (a:Int),.int .i64 (c:Int)]=some (.x,v,own'))/\(v=.tuple []/\∃ (xs':List α) (J':yLO),own'=Bk own0 b (xs'.flatMap g)++J'/\Mv xs xs' a c):=by
  refine zD (i:=i211) (ns hS (by rfl)) rfl rfl (lb rfl) fun t hfr=>?_
  simp only [V2,Nat.reduceAdd,i211] at hfr
  have e1:wrapI .i64 ((c:Int) - 1)=((c - 1:Nat):Int):=we
  simp only [i211,V0,sevalprocAttr,hfr,e1]
  refine zd (fun jj st=>∃ (i:Nat) (j:Nat) (ys:List α) (J1:yLO),jj=j - i/\(a<=i/\j<c)/\Mv xs ys a c/\st.own=Bk own0 b (ys.flatMap g)++J1/\Slots 32 st.t [(0,.slM d b 0 n cp 1 tg),(6,iv i),(7,iv j)]) (c - 1 - a) (by omega) ⟨a,c - 1,xs,J,rfl,by omega,Mv.refl _ _ _,rfl,by simp only [V0,sevalprocAttr,hfr]⟩ ?_
  rintro jj ⟨t,own⟩ KA ⟨i,j,ys,J1,hjj,hj,hp,ho,hfr⟩ hnA heA hrA
  dsimp only at ho hfr
  subst ho
  simp only [V3] at hfr
  have hly:ys.length=n:=hp.perm.length_eq.trans hl0
  by_cases h:i<j
  ·have hi:i<n:=by omega
   have hjn:j<n:=by omega
   have e2:wrapI .i64 ((i:Int)+1)=((i+1:Nat):Int):=we
   have e3:wrapI .i64 ((j:Int) - 1)=((j - 1:Nat):Int):=we
   obtain ⟨x,hx⟩:=gx (l:=ys) (i:=i) (by omega)
   have lx:=hE.ld hx
   obtain ⟨y,hy⟩:=gx (l:=ys) (i:=j) (by omega)
   have ly:=hE.ld hy
   simp only [V0,sevalprocAttr,hfr,L1,L2 hb hE,h,hi,hjn,hly,lx,ly]
   refine ⟨by simp [comm],?_⟩
   simp only [V0,sevalprocAttr,hfr,e2,e3]
   exact hnA _ (j - 1 - (i+1)) (by omega) ⟨i+1,j - 1,_,_,rfl,by omega,hp.swap (by omega) (by omega) (by omega) (by omega) (zt hx hy),rfl,by simp only [V0,sevalprocAttr,hfr]⟩
  ·simp only [V0,sevalprocAttr,hfr,h]
   refine heA _ _ ?_
   simp only [V0,sevalprocAttr,hfr,zx,zj,y6]
   exact ⟨_,rfl,rfl,ys,_,rfl,hp⟩
 obtain ⟨v,own',h1,rfl,xs',J',rfl,hp⟩:=main
 exact ⟨xs',J',h1,hp⟩
end
end
section
section
variable {S:ySM} {α:Type} {g:α->List IV} {e:α->IV} {own0:yLO} {b d:Nat} {out:yLM} {n cp:Nat} {tg:Bool} {r:α->α->Bool} {Nc:Nat}
theorem o_pivS (hS:NoS S) (hb:b<own0.length) (hE:Elt g e 1 false) (hc:LessOK S Nc e r) (hn:n<65536) (m:Nat) (hm:Nc+12<=m) (ownV:yLO) (xs:List α) (J:yLO) (a c:Nat) (hl0:xs.length=n) (hac:a+12<c) (hcn:c<=n) :
  ∃ (xs':List α) (J':yLO) (p:Nat) (w:Int),(∀ id,callN Ftab S m d out ownV (Bk own0 b (xs.flatMap g)++J) id 210 [.slM d b 0 n cp 1 tg,.int .i64 (a:Int),.int .i64 (c:Int)]=some (.x,.tuple [.int .i64 (p:Int),.int .i64 w],Bk own0 b (xs'.flatMap g)++J'))/\Mv xs xs' a c/\a<=p/\p<c:=by
 obtain ⟨m,rfl⟩:∃ q,m=q+1:=⟨m - 1,by omega⟩
 have main:∃ v own',(∀ id,callN Ftab S (m+1) d out ownV (Bk own0 b (xs.flatMap g)++J) id 210 [.slM d b 0 n cp 1 tg,.int .i64 (a:Int),.int .i64 (c:Int)]=some (.x,v,own'))/\(∃ (xs':List α) (J':yLO) (p:Nat) (w:Int),v=.tuple [.int .i64 (p:Int),.int .i64 w]/\own'=Bk own0 b (xs'.flatMap g)++J'/\Mv xs xs' a c/\a<=p/\p<c):=by
  refine zD (i:=i210) (ns hS (by rfl)) rfl rfl (lb rfl) fun t hfr=>?_
  simp only [V2,Nat.reduceAdd,i210] at hfr
  have e1:wrapI .i64 ((c:Int) - (a:Int))=((c - a:Nat):Int):=we
  have e2:wrapI .i64 (Int.tdiv ((c - a:Nat):Int) 4)=(((c - a) / 4:Nat):Int):=Z6 _ 4 (by omega)
  have e0:((4:Int)=0)=False:=eq_false (by decide)
  have hL1:4*((c - a) / 4)<=c - a:=Nat.mul_div_le _ _
  have hL2:3<=(c - a) / 4:=by omega
  generalize (c - a) / 4=L at e2 hL1 hL2
  have m1:wrapI .i64 ((L:Int)*1)=((L*1:Nat):Int):=we
  have m2:wrapI .i64 ((L:Int)*2)=((L*2:Nat):Int):=we
  have m3:wrapI .i64 ((L:Int)*3)=((L*3:Nat):Int):=we
  have a1:wrapI .i64 ((a:Int)+((L*1:Nat):Int))=((a+L*1:Nat):Int):=we
  have a2:wrapI .i64 ((a:Int)+((L*2:Nat):Int))=((a+L*2:Nat):Int):=we
  have a3:wrapI .i64 ((a:Int)+((L*3:Nat):Int))=((a+L*3:Nat):Int):=we
  have h8:(8:Int)<=((c - a:Nat):Int):=by omega
  by_cases h50:(50:Int)<=((c - a:Nat):Int)
  ·obtain ⟨z1,J1,p1,h1,g1⟩:=o_medA (cp:=cp) (tg:=tg) (d:=d) (out:=out) hS hb hE hc hn m (by omega) xs J [.free] 0 (a+L*1) hl0 (by omega) (by omega)
   obtain ⟨z2,J2,p2,h2,g2⟩:=o_medA (cp:=cp) (tg:=tg) (d:=d) (out:=out) hS hb hE hc hn m (by omega) xs J (J1++[.free]) z1 (a+L*2) hl0 (by omega) (by omega)
   obtain ⟨z3,J3,p3,h3,g3⟩:=o_medA (cp:=cp) (tg:=tg) (d:=d) (out:=out) hS hb hE hc hn m (by omega) xs J (J2++[.free]) z2 (a+L*3) hl0 (by omega) (by omega)
   obtain ⟨z4,J4,p4,h4,g4⟩:=o_med (cp:=cp) (tg:=tg) (d:=d) (out:=out) hS hb hE hc hn m (by omega) xs J (J3++[.free]) z3 p1 p2 p3 hl0 (by omega) (by omega) (by omega)
   have hp:a<=p4/\p4<c:=by omega
   simp only [i210,V0,sevalprocAttr,hfr,L1,L2 hb hE,e0,e1,e2,m1,m2,m3,a1,a2,a3,ye,yk,h8,h50,h1,h2,h3,h4]
   cases hz0:z4==0
   ·cases hz1:z4==12
    ·simp only [V0,sevalprocAttr,hfr,hz0,hz1,zj]
     exact ⟨_,rfl,xs,_,p4,_,rfl,rfl,Mv.refl _ _ _,hp⟩
    ·simp only [V0,sevalprocAttr,hfr,hz0,hz1,zj]
     exact ⟨_,rfl,xs,_,p4,_,rfl,rfl,Mv.refl _ _ _,hp⟩
   ·simp only [V0,sevalprocAttr,hfr,hz0,zj]
    exact ⟨_,rfl,xs,_,p4,_,rfl,rfl,Mv.refl _ _ _,hp⟩
  ·obtain ⟨z4,J4,p4,h4,g4⟩:=o_med (cp:=cp) (tg:=tg) (d:=d) (out:=out) hS hb hE hc hn m (by omega) xs J [.free] 0 (a+L*1) (a+L*2) (a+L*3) hl0 (by omega) (by omega) (by omega)
   have hp:a<=p4/\p4<c:=by omega
   simp only [i210,V0,sevalprocAttr,hfr,L1,L2 hb hE,e0,e1,e2,m1,m2,m3,a1,a2,a3,ye,yk,h8,h50,h4]
   cases hz0:z4==0
   ·cases hz1:z4==12
    ·simp only [V0,sevalprocAttr,hfr,hz0,hz1,zj]
     exact ⟨_,rfl,xs,_,p4,_,rfl,rfl,Mv.refl _ _ _,hp⟩
    ·simp only [V0,sevalprocAttr,hfr,hz0,hz1,zj]
     exact ⟨_,rfl,xs,_,p4,_,rfl,rfl,Mv.refl _ _ _,hp⟩
   ·simp only [V0,sevalprocAttr,hfr,hz0,zj]
    exact ⟨_,rfl,xs,_,p4,_,rfl,rfl,Mv.refl _ _ _,hp⟩
 obtain ⟨v,own',h1,xs',J',p,w,rfl,rfl,h2⟩:=main
 exact ⟨xs',J',p,w,h1,h2⟩
end
end
section
section
variable {S:ySM} {α:Type} {g:α->List IV} {e:α->IV} {own0:yLO} {b d:Nat} {out:yLM} {n cp:Nat} {tg:Bool} {r:α->α->Bool} {Nc:Nat}
theorem o_parES (hr0:Orders (bi r)) (hS:NoS S) (hb:b<own0.length) (hE:Elt g e 1 false) (hc:LessOK S Nc e r) (hn:n<65536) (m:Nat) (hm:Nc+n+12<=m) (ownV:yLO) (xs:List α) (J:yLO) (a c p:Nat) (hl0:xs.length=n) (hap:a<=p) (hpc:p<c) (hcn:c<=n) :
  ∃ (xs':List α) (J':yLO) (q:Nat),(∀ id,callN Ftab S m d out ownV (Bk own0 b (xs.flatMap g)++J) id 213 [.slM d b 0 n cp 1 tg,.int .i64 (a:Int),.int .i64 (c:Int),.int .i64 (p:Int)]=some (.x,.int .i64 (q:Int),Bk own0 b (xs'.flatMap g)++J'))/\(xs'.Perm xs/\Else xs xs' a c/\∃ pv,xs[p]?=some pv/\DivE (bi r) xs' a c q pv)/\a<q/\q<=c:=by
 obtain ⟨m,rfl⟩:∃ q,m=q+1:=⟨m - 1,by omega⟩
 have main:∃ v own',(∀ id,callN Ftab S (m+1) d out ownV (Bk own0 b (xs.flatMap g)++J) id 213 [.slM d b 0 n cp 1 tg,.int .i64 (a:Int),.int .i64 (c:Int),.int .i64 (p:Int)]=some (.x,v,own'))/\(∃ (xs':List α) (J':yLO) (q:Nat),v=.int .i64 (q:Int)/\own'=Bk own0 b (xs'.flatMap g)++J'/\(xs'.Perm xs/\Else xs xs' a c/\∃ pv,xs[p]?=some pv/\DivE (bi r) xs' a c q pv)/\a<q/\q<=c):=by
  refine zD (i:=i213) (ns hS (by rfl)) rfl rfl (lb rfl) fun t hfr=>?_
  simp only [V2,Nat.reduceAdd,i213] at hfr
  have e1:wrapI .i64 ((a:Int)+1)=((a+1:Nat):Int):=we
  have e2:wrapI .i64 ((c:Int) - 1)=((c - 1:Nat):Int):=we
  have ha:a<n:=by omega
  have hpn:p<n:=by omega
  obtain ⟨x,hx⟩:=gx (l:=xs) (i:=a) (by omega)
  have lx:=hE.ld hx
  obtain ⟨pv,hy⟩:=gx (l:=xs) (i:=p) (by omega)
  have ly:=hE.ld hy
  simp only [i213,V0,sevalprocAttr,hfr,L1,L2 hb hE,ha,hpn,hl0,lx,ly]
  refine ⟨by simp [comm],?_⟩
  simp only [V0,sevalprocAttr,hfr,e1,e2]
  refine zd (fun jj st=>∃ (i:Nat) (j:Nat) (ys:List α) (J1:yLO),j+1 - i<=jj/\(a+1<=i/\i<=c)/\(a<=j/\j<c)/\(ys.Perm xs/\Else xs ys a c/\PE (bi r) ys a c i j pv)/\st.own=Bk own0 b (ys.flatMap g)++J1/\Slots 84 st.t [(0,.slM d b 0 n cp 1 tg),(1,iv a),(9,iv i),(10,iv j)]) (c+1) (by omega) ⟨a+1,c - 1,_,_,by omega,by omega,by omega,⟨zt hx hy,zu (by omega) (by omega) (by omega) (by omega),PE.start (by omega) (by omega) hx hy⟩,rfl,by simp only [V0,sevalprocAttr,hfr]⟩ ?_
  have hpv:=hy
  clear lx ly hx hy x
  rintro jjA ⟨t,own⟩ KA ⟨i,j,ys,J1,hjj,h1,h2,⟨hp,hel,hpe⟩,ho,hfr⟩ hnA heA hrA
  dsimp only at ho hfr
  subst ho
  simp only [V3] at hfr
  simp only [V0,sevalprocAttr,hfr]
  refine zd (fun jj st=>∃ (i2:Nat) (ys2:List α) (J2:yLO),n - i2<=jj/\(i<=i2/\i2<=c)/\(ys2.Perm xs/\Else xs ys2 a c/\PE (bi r) ys2 a c i2 j pv)/\st.own=Bk own0 b (ys2.flatMap g)++J2/\Slots 84 st.t [(0,.slM d b 0 n cp 1 tg),(1,iv a),(9,iv i2),(10,iv j)]) n (by omega) ⟨i,ys,_,by omega,by omega,⟨hp,hel,hpe⟩,rfl,by simp only [V0,sevalprocAttr,hfr]⟩ ?_
  rintro jjB ⟨t,own⟩ KB ⟨i2,ys2,J2,hjB,hB,⟨hpB,helB,hpeB⟩,ho,hfr⟩ hnB heB hrB
  have keyB:∀ (i2:Nat) (ys2:List α) (J2:yLO) (t:List IV),(i<=i2/\i2<=c)->(ys2.Perm xs/\Else xs ys2 a c/\PE (bi r) ys2 a c i2 j pv)->(j<i2∨∃ y,ys2[i2]?=some y/\bi r pv y<0)->Slots 84 t [(0,.slM d b 0 n cp 1 tg),(1,iv a),(9,iv i2),(10,iv j)]->KB (.exit 2) ⟨t,Bk own0 b (ys2.flatMap g)++J2⟩:=by
   clear hjB hB hpB helB hpeB hfr ho hnB hrB i2 ys2 J2 t own
   intro i2 ys2 J2 t hB ⟨hpB,helB,hpeB⟩ hxB hfr
   simp only [V3] at hfr
   refine heB _ _ ?_
   simp only [V0,sevalprocAttr,hfr]
   refine zd (fun jj st=>∃ (j2:Nat) (ys3:List α) (J3:yLO),j2<=jj/\(a<=j2/\j2<=j)/\(ys3.Perm xs/\Else xs ys3 a c/\PE (bi r) ys3 a c i2 j2 pv/\(j<i2∨∃ y,ys3[i2]?=some y/\bi r pv y<0))/\st.own=Bk own0 b (ys3.flatMap g)++J3/\Slots 84 st.t [(0,.slM d b 0 n cp 1 tg),(1,iv a),(9,iv i2),(10,iv j2)]) n (by omega) ⟨j,ys2,J2,by omega,by omega,⟨hpB,helB,hpeB,hxB⟩,rfl,by simp only [V0,sevalprocAttr,hfr]⟩ ?_
   rintro jjC ⟨t,own⟩ KC ⟨j2,ys3,J3,hjC,hC,⟨hpC,helC,hpeC,hxC⟩,ho,hfr⟩ hnC heC hrC
   have keyC:∀ (j2:Nat) (ys3:List α) (J3:yLO) (t:List IV),(a<=j2/\j2<=j)->(ys3.Perm xs/\Else xs ys3 a c/\PE (bi r) ys3 a c i2 j2 pv/\(j<i2∨∃ y,ys3[i2]?=some y/\bi r pv y<0))->(j2<i2∨∃ y,ys3[j2]?=some y/\¬ bi r pv y<0)->Slots 84 t [(0,.slM d b 0 n cp 1 tg),(1,iv a),(9,iv i2),(10,iv j2)]->KC (.exit 4) ⟨t,Bk own0 b (ys3.flatMap g)++J3⟩:=by
    clear hjC hC hpC helC hpeC hxC hfr ho hnC hrC j2 ys3 J3 t own
    intro j2 ys3 J3 t hC ⟨hpC,helC,hpeC,hxC⟩ hzC hfr
    simp only [V3] at hfr
    refine heC _ _ ?_
    simp only [V0,sevalprocAttr,hfr]
    by_cases hg:j2<i2
    ·simp only [V0,sevalprocAttr,hfr,L1,L2 hb hE,hg]
     refine heA _ _ ?_
     simp only [V0,sevalprocAttr,hfr,zj]
     exact ⟨_,rfl,ys3,_,i2,rfl,rfl,⟨hpC,helC,pv,hpv,hpeC.done hr0 hg⟩,by omega,by omega⟩
    ·have hi:i2<n:=by omega
     have hj:j2<n:=by omega
     have hly:ys3.length=n:=hpC.length_eq.trans hl0
     have e3:wrapI .i64 ((i2:Int)+1)=((i2+1:Nat):Int):=we
     have e4:wrapI .i64 ((j2:Int) - 1)=((j2 - 1:Nat):Int):=we
     obtain ⟨x,hx⟩:=gx (l:=ys3) (i:=i2) (by omega)
     have lx:=hE.ld hx
     obtain ⟨y,hy⟩:=gx (l:=ys3) (i:=j2) (by omega)
     have ly:=hE.ld hy
     simp only [V0,sevalprocAttr,hfr,L1,L2 hb hE,hg,hi,hj,hly,lx,ly]
     refine ⟨by simp [comm],?_⟩
     simp only [V0,sevalprocAttr,hfr,e3,e4]
     have q1:¬ j<i2:=by omega
     have hu2:bi r pv x<0:=by
      rcases hxC with h | ⟨u,hu,hu2⟩
      ·exact absurd h q1
      ·rw [hx] at hu
       cases hu
       exact hu2
     have hw2:¬ bi r pv y<0:=by
      rcases hzC with h | ⟨w,hw,hw2⟩
      ·exact absurd h hg
      ·rw [hy] at hw
       cases hw
       exact hw2
     clear hxC hzC hxB
     exact hnA _ (j2 - 1+1 - (i2+1)) (by omega) ⟨i2+1,j2 - 1,_,_,zaq _,by omega,by omega,⟨(zt hx hy).trans hpC,helC.trans (zu (by omega) (by omega) (by omega) (by omega)),hpeC.swap (by omega) (by omega) (by omega) (by omega) hx hy hu2 hw2⟩,rfl,by simp only [V0,sevalprocAttr,hfr]⟩
   dsimp only at ho hfr
   subst ho
   simp only [V3] at hfr
   have hly:ys3.length=n:=hpC.length_eq.trans hl0
   by_cases h:i2<=j2
   ·have hi:a<n:=by omega
    have hj:j2<n:=by omega
    have e3:wrapI .i64 ((j2:Int) - 1)=((j2 - 1:Nat):Int):=we
    obtain ⟨x,hx⟩:=gx (l:=ys3) (i:=a) (by omega)
    have lx:=hE.ld hx
    obtain ⟨y,hy⟩:=gx (l:=ys3) (i:=j2) (by omega)
    have ly:=hE.ld hy
    have cc:=fun ownV own id=>hc m (by omega) d out ownV own id x y
    cases hlt:r x y
    ·simp only [V0,sevalprocAttr,hfr,L1,L2 hb hE,h,hi,hj,hly,lx,ly,cc,hlt]
     refine ⟨by simp [comm],?_⟩
     simp only [V0,sevalprocAttr,hfr,e3]
     rw [hpeC.piv] at hx
     cases hx
     exact keyC j2 ys3 _ _ hC ⟨hpC,helC,hpeC,hxC⟩ (.inr ⟨y,hy,ZI hlt⟩) (by simp only [V0,sevalprocAttr,hfr])
    ·simp only [V0,sevalprocAttr,hfr,L1,L2 hb hE,h,hi,hj,hly,lx,ly,cc,hlt]
     refine ⟨by simp [comm],?_⟩
     simp only [V0,sevalprocAttr,hfr,e3]
     rw [hpeC.piv] at hx
     cases hx
     exact hnC _ (j2 - 1) (by omega) ⟨j2 - 1,ys3,_,by omega,by omega,⟨hpC,helC,hpeC.down hy (Z9 hlt),hxC⟩,rfl,by simp only [V0,sevalprocAttr,hfr]⟩
   ·simp only [V0,sevalprocAttr,hfr,h,Int.ofNat_le]
    refine ⟨by simp [comm],?_⟩
    simp only [V0,sevalprocAttr,hfr]
    exact keyC j2 ys3 _ _ hC ⟨hpC,helC,hpeC,hxC⟩ (.inl (by omega)) (by simp only [V0,sevalprocAttr,hfr])
  dsimp only at ho hfr
  subst ho
  simp only [V3] at hfr
  have hly:ys2.length=n:=hpB.length_eq.trans hl0
  by_cases h:i2<=j
  ·have hi:a<n:=by omega
   have hj:i2<n:=by omega
   have e3:wrapI .i64 ((i2:Int)+1)=((i2+1:Nat):Int):=we
   obtain ⟨x,hx⟩:=gx (l:=ys2) (i:=a) (by omega)
   have lx:=hE.ld hx
   obtain ⟨y,hy⟩:=gx (l:=ys2) (i:=i2) (by omega)
   have ly:=hE.ld hy
   have cc:=fun ownV own id=>hc m (by omega) d out ownV own id x y
   cases hlt:r x y
   ·simp only [V0,sevalprocAttr,hfr,L1,L2 hb hE,h,hi,hj,hly,lx,ly,cc,hlt]
    refine ⟨by simp [comm],?_⟩
    simp only [V0,sevalprocAttr,hfr,e3]
    rw [hpeB.piv] at hx
    cases hx
    exact hnB _ (n - (i2+1)) (by omega) ⟨i2+1,ys2,_,by omega,by omega,⟨hpB,helB,hpeB.up hy (ZI hlt)⟩,rfl,by simp only [V0,sevalprocAttr,hfr]⟩
   ·simp only [V0,sevalprocAttr,hfr,L1,L2 hb hE,h,hi,hj,hly,lx,ly,cc,hlt]
    refine ⟨by simp [comm],?_⟩
    simp only [V0,sevalprocAttr,hfr,e3]
    rw [hpeB.piv] at hx
    cases hx
    exact keyB i2 ys2 _ _ hB ⟨hpB,helB,hpeB⟩ (.inr ⟨y,hy,Z9 hlt⟩) (by simp only [V0,sevalprocAttr,hfr])
  ·simp only [V0,sevalprocAttr,hfr,h,Int.ofNat_le]
   refine ⟨by simp [comm],?_⟩
   simp only [V0,sevalprocAttr,hfr]
   exact keyB i2 ys2 _ _ hB ⟨hpB,helB,hpeB⟩ (.inl (by omega)) (by simp only [V0,sevalprocAttr,hfr])
 obtain ⟨v,own',h1,xs',J',q,rfl,rfl,h2⟩:=main
 exact ⟨xs',J',q,h1,h2⟩
end
end
section
section
variable {S:ySM} {α:Type} {g:α->List IV} {e:α->IV} {own0:yLO} {b d:Nat} {out:yLM} {n cp:Nat} {tg:Bool} {r:α->α->Bool} {Nc:Nat}
theorem o_parS (hS:NoS S) (hb:b<own0.length) (hE:Elt g e 1 false) (hc:LessOK S Nc e r) (hn:n<65536) (m:Nat) (hm:Nc+n+12<=m) (ownV:yLO) (xs:List α) (J:yLO) (a c p:Nat) (hl0:xs.length=n) (hap:a<=p) (hpc:p<c) (hcn:c<=n) :
  ∃ (xs':List α) (J':yLO) (q:Nat) (w:Bool),(∀ id,callN Ftab S m d out ownV (Bk own0 b (xs.flatMap g)++J) id 214 [.slM d b 0 n cp 1 tg,.int .i64 (a:Int),.int .i64 (c:Int),.int .i64 (p:Int)]=some (.x,.tuple [.int .i64 (q:Int),.bool w],Bk own0 b (xs'.flatMap g)++J'))/\(xs'.Perm xs/\Else xs xs' a c/\∃ pv,xs[p]?=some pv/\DivP (bi r) xs' a c q pv)/\a<=q/\q<c:=by
 obtain ⟨m,rfl⟩:∃ q,m=q+1:=⟨m - 1,by omega⟩
 have main:∃ v own',(∀ id,callN Ftab S (m+1) d out ownV (Bk own0 b (xs.flatMap g)++J) id 214 [.slM d b 0 n cp 1 tg,.int .i64 (a:Int),.int .i64 (c:Int),.int .i64 (p:Int)]=some (.x,v,own'))/\(∃ (xs':List α) (J':yLO) (q:Nat) (w:Bool),v=.tuple [.int .i64 (q:Int),.bool w]/\own'=Bk own0 b (xs'.flatMap g)++J'/\(xs'.Perm xs/\Else xs xs' a c/\∃ pv,xs[p]?=some pv/\DivP (bi r) xs' a c q pv)/\a<=q/\q<c):=by
  refine zD (i:=i214) (ns hS (by rfl)) rfl rfl (lb rfl) fun t hfr=>?_
  simp only [V2,Nat.reduceAdd,i214] at hfr
  obtain ⟨i,hi0⟩:∃ i:Nat,i=a+1:=⟨_,rfl⟩
  obtain ⟨j,hj0⟩:∃ j:Nat,j=c - 1:=⟨_,rfl⟩
  have e1:wrapI .i64 ((a:Int)+1)=((i:Nat):Int):=we
  have e2:wrapI .i64 ((c:Int) - 1)=((j:Nat):Int):=we
  have ha:a<n:=by omega
  have hpn:p<n:=by omega
  obtain ⟨x0,hx0⟩:=gx (l:=xs) (i:=a) (by omega)
  have lx0:=hE.ld hx0
  obtain ⟨y0,hy0⟩:=gx (l:=xs) (i:=p) (by omega)
  have ly0:=hE.ld hy0
  simp only [i214,V0,sevalprocAttr,hfr,L1,L2 hb hE,ha,hpn,hl0,lx0,ly0]
  refine ⟨by simp [comm],?_⟩
  simp only [V0,sevalprocAttr,hfr,e1,e2]
  refine zd (fun jj st=>∃ (i2:Nat) (ys1:List α) (J2:yLO),n - i2<=jj/\(i<=i2/\i2<=c)/\(ys1.Perm xs/\Else xs ys1 a c/\PF (bi r) ys1 a c i2 j y0)/\st.own=Bk own0 b (ys1.flatMap g)++J2/\Slots 168 st.t [(0,.slM d b 0 n cp 1 tg),(1,iv a),(10,iv i2),(11,iv j)]) n (by omega) ⟨i,_,_,by omega,by omega,⟨zt hx0 hy0,zu (by omega) (by omega) (by omega) (by omega),by subst hi0 hj0; exact PF.start (by omega) (by omega) hx0 hy0⟩,rfl,by simp only [V0,sevalprocAttr,hfr]⟩ ?_
  rintro jjB ⟨t,own⟩ KB ⟨i2,ys1,J2,hjB,hB,⟨hpB,helB,hfB⟩,ho,hfr⟩ hnB heB hrB
  have keyB:∀ (i2:Nat) (ys1:List α) (J2:yLO) (t:List IV),(i<=i2/\i2<=c)->(ys1.Perm xs/\Else xs ys1 a c/\PF (bi r) ys1 a c i2 j y0)->(j<i2∨∃ y,ys1[i2]?=some y/\¬ bi r y y0<0)->Slots 168 t [(0,.slM d b 0 n cp 1 tg),(1,iv a),(10,iv i2),(11,iv j)]->KB (.exit 0) ⟨t,Bk own0 b (ys1.flatMap g)++J2⟩:=by
   clear hjB hB hpB helB hfB hfr ho hnB hrB i2 ys1 J2 t own
   intro i2 ys1 J2 t hB ⟨hpB,helB,hfB⟩ hxB hfr
   simp only [V3] at hfr
   refine heB _ _ ?_
   simp only [V0,sevalprocAttr,hfr]
   refine zd (fun jj st=>∃ (j2:Nat) (ys2:List α) (J3:yLO),j2<=jj/\(a<=j2/\j2<=j)/\(ys2.Perm xs/\Else xs ys2 a c/\PF (bi r) ys2 a c i2 j2 y0/\(j<i2∨∃ y,ys2[i2]?=some y/\¬ bi r y y0<0))/\st.own=Bk own0 b (ys2.flatMap g)++J3/\Slots 168 st.t [(0,.slM d b 0 n cp 1 tg),(1,iv a),(10,iv i2),(11,iv j2)]) n (by omega) ⟨j,ys1,J2,by omega,by omega,⟨hpB,helB,hfB,hxB⟩,rfl,by simp only [V0,sevalprocAttr,hfr]⟩ ?_
   rintro jjC ⟨t,own⟩ KC ⟨j2,ys2,J3,hjC,hC,⟨hpC,helC,hfC,hxC⟩,ho,hfr⟩ hnC heC hrC
   have keyC:∀ (j2:Nat) (ys2:List α) (J3:yLO) (t:List IV),(a<=j2/\j2<=j)->(ys2.Perm xs/\Else xs ys2 a c/\PF (bi r) ys2 a c i2 j2 y0/\(j<i2∨∃ y,ys2[i2]?=some y/\¬ bi r y y0<0))->(j2<i2∨∃ y,ys2[j2]?=some y/\bi r y y0<0)->Slots 168 t [(0,.slM d b 0 n cp 1 tg),(1,iv a),(10,iv i2),(11,iv j2)]->KC (.exit 2) ⟨t,Bk own0 b (ys2.flatMap g)++J3⟩:=by
    clear hjC hC hpC helC hfC hxC hfr ho hnC hrC j2 ys2 J3 t own
    intro j2 ys2 J3 t hC ⟨hpC,helC,hfC,hxC⟩ hzC hfr
    simp only [V3] at hfr
    refine heC _ _ ?_
    simp only [V0,sevalprocAttr,hfr]
    by_cases hg:j2<i2
    ·simp only [V0,sevalprocAttr,hfr,L1,L2 hb hE,hg]
     have ha:a<n:=by omega
     have hj:j2<n:=by omega
     have hly:ys2.length=n:=hpC.length_eq.trans hl0
     obtain ⟨x,hx⟩:=gx (l:=ys2) (i:=j2) (by omega)
     have lx:=hE.ld hx
     obtain ⟨y,hy⟩:=gx (l:=ys2) (i:=a) (by omega)
     have ly:=hE.ld hy
     simp only [V0,sevalprocAttr,hfr,L1,L2 hb hE,ha,hj,hly,lx,ly]
     refine ⟨by simp [comm],?_⟩
     simp only [V0,sevalprocAttr,hfr,zj]
     rw [hfC.piv] at hy
     cases hy
     have hdv:=hfC.done hg (by omega) (by omega) (by omega) hx
     clear hxB hxC hzC
     exact ⟨_,rfl,_,_,j2,_,rfl,rfl,⟨(zt hx hfC.piv).trans hpC,helC.trans (zu (by omega) (by omega) (by omega) (by omega)),_,hy0,hdv⟩,by omega,by omega⟩
    ·have hi:i2<n:=by omega
     have hj:j2<n:=by omega
     have hly:ys2.length=n:=hpC.length_eq.trans hl0
     have e3:wrapI .i64 ((i2:Int)+1)=((i2+1:Nat):Int):=we
     have e4:wrapI .i64 ((j2:Int) - 1)=((j2 - 1:Nat):Int):=we
     obtain ⟨x,hx⟩:=gx (l:=ys2) (i:=i2) (by omega)
     have lx:=hE.ld hx
     obtain ⟨y,hy⟩:=gx (l:=ys2) (i:=j2) (by omega)
     have ly:=hE.ld hy
     simp only [V0,sevalprocAttr,hfr,L1,L2 hb hE,hg,hi,hj,hly,lx,ly]
     refine ⟨by simp [comm],?_⟩
     simp only [V0,sevalprocAttr,hfr,L1,L2 hb hE,e3,e4]
     have q1:¬ j<i2:=by clear hxB hxC hzC; omega
     have hu2:¬ bi r x y0<0:=by
      rcases hxC with h | ⟨u,hu,hu2⟩
      ·exact absurd h q1
      ·rw [hx] at hu
       cases hu
       exact hu2
     have hw2:bi r y y0<0:=by
      rcases hzC with h | ⟨w,hw,hw2⟩
      ·exact absurd h hg
      ·rw [hy] at hw
       cases hw
       exact hw2
     clear hxC hzC hxB
     refine zd (fun jj st=>∃ (i:Nat) (j:Nat) (ys:List α) (J1:yLO),j+1 - i<=jj/\(a+1<=i/\i<=c)/\(a<=j/\j<c)/\(ys.Perm xs/\Else xs ys a c/\PF (bi r) ys a c i j y0)/\st.own=Bk own0 b (ys.flatMap g)++J1/\Slots 168 st.t [(0,.slM d b 0 n cp 1 tg),(1,iv a),(10,iv i),(11,iv j)]) (c+1) (by omega) ⟨i2+1,j2 - 1,_,_,by omega,by omega,by omega,⟨(zt hx hy).trans hpC,helC.trans (zu (by omega) (by omega) (by omega) (by omega)),hfC.swap (by omega) (by omega) (by omega) (by omega) hx hy hu2 hw2⟩,rfl,by simp only [V0,sevalprocAttr,hfr]⟩ ?_
     clear hu2 hw2 lx ly hx hy x y
     rintro jjA ⟨t,own⟩ KA ⟨i4,j4,ys3,J3,hjj,h1,h2,⟨hp,hel,hf⟩,ho,hfr⟩ hnA heA hrA
     dsimp only at ho hfr
     subst ho
     simp only [V3] at hfr
     simp only [V0,sevalprocAttr,hfr]
     refine zd (fun jj st=>∃ (i3:Nat) (ys4:List α) (J4:yLO),n - i3<=jj/\(i4<=i3/\i3<=c)/\(ys4.Perm xs/\Else xs ys4 a c/\PF (bi r) ys4 a c i3 j4 y0)/\st.own=Bk own0 b (ys4.flatMap g)++J4/\Slots 168 st.t [(0,.slM d b 0 n cp 1 tg),(1,iv a),(10,iv i3),(11,iv j4)]) n (by omega) ⟨i4,ys3,_,by omega,by omega,⟨hp,hel,hf⟩,rfl,by simp only [V0,sevalprocAttr,hfr]⟩ ?_
     rintro jjD ⟨t,own⟩ KD ⟨i3,ys4,J4,hjD,hD,⟨hpD,helD,hfD⟩,ho,hfr⟩ hnD heD hrD
     have keyD:∀ (i3:Nat) (ys4:List α) (J4:yLO) (t:List IV),(i4<=i3/\i3<=c)->(ys4.Perm xs/\Else xs ys4 a c/\PF (bi r) ys4 a c i3 j4 y0)->(j4<i3∨∃ y,ys4[i3]?=some y/\¬ bi r y y0<0)->Slots 168 t [(0,.slM d b 0 n cp 1 tg),(1,iv a),(10,iv i3),(11,iv j4)]->KD (.exit 6) ⟨t,Bk own0 b (ys4.flatMap g)++J4⟩:=by
      clear hjD hD hpD helD hfD hfr ho hnD hrD i3 ys4 J4 t own
      intro i3 ys4 J4 t hD ⟨hpD,helD,hfD⟩ hxD hfr
      simp only [V3] at hfr
      refine heD _ _ ?_
      simp only [V0,sevalprocAttr,hfr]
      refine zd (fun jj st=>∃ (j3:Nat) (ys5:List α) (J5:yLO),j3<=jj/\(a<=j3/\j3<=j4)/\(ys5.Perm xs/\Else xs ys5 a c/\PF (bi r) ys5 a c i3 j3 y0/\(j4<i3∨∃ y,ys5[i3]?=some y/\¬ bi r y y0<0))/\st.own=Bk own0 b (ys5.flatMap g)++J5/\Slots 168 st.t [(0,.slM d b 0 n cp 1 tg),(1,iv a),(10,iv i3),(11,iv j3)]) n (by omega) ⟨j4,ys4,J4,by omega,by omega,⟨hpD,helD,hfD,hxD⟩,rfl,by simp only [V0,sevalprocAttr,hfr]⟩ ?_
      rintro jjG ⟨t,own⟩ KG ⟨j3,ys5,J5,hjG,hG,⟨hpE,helE,hfE,hxE⟩,ho,hfr⟩ hnG heG hrG
      have keyG:∀ (j3:Nat) (ys5:List α) (J5:yLO) (t:List IV),(a<=j3/\j3<=j4)->(ys5.Perm xs/\Else xs ys5 a c/\PF (bi r) ys5 a c i3 j3 y0/\(j4<i3∨∃ y,ys5[i3]?=some y/\¬ bi r y y0<0))->(j3<i3∨∃ y,ys5[j3]?=some y/\bi r y y0<0)->Slots 168 t [(0,.slM d b 0 n cp 1 tg),(1,iv a),(10,iv i3),(11,iv j3)]->KG (.exit 8) ⟨t,Bk own0 b (ys5.flatMap g)++J5⟩:=by
       clear hjG hG hpE helE hfE hxE hfr ho hnG hrG j3 ys5 J5 t own
       intro j3 ys5 J5 t hG ⟨hpE,helE,hfE,hxE⟩ hzE hfr
       simp only [V3] at hfr
       refine heG _ _ ?_
       simp only [V0,sevalprocAttr,hfr]
       by_cases hg:j3<i3
       ·simp only [V0,sevalprocAttr,hfr,L1,L2 hb hE,hg]
        refine heA _ _ ?_
        simp only [V0,sevalprocAttr,hfr]
        have ha:a<n:=by omega
        have hj:j3<n:=by omega
        have hly:ys5.length=n:=hpE.length_eq.trans hl0
        obtain ⟨x,hx⟩:=gx (l:=ys5) (i:=j3) (by omega)
        have lx:=hE.ld hx
        obtain ⟨y,hy⟩:=gx (l:=ys5) (i:=a) (by omega)
        have ly:=hE.ld hy
        simp only [V0,sevalprocAttr,hfr,L1,L2 hb hE,ha,hj,hly,lx,ly]
        refine ⟨by simp [comm],?_⟩
        simp only [V0,sevalprocAttr,hfr,zj]
        rw [hfE.piv] at hy
        cases hy
        have hdv:=hfE.done hg (by omega) (by omega) (by omega) hx
        clear hxE hzE hxD
        exact ⟨_,rfl,_,_,j3,_,rfl,rfl,⟨(zt hx hfE.piv).trans hpE,helE.trans (zu (by omega) (by omega) (by omega) (by omega)),_,hy0,hdv⟩,by omega,by omega⟩
       ·have hi:i3<n:=by omega
        have hj:j3<n:=by omega
        have hly:ys5.length=n:=hpE.length_eq.trans hl0
        have e3:wrapI .i64 ((i3:Int)+1)=((i3+1:Nat):Int):=we
        have e4:wrapI .i64 ((j3:Int) - 1)=((j3 - 1:Nat):Int):=we
        obtain ⟨x,hx⟩:=gx (l:=ys5) (i:=i3) (by omega)
        have lx:=hE.ld hx
        obtain ⟨y,hy⟩:=gx (l:=ys5) (i:=j3) (by omega)
        have ly:=hE.ld hy
        simp only [V0,sevalprocAttr,hfr,L1,L2 hb hE,hg,hi,hj,hly,lx,ly]
        refine ⟨by simp [comm],?_⟩
        simp only [V0,sevalprocAttr,hfr,e3,e4]
        have q1:¬ j4<i3:=by clear hxE hzE hxD; omega
        have hu2:¬ bi r x y0<0:=by
         rcases hxE with h | ⟨u,hu,hu2⟩
         ·exact absurd h q1
         ·rw [hx] at hu
          cases hu
          exact hu2
        have hw2:bi r y y0<0:=by
         rcases hzE with h | ⟨w,hw,hw2⟩
         ·exact absurd h hg
         ·rw [hy] at hw
          cases hw
          exact hw2
        clear hxE hzE hxD
        exact hnA _ (j3 - 1+1 - (i3+1)) (by omega) ⟨i3+1,j3 - 1,_,_,zaq _,by omega,by omega,⟨(zt hx hy).trans hpE,helE.trans (zu (by omega) (by omega) (by omega) (by omega)),hfE.swap (by omega) (by omega) (by omega) (by omega) hx hy hu2 hw2⟩,rfl,by simp only [V0,sevalprocAttr,hfr]⟩
      dsimp only at ho hfr
      subst ho
      simp only [V3] at hfr
      have hly:ys5.length=n:=hpE.length_eq.trans hl0
      by_cases h:i3<=j3
      ·have hi:j3<n:=by omega
       have hj:a<n:=by omega
       have e3:wrapI .i64 ((j3:Int) - 1)=((j3 - 1:Nat):Int):=we
       obtain ⟨x,hx⟩:=gx (l:=ys5) (i:=j3) (by omega)
       have lx:=hE.ld hx
       obtain ⟨y,hy⟩:=gx (l:=ys5) (i:=a) (by omega)
       have ly:=hE.ld hy
       have cc:=fun ownV own id=>hc m (by omega) d out ownV own id x y
       cases hlt:r x y
       ·simp only [V0,sevalprocAttr,hfr,L1,L2 hb hE,h,hi,hj,hly,lx,ly,cc,hlt]
        refine ⟨by simp [comm],?_⟩
        simp only [V0,sevalprocAttr,hfr,e3]
        rw [hfE.piv] at hy
        cases hy
        exact hnG _ (j3 - 1) (by omega) ⟨j3 - 1,ys5,_,by omega,by omega,⟨hpE,helE,hfE.down hx (ZI hlt),hxE⟩,rfl,by simp only [V0,sevalprocAttr,hfr]⟩
       ·simp only [V0,sevalprocAttr,hfr,L1,L2 hb hE,h,hi,hj,hly,lx,ly,cc,hlt]
        refine ⟨by simp [comm],?_⟩
        simp only [V0,sevalprocAttr,hfr,e3]
        rw [hfE.piv] at hy
        cases hy
        exact keyG j3 ys5 _ _ hG ⟨hpE,helE,hfE,hxE⟩ (.inr ⟨_,hx,Z9 hlt⟩) (by simp only [V0,sevalprocAttr,hfr])
      ·simp only [V0,sevalprocAttr,hfr,h,Int.ofNat_le]
       refine ⟨by simp [comm],?_⟩
       simp only [V0,sevalprocAttr,hfr]
       exact keyG j3 ys5 _ _ hG ⟨hpE,helE,hfE,hxE⟩ (.inl (by omega)) (by simp only [V0,sevalprocAttr,hfr])
     dsimp only at ho hfr
     subst ho
     simp only [V3] at hfr
     have hly:ys4.length=n:=hpD.length_eq.trans hl0
     by_cases h:i3<=j4
     ·have hi:i3<n:=by omega
      have hj:a<n:=by omega
      have e3:wrapI .i64 ((i3:Int)+1)=((i3+1:Nat):Int):=we
      obtain ⟨x,hx⟩:=gx (l:=ys4) (i:=i3) (by omega)
      have lx:=hE.ld hx
      obtain ⟨y,hy⟩:=gx (l:=ys4) (i:=a) (by omega)
      have ly:=hE.ld hy
      have cc:=fun ownV own id=>hc m (by omega) d out ownV own id x y
      cases hlt:r x y
      ·simp only [V0,sevalprocAttr,hfr,L1,L2 hb hE,h,hi,hj,hly,lx,ly,cc,hlt]
       refine ⟨by simp [comm],?_⟩
       simp only [V0,sevalprocAttr,hfr,e3]
       rw [hfD.piv] at hy
       cases hy
       exact keyD i3 ys4 _ _ hD ⟨hpD,helD,hfD⟩ (.inr ⟨_,hx,ZI hlt⟩) (by simp only [V0,sevalprocAttr,hfr])
      ·simp only [V0,sevalprocAttr,hfr,L1,L2 hb hE,h,hi,hj,hly,lx,ly,cc,hlt]
       refine ⟨by simp [comm],?_⟩
       simp only [V0,sevalprocAttr,hfr,e3]
       rw [hfD.piv] at hy
       cases hy
       exact hnD _ (n - (i3+1)) (by omega) ⟨i3+1,ys4,_,by omega,by omega,⟨hpD,helD,hfD.up hx (Z9 hlt)⟩,rfl,by simp only [V0,sevalprocAttr,hfr]⟩
     ·simp only [V0,sevalprocAttr,hfr,h,Int.ofNat_le]
      refine ⟨by simp [comm],?_⟩
      simp only [V0,sevalprocAttr,hfr]
      exact keyD i3 ys4 _ _ hD ⟨hpD,helD,hfD⟩ (.inl (by omega)) (by simp only [V0,sevalprocAttr,hfr])
   dsimp only at ho hfr
   subst ho
   simp only [V3] at hfr
   have hly:ys2.length=n:=hpC.length_eq.trans hl0
   by_cases h:i2<=j2
   ·have hi:j2<n:=by omega
    have hj:a<n:=by omega
    have e3:wrapI .i64 ((j2:Int) - 1)=((j2 - 1:Nat):Int):=we
    obtain ⟨x,hx⟩:=gx (l:=ys2) (i:=j2) (by omega)
    have lx:=hE.ld hx
    obtain ⟨y,hy⟩:=gx (l:=ys2) (i:=a) (by omega)
    have ly:=hE.ld hy
    have cc:=fun ownV own id=>hc m (by omega) d out ownV own id x y
    cases hlt:r x y
    ·simp only [V0,sevalprocAttr,hfr,L1,L2 hb hE,h,hi,hj,hly,lx,ly,cc,hlt]
     refine ⟨by simp [comm],?_⟩
     simp only [V0,sevalprocAttr,hfr,e3]
     rw [hfC.piv] at hy
     cases hy
     exact hnC _ (j2 - 1) (by omega) ⟨j2 - 1,ys2,_,by omega,by omega,⟨hpC,helC,hfC.down hx (ZI hlt),hxC⟩,rfl,by simp only [V0,sevalprocAttr,hfr]⟩
    ·simp only [V0,sevalprocAttr,hfr,L1,L2 hb hE,h,hi,hj,hly,lx,ly,cc,hlt]
     refine ⟨by simp [comm],?_⟩
     simp only [V0,sevalprocAttr,hfr,e3]
     rw [hfC.piv] at hy
     cases hy
     exact keyC j2 ys2 _ _ hC ⟨hpC,helC,hfC,hxC⟩ (.inr ⟨_,hx,Z9 hlt⟩) (by simp only [V0,sevalprocAttr,hfr])
   ·simp only [V0,sevalprocAttr,hfr,h,Int.ofNat_le]
    refine ⟨by simp [comm],?_⟩
    simp only [V0,sevalprocAttr,hfr]
    exact keyC j2 ys2 _ _ hC ⟨hpC,helC,hfC,hxC⟩ (.inl (by omega)) (by simp only [V0,sevalprocAttr,hfr])
  dsimp only at ho hfr
  subst ho
  simp only [V3] at hfr
  have hly:ys1.length=n:=hpB.length_eq.trans hl0
  by_cases h:i2<=j
  ·have hi:i2<n:=by omega
   have hj:a<n:=by omega
   have e3:wrapI .i64 ((i2:Int)+1)=((i2+1:Nat):Int):=we
   obtain ⟨x,hx⟩:=gx (l:=ys1) (i:=i2) (by omega)
   have lx:=hE.ld hx
   obtain ⟨y,hy⟩:=gx (l:=ys1) (i:=a) (by omega)
   have ly:=hE.ld hy
   have cc:=fun ownV own id=>hc m (by omega) d out ownV own id x y
   cases hlt:r x y
   ·simp only [V0,sevalprocAttr,hfr,L1,L2 hb hE,h,hi,hj,hly,lx,ly,cc,hlt]
    refine ⟨by simp [comm],?_⟩
    simp only [V0,sevalprocAttr,hfr,e3]
    rw [hfB.piv] at hy
    cases hy
    exact keyB i2 ys1 _ _ hB ⟨hpB,helB,hfB⟩ (.inr ⟨_,hx,ZI hlt⟩) (by simp only [V0,sevalprocAttr,hfr])
   ·simp only [V0,sevalprocAttr,hfr,L1,L2 hb hE,h,hi,hj,hly,lx,ly,cc,hlt]
    refine ⟨by simp [comm],?_⟩
    simp only [V0,sevalprocAttr,hfr,e3]
    rw [hfB.piv] at hy
    cases hy
    exact hnB _ (n - (i2+1)) (by omega) ⟨i2+1,ys1,_,by omega,by omega,⟨hpB,helB,hfB.up hx (Z9 hlt)⟩,rfl,by simp only [V0,sevalprocAttr,hfr]⟩
  ·simp only [V0,sevalprocAttr,hfr,h,Int.ofNat_le]
   refine ⟨by simp [comm],?_⟩
   simp only [V0,sevalprocAttr,hfr]
   exact keyB i2 ys1 _ _ hB ⟨hpB,helB,hfB⟩ (.inl (by omega)) (by simp only [V0,sevalprocAttr,hfr])
 obtain ⟨v,own',h1,xs',J',q,w,rfl,rfl,h2⟩:=main
 exact ⟨xs',J',q,w,h1,h2⟩
end
end
section
section
variable {S:ySM} {α:Type} {g:α->List IV} {e:α->IV} {own0:yLO} {b d:Nat} {out:yLM} {n cp:Nat} {tg:Bool} {r:α->α->Bool} {Nc:Nat}
theorem o_partS (hr0:Orders (bi r)) (hS:NoS S) (hb:b<own0.length) (hE:Elt g e 1 false) (hc:LessOK S Nc e r) (hn:n<65536) (m:Nat) (hm:Nc+n+12<=m) (ownV:yLO) (xs:List α) (J:yLO) (a c:Nat) (hl0:xs.length=n) (hac:a<c) (hcn:c<=n) (hpre:Pre (bi r) xs a c) :
  ∃ (xs':List α) (J':yLO) (w:Bool),(∀ id,callN Ftab S m d out ownV (Bk own0 b (xs.flatMap g)++J) id 212 [.slM d b 0 n cp 1 tg,.int .i64 (a:Int),.int .i64 (c:Int)]=some (.x,.bool w,Bk own0 b (xs'.flatMap g)++J'))/\xs'.Perm xs/\Else xs xs' a c/\(w=true->Srt (bi r) xs' a c):=by
 obtain ⟨m,rfl⟩:∃ q,m=q+1:=⟨m - 1,by omega⟩
 have main:∃ v own',(∀ id,callN Ftab S (m+1) d out ownV (Bk own0 b (xs.flatMap g)++J) id 212 [.slM d b 0 n cp 1 tg,.int .i64 (a:Int),.int .i64 (c:Int)]=some (.x,v,own'))/\(∃ (xs':List α) (J':yLO) (w:Bool),v=.bool w/\own'=Bk own0 b (xs'.flatMap g)++J'/\xs'.Perm xs/\Else xs xs' a c/\(w=true->Srt (bi r) xs' a c)):=by
  refine zD (i:=i212) (ns hS (by rfl)) rfl rfl (lb rfl) fun t hfr=>?_
  simp only [V2,Nat.reduceAdd,i212] at hfr
  have e1:wrapI .i64 ((a:Int)+1)=((a+1:Nat):Int):=we
  simp only [i212,V0,sevalprocAttr,hfr,e1]
  refine zd (fun jj st=>∃ (i:Nat) (k:Nat) (ys:List α) (J1:yLO),5 - k<=jj/\(a+1<=i/\i<=c/\k<=5)/\(ys.Perm xs/\Else xs ys a c/\Srt (bi r) ys a i)/\st.own=Bk own0 b (ys.flatMap g)++J1/\Slots 133 st.t [(0,.slM d b 0 n cp 1 tg),(1,iv a),(2,iv c),(7,iv i),(8,iv k)]) 5 (by omega) ⟨a+1,0,xs,J,by omega,by omega,⟨List.Perm.refl _,Else.refl _ _ _,Srt.small (zaq _)⟩,rfl,by simp only [V0,sevalprocAttr,hfr,zbe]⟩ ?_
  rintro jjA ⟨t,own⟩ KA ⟨i,k,ys,J1,hjj,h1,⟨hp,hel,hso⟩,ho,hfr⟩ hnA heA hrA
  dsimp only at ho hfr
  subst ho
  simp only [V3] at hfr
  by_cases h5:(k:Int)<5
  ·simp only [V0,sevalprocAttr,hfr,h5]
   refine zd (fun jj st=>∃ (i2:Nat) (zs:List α) (J2:yLO),n - i2<=jj/\(i<=i2/\i2<=c)/\(zs.Perm xs/\Else xs zs a c/\Srt (bi r) zs a i2)/\st.own=Bk own0 b (zs.flatMap g)++J2/\Slots 133 st.t [(0,.slM d b 0 n cp 1 tg),(1,iv a),(2,iv c),(7,iv i2),(8,iv k)]) n (by omega) ⟨i,_,_,by omega,by omega,⟨hp,hel,hso⟩,rfl,by simp only [V0,sevalprocAttr,hfr]⟩ ?_
   rintro jjB ⟨t,own⟩ KB ⟨i2,zs,J2,hjB,cnB,⟨hpB,helB,hsB⟩,ho,hfr⟩ hnB heB hrB
   have keyB:∀ (i2:Nat) (zs:List α) (J2:yLO) (t:List IV),(i<=i2/\i2<=c)->(zs.Perm xs/\Else xs zs a c/\Srt (bi r) zs a i2)->Slots 133 t [(0,.slM d b 0 n cp 1 tg),(1,iv a),(2,iv c),(7,iv i2),(8,iv k)]->KB (.exit 2) ⟨t,Bk own0 b (zs.flatMap g)++J2⟩:=by
    clear hjB cnB hpB helB hsB hfr ho hnB hrB i2 zs J2 t own
    intro i2 zs J2 t cnB ⟨hpB,helB,hsB⟩ hfr
    simp only [V3] at hfr
    refine heB _ _ ?_
    simp only [V0,sevalprocAttr,hfr]
    by_cases hic:i2=c
    ·have hbe:((i2:Int)==(c:Int))=true:=by simp [hic]
     simp only [V0,sevalprocAttr,hfr,hbe]
     refine hrA _ ?_
     simp only [V0,sevalprocAttr,hfr,zj,res1]
     exact ⟨_,rfl,zs,_,_,rfl,rfl,hpB,helB,fun _=>hic ▸ hsB⟩
    ·have hbe:((i2:Int)==(c:Int))=false:=by
      rw [beq_eq_false_iff_ne]
      omega
     have e5:wrapI .i64 ((c:Int) - (a:Int))=((c - a:Nat):Int):=we
     by_cases h50:((c - a:Nat):Int)<50
     ·simp only [V0,sevalprocAttr,hfr,hbe,e5,h50]
      refine hrA _ ?_
      simp only [V0,sevalprocAttr,hfr,zj,res1]
      exact ⟨_,rfl,zs,_,_,rfl,rfl,hpB,helB,fun h=>absurd h (by simp)⟩
     ·have hi:i2<n:=by omega
      have hj:i2 - 1<n:=by omega
      have hly:zs.length=n:=hpB.length_eq.trans hl0
      have e3:wrapI .i64 ((i2:Int) - 1)=((i2 - 1:Nat):Int):=we
      have e6:wrapI .i64 ((i2:Int) - (a:Int))=((i2 - a:Nat):Int):=we
      obtain ⟨x,hx⟩:=gx (l:=zs) (i:=i2) (by omega)
      have lx:=hE.ld hx
      obtain ⟨y,hy⟩:=gx (l:=zs) (i:=i2 - 1) (by omega)
      have ly:=hE.ld hy
      have hls:((zs.set i2 y).set (i2 - 1) x).length=n:=by rw [List.length_set,List.length_set]; exact hly
      have hps:((zs.set i2 y).set (i2 - 1) x).Perm xs:=(zt hx hy).trans hpB
      have hes:Else zs ((zs.set i2 y).set (i2 - 1) x) (i2 - 1) (i2+1):=zu (by omega) (by omega) (by omega) (by omega)
      have hees:Else xs ((zs.set i2 y).set (i2 - 1) x) a c:=helB.trans (hes.wide (by omega) (by omega))
      have hss:Srt (bi r) ((zs.set i2 y).set (i2 - 1) x) a (i2 - 1):=(hsB.mono (zaq _) (by omega)).else hes (.inl (zaq _))
      simp only [V0,sevalprocAttr,hfr,L1,L2 hb hE,hbe,e5,h50,e3,hi,hj,hly,lx,ly]
      refine ⟨by simp [comm],?_⟩
      clear lx ly
      generalize (zs.set i2 y).set (i2 - 1) x=us at hls hps hees hss ⊢
      clear hes hx hy
      by_cases h2:(2:Int)<=((i2 - a:Nat):Int)
      ·simp only [V0,sevalprocAttr,hfr,L1,L2 hb hE,e6,h2,e3]
       refine zd (fun jj st=>∃ (j4:Nat) (vs:List α) (J4:yLO),j4<=jj/\(a<=j4/\j4<i2)/\(vs.Perm xs/\Else xs vs a c/\Ins (bi r) vs a j4 (i2 - 1))/\st.own=Bk own0 b (vs.flatMap g)++J4/\Slots 133 st.t [(0,.slM d b 0 n cp 1 tg),(1,iv a),(2,iv c),(7,iv i2),(8,iv k),(9,iv j4)]) n (by omega) ⟨i2 - 1,_,_,by omega,by omega,⟨hps,hees,Ins.start hss⟩,rfl,by simp only [V0,sevalprocAttr,hfr]⟩ ?_
       rintro jjC ⟨t,own⟩ KC ⟨j4,vs,J4,hjC,cnC,⟨hpC,helC,hsC⟩,ho,hfr⟩ hnC heC hrC
       have keyC:∀ (j4:Nat) (vs:List α) (J4:yLO) (t:List IV),(a<=j4/\j4<i2)->(vs.Perm xs/\Else xs vs a c/\Ins (bi r) vs a j4 (i2 - 1))->(j4<=a∨∃ x y,vs[j4]?=some x/\vs[j4 - 1]?=some y/\¬ bi r x y<0)->Slots 133 t [(0,.slM d b 0 n cp 1 tg),(1,iv a),(2,iv c),(7,iv i2),(8,iv k),(9,iv j4)]->KC (.exit 4) ⟨t,Bk own0 b (vs.flatMap g)++J4⟩:=by
        clear hjC cnC hpC helC hsC hfr ho hnC hrC j4 vs J4 t own
        intro j4 vs J4 t cnC ⟨hpC,helC,hsC⟩ hxC hfr
        simp only [V3] at hfr
        refine heC _ _ ?_
        simp only [V0,sevalprocAttr,hfr]
        have hsC:=hsC.done hr0 (by clear hxC; omega) (by clear hxC; have:=hpC.length_eq; omega) hxC cnC.1
        clear hxC
        rw [show i2 - 1+1=i2 by omega] at hsC
        have e7:wrapI .i64 ((c:Int) - (i2:Int))=((c - i2:Nat):Int):=we
        by_cases h3:(2:Int)<=((c - i2:Nat):Int)
        ·have e8:wrapI .i64 ((i2:Int)+1)=((i2+1:Nat):Int):=we
         simp only [V0,sevalprocAttr,hfr,L1,L2 hb hE,e7,h3,e8]
         refine zd (fun jj st=>∃ (j5:Nat) (ws:List α) (J5:yLO),n - j5<=jj/\(i2+1<=j5/\j5<=c)/\(ws.Perm xs/\Else xs ws a c/\Srt (bi r) ws a i2)/\st.own=Bk own0 b (ws.flatMap g)++J5/\Slots 133 st.t [(0,.slM d b 0 n cp 1 tg),(1,iv a),(2,iv c),(7,iv i2),(8,iv k),(10,iv j5)]) n (by omega) ⟨i2+1,_,_,by omega,by omega,⟨hpC,helC,hsC⟩,rfl,by simp only [V0,sevalprocAttr,hfr]⟩ ?_
         rintro jjD1 ⟨t,own⟩ KD1 ⟨j5,ws,J5,hjD1,cnD1,⟨hpD,helD,hsD⟩,ho,hfr⟩ hnD1 heD1 hrD1
         have keyD1:∀ (j5:Nat) (ws:List α) (J5:yLO) (t:List IV),(i2+1<=j5/\j5<=c)->(ws.Perm xs/\Else xs ws a c/\Srt (bi r) ws a i2)->Slots 133 t [(0,.slM d b 0 n cp 1 tg),(1,iv a),(2,iv c),(7,iv i2),(8,iv k),(10,iv j5)]->KD1 (.exit 6) ⟨t,Bk own0 b (ws.flatMap g)++J5⟩:=by
          clear hjD1 cnD1 hpD helD hsD hfr ho hnD1 hrD1 j5 ws J5 t own
          intro j5 ws J5 t cnD1 ⟨hpD,helD,hsD⟩ hfr
          simp only [V3] at hfr
          refine heD1 _ _ ?_
          simp only [V0,sevalprocAttr,hfr]
          have e9:wrapI .i64 ((k:Int)+1)=((k+1:Nat):Int):=we
          simp only [V0,sevalprocAttr,hfr,e9]
          exact hnA _ (5 - (k+1)) (by omega) ⟨i2,k+1,ws,_,by omega,by omega,⟨hpD,helD,hsD⟩,rfl,by simp only [V0,sevalprocAttr,hfr]⟩
         dsimp only at ho hfr
         subst ho
         simp only [V3] at hfr
         have hly:ws.length=n:=hpD.length_eq.trans hl0
         by_cases h:j5<c
         ·have hi:j5<n:=by omega
          have hj:j5 - 1<n:=by omega
          have e3:wrapI .i64 ((j5:Int) - 1)=((j5 - 1:Nat):Int):=we
          have e4:wrapI .i64 ((j5:Int)+1)=((j5+1:Nat):Int):=we
          obtain ⟨x,hx⟩:=gx (l:=ws) (i:=j5) (by omega)
          have lx:=hE.ld hx
          obtain ⟨y,hy⟩:=gx (l:=ws) (i:=j5 - 1) (by omega)
          have ly:=hE.ld hy
          have cc:=fun ownV own id=>hc m (by omega) d out ownV own id x y
          cases hlt:r x y
          ·simp only [V0,sevalprocAttr,hfr,L1,L2 hb hE,h,hi,hj,e3,hly,lx,ly,cc,hlt]
           refine ⟨by simp [comm],?_⟩
           simp only [V0,sevalprocAttr,hfr]
           exact keyD1 j5 ws _ _ cnD1 ⟨hpD,helD,hsD⟩ (by simp only [V0,sevalprocAttr,hfr])
          ·simp only [V0,sevalprocAttr,hfr,L1,L2 hb hE,h,hi,hj,e3,hly,lx,ly,cc,hlt]
           refine ⟨by simp [comm],?_⟩
           simp only [V0,sevalprocAttr,hfr,L1,L2 hb hE,h,hi,hj,e3,hly,lx,ly]
           refine ⟨by simp [comm],?_⟩
           simp only [V0,sevalprocAttr,hfr,e3,e4]
           exact hnD1 _ (n - (j5+1)) (by omega) ⟨j5+1,_,_,by omega,by omega,⟨(zt hx hy).trans hpD,helD.trans (zu (by omega) (by omega) (by omega) (by omega)),hsD.else (zu (a:=i2) (c:=c) (by omega) (by omega) (by omega) (by omega)) (.inl (zaq _))⟩,rfl,by simp only [V0,sevalprocAttr,hfr]⟩
         ·simp only [V0,sevalprocAttr,hfr,L1,L2 hb hE,h]
          exact keyD1 j5 ws _ _ cnD1 ⟨hpD,helD,hsD⟩ (by simp only [V0,sevalprocAttr,hfr])
        ·simp only [V0,sevalprocAttr,hfr,L1,L2 hb hE,e7,h3]
         have e9:wrapI .i64 ((k:Int)+1)=((k+1:Nat):Int):=we
         simp only [V0,sevalprocAttr,hfr,e9]
         exact hnA _ (5 - (k+1)) (by omega) ⟨i2,k+1,vs,_,by omega,by omega,⟨hpC,helC,hsC⟩,rfl,by simp only [V0,sevalprocAttr,hfr]⟩
       dsimp only at ho hfr
       subst ho
       simp only [V3] at hfr
       have hly:vs.length=n:=hpC.length_eq.trans hl0
       by_cases h:(1:Int)<=(j4:Int)
       ·have hi:j4<n:=by omega
        have hj:j4 - 1<n:=by omega
        have e3:wrapI .i64 ((j4:Int) - 1)=((j4 - 1:Nat):Int):=we
        have e4:True:=trivial
        obtain ⟨x,hx⟩:=gx (l:=vs) (i:=j4) (by omega)
        have lx:=hE.ld hx
        obtain ⟨y,hy⟩:=gx (l:=vs) (i:=j4 - 1) (by omega)
        have ly:=hE.ld hy
        have cc:=fun ownV own id=>hc m (by omega) d out ownV own id x y
        cases hlt:r x y
        ·simp only [V0,sevalprocAttr,hfr,L1,L2 hb hE,h,hi,hj,e3,hly,lx,ly,cc,hlt]
         refine ⟨by simp [comm],?_⟩
         simp only [V0,sevalprocAttr,hfr]
         exact keyC j4 vs _ _ cnC ⟨hpC,helC,hsC⟩ (.inr ⟨_,_,hx,hy,ZI hlt⟩) (by simp only [V0,sevalprocAttr,hfr])
        ·simp only [V0,sevalprocAttr,hfr,L1,L2 hb hE,h,hi,hj,e3,hly,lx,ly,cc,hlt]
         refine ⟨by simp [comm],?_⟩
         simp only [V0,sevalprocAttr,hfr,L1,L2 hb hE,h,hi,hj,e3,hly,lx,ly]
         refine ⟨by simp [comm],?_⟩
         simp only [V0,sevalprocAttr,hfr,e3,e4]
         have haj:a<j4:=by
          rcases Nat.lt_or_ge a j4 with h9 | h9
          ·exact h9
          ·have h9:j4=a:=Nat.le_antisymm h9 cnC.1
           exact absurd (Z9 hlt) (hpre.at hpC helC (by omega) (by omega) (by omega) (h9 ▸ hy) hx)
         exact hnC _ ((j4 - 1)) (by omega) ⟨j4 - 1,_,_,by omega,by omega,⟨(zt hx hy).trans hpC,helC.trans (zu (by omega) (by omega) (by omega) (by omega)),hsC.step hr0 haj (by omega) (by omega) hx hy (Z9 hlt)⟩,rfl,by simp only [V0,sevalprocAttr,hfr]⟩
       ·simp only [V0,sevalprocAttr,hfr,L1,L2 hb hE,h]
        exact keyC j4 vs _ _ cnC ⟨hpC,helC,hsC⟩ (.inl (by omega)) (by simp only [V0,sevalprocAttr,hfr])
      ·simp only [V0,sevalprocAttr,hfr,L1,L2 hb hE,e6,h2]
       have hsu:Srt (bi r) us a i2:=Srt.small (by omega)
       have e7:wrapI .i64 ((c:Int) - (i2:Int))=((c - i2:Nat):Int):=we
       by_cases h3:(2:Int)<=((c - i2:Nat):Int)
       ·have e8:wrapI .i64 ((i2:Int)+1)=((i2+1:Nat):Int):=we
        simp only [V0,sevalprocAttr,hfr,L1,L2 hb hE,e7,h3,e8]
        refine zd (fun jj st=>∃ (j5:Nat) (ws:List α) (J5:yLO),n - j5<=jj/\(i2+1<=j5/\j5<=c)/\(ws.Perm xs/\Else xs ws a c/\Srt (bi r) ws a i2)/\st.own=Bk own0 b (ws.flatMap g)++J5/\Slots 133 st.t [(0,.slM d b 0 n cp 1 tg),(1,iv a),(2,iv c),(7,iv i2),(8,iv k),(10,iv j5)]) n (by omega) ⟨i2+1,_,_,by omega,by omega,⟨hps,hees,hsu⟩,rfl,by simp only [V0,sevalprocAttr,hfr]⟩ ?_
        rintro jjD2 ⟨t,own⟩ KD2 ⟨j5,ws,J5,hjD2,cnD2,⟨hpD,helD,hsD⟩,ho,hfr⟩ hnD2 heD2 hrD2
        have keyD2:∀ (j5:Nat) (ws:List α) (J5:yLO) (t:List IV),(i2+1<=j5/\j5<=c)->(ws.Perm xs/\Else xs ws a c/\Srt (bi r) ws a i2)->Slots 133 t [(0,.slM d b 0 n cp 1 tg),(1,iv a),(2,iv c),(7,iv i2),(8,iv k),(10,iv j5)]->KD2 (.exit 6) ⟨t,Bk own0 b (ws.flatMap g)++J5⟩:=by
         clear hjD2 cnD2 hpD helD hsD hfr ho hnD2 hrD2 j5 ws J5 t own
         intro j5 ws J5 t cnD2 ⟨hpD,helD,hsD⟩ hfr
         simp only [V3] at hfr
         refine heD2 _ _ ?_
         simp only [V0,sevalprocAttr,hfr]
         have e9:wrapI .i64 ((k:Int)+1)=((k+1:Nat):Int):=we
         simp only [V0,sevalprocAttr,hfr,e9]
         exact hnA _ (5 - (k+1)) (by omega) ⟨i2,k+1,ws,_,by omega,by omega,⟨hpD,helD,hsD⟩,rfl,by simp only [V0,sevalprocAttr,hfr]⟩
        dsimp only at ho hfr
        subst ho
        simp only [V3] at hfr
        have hly:ws.length=n:=hpD.length_eq.trans hl0
        by_cases h:j5<c
        ·have hi:j5<n:=by omega
         have hj:j5 - 1<n:=by omega
         have e3:wrapI .i64 ((j5:Int) - 1)=((j5 - 1:Nat):Int):=we
         have e4:wrapI .i64 ((j5:Int)+1)=((j5+1:Nat):Int):=we
         obtain ⟨x,hx⟩:=gx (l:=ws) (i:=j5) (by omega)
         have lx:=hE.ld hx
         obtain ⟨y,hy⟩:=gx (l:=ws) (i:=j5 - 1) (by omega)
         have ly:=hE.ld hy
         have cc:=fun ownV own id=>hc m (by omega) d out ownV own id x y
         cases hlt:r x y
         ·simp only [V0,sevalprocAttr,hfr,L1,L2 hb hE,h,hi,hj,e3,hly,lx,ly,cc,hlt]
          refine ⟨by simp [comm],?_⟩
          simp only [V0,sevalprocAttr,hfr]
          exact keyD2 j5 ws _ _ cnD2 ⟨hpD,helD,hsD⟩ (by simp only [V0,sevalprocAttr,hfr])
         ·simp only [V0,sevalprocAttr,hfr,L1,L2 hb hE,h,hi,hj,e3,hly,lx,ly,cc,hlt]
          refine ⟨by simp [comm],?_⟩
          simp only [V0,sevalprocAttr,hfr,L1,L2 hb hE,h,hi,hj,e3,hly,lx,ly]
          refine ⟨by simp [comm],?_⟩
          simp only [V0,sevalprocAttr,hfr,e3,e4]
          exact hnD2 _ (n - (j5+1)) (by omega) ⟨j5+1,_,_,by omega,by omega,⟨(zt hx hy).trans hpD,helD.trans (zu (by omega) (by omega) (by omega) (by omega)),hsD.else (zu (a:=i2) (c:=c) (by omega) (by omega) (by omega) (by omega)) (.inl (zaq _))⟩,rfl,by simp only [V0,sevalprocAttr,hfr]⟩
        ·simp only [V0,sevalprocAttr,hfr,L1,L2 hb hE,h]
         exact keyD2 j5 ws _ _ cnD2 ⟨hpD,helD,hsD⟩ (by simp only [V0,sevalprocAttr,hfr])
       ·simp only [V0,sevalprocAttr,hfr,L1,L2 hb hE,e7,h3]
        have e9:wrapI .i64 ((k:Int)+1)=((k+1:Nat):Int):=we
        simp only [V0,sevalprocAttr,hfr,e9]
        exact hnA _ (5 - (k+1)) (by omega) ⟨i2,k+1,_,_,by omega,by omega,⟨hps,hees,hsu⟩,rfl,by simp only [V0,sevalprocAttr,hfr]⟩
   dsimp only at ho hfr
   subst ho
   simp only [V3] at hfr
   have hly:zs.length=n:=hpB.length_eq.trans hl0
   by_cases h:i2<c
   ·have hi:i2<n:=by omega
    have hj:i2 - 1<n:=by omega
    have e3:wrapI .i64 ((i2:Int) - 1)=((i2 - 1:Nat):Int):=we
    have e4:wrapI .i64 ((i2:Int)+1)=((i2+1:Nat):Int):=we
    obtain ⟨x,hx⟩:=gx (l:=zs) (i:=i2) (by omega)
    have lx:=hE.ld hx
    obtain ⟨y,hy⟩:=gx (l:=zs) (i:=i2 - 1) (by omega)
    have ly:=hE.ld hy
    have cc:=fun ownV own id=>hc m (by omega) d out ownV own id x y
    cases hlt:r x y
    ·simp only [V0,sevalprocAttr,hfr,L1,L2 hb hE,h,hi,hj,e3,hly,lx,ly,cc,hlt]
     refine ⟨by simp [comm],?_⟩
     simp only [V0,sevalprocAttr,hfr,e3,e4]
     exact hnB _ (n - (i2+1)) (by omega) ⟨i2+1,zs,_,by omega,by omega,⟨hpB,helB,hsB.ext hr0 hy hx (ZI hlt)⟩,rfl,by simp only [V0,sevalprocAttr,hfr]⟩
    ·simp only [V0,sevalprocAttr,hfr,L1,L2 hb hE,h,hi,hj,e3,hly,lx,ly,cc,hlt]
     refine ⟨by simp [comm],?_⟩
     simp only [V0,sevalprocAttr,hfr]
     exact keyB i2 zs _ _ cnB ⟨hpB,helB,hsB⟩ (by simp only [V0,sevalprocAttr,hfr])
   ·simp only [V0,sevalprocAttr,hfr,L1,L2 hb hE,h]
    refine ⟨by simp [comm],?_⟩
    simp only [V0,sevalprocAttr,hfr]
    exact keyB i2 zs _ _ cnB ⟨hpB,helB,hsB⟩ (by simp only [V0,sevalprocAttr,hfr])
  ·simp only [V0,sevalprocAttr,hfr,h5]
   refine heA _ _ ?_
   simp only [V0,sevalprocAttr,hfr,zj,res1]
   exact ⟨_,rfl,ys,_,_,rfl,rfl,hp,hel,fun h=>absurd h (by simp)⟩
 obtain ⟨v,own',h1,xs',J',w,rfl,rfl,h2⟩:=main
 exact ⟨xs',J',w,h1,h2⟩
end
end
section
section
variable {S:ySM} {α:Type} {g:α->List IV} {e:α->IV} {own0:yLO} {b d:Nat} {out:yLM} {n cp:Nat} {tg:Bool} {r:α->α->Bool} {Nc:Nat}
theorem o_brkS (hS:NoS S) (hb:b<own0.length) (hE:Elt g e 1 false) (hc:LessOK S Nc e r) (hn:n<65536) (m:Nat) (hm:Nc+n+12<=m) (ownV:yLO) (xs:List α) (J:yLO) (a c:Nat) (hl0:xs.length=n) (hac:a+12<c) (hcn:c<=n) (hP:PowOK S Nc) :
  ∃ (xs':List α) (J':yLO),(∀ id,callN Ftab S m d out ownV (Bk own0 b (xs.flatMap g)++J) id 209 [.slM d b 0 n cp 1 tg,.int .i64 (a:Int),.int .i64 (c:Int)]=some (.x,.tuple [],Bk own0 b (xs'.flatMap g)++J'))/\Mv xs xs' a c:=by
 obtain ⟨m,rfl⟩:∃ q,m=q+1:=⟨m - 1,by omega⟩
 have main:∃ v own',(∀ id,callN Ftab S (m+1) d out ownV (Bk own0 b (xs.flatMap g)++J) id 209 [.slM d b 0 n cp 1 tg,.int .i64 (a:Int),.int .i64 (c:Int)]=some (.x,v,own'))/\(v=.tuple []/\∃ (xs':List α) (J':yLO),own'=Bk own0 b (xs'.flatMap g)++J'/\Mv xs xs' a c):=by
  refine zD (i:=i209) (ns hS (by rfl)) rfl rfl (lb rfl) fun t hfr=>?_
  simp only [V2,Nat.reduceAdd,i209] at hfr
  have e1:wrapI .i64 ((c:Int) - (a:Int))=((c - a:Nat):Int):=we
  have h8:(8:Int)<=((c - a:Nat):Int):=by omega
  have hu:wrapI .u64 ((c - a:Nat):Int)=((c - a:Nat):Int):=by
   rw [zE]
   exact IntWalk.u64_in _ (by omega)
  have hpw:=hP (c - a) (by omega) (by omega) m (by omega)
  have hpl:=lenN_le (x:=c - a) (by omega) (by omega)
  have hpos:0<2 ^ lenN (c - a):=Nat.pow_pos (by omega)
  generalize 2 ^ lenN (c - a)=P at hpw hpl hpos
  have e2:wrapI .i64 (Int.tdiv ((c - a:Nat):Int) 4)=(((c - a) / 4:Nat):Int):=Z6 _ 4 (by omega)
  have e0:((4:Int)=0)=False:=eq_false (by decide)
  have hL1:4*((c - a) / 4)<=c - a:=Nat.mul_div_le _ _
  have hL2:3<=(c - a) / 4:=by omega
  generalize (c - a) / 4=L at e2 hL1 hL2
  have m2:wrapI .i64 ((L:Int)*2)=((L*2:Nat):Int):=we
  have a2:wrapI .i64 ((a:Int)+((L*2:Nat):Int))=((a+L*2:Nat):Int):=we
  have s1:wrapI .i64 (((a+L*2:Nat):Int) - 1)=((a+L*2 - 1:Nat):Int):=we
  have p1:wrapI .i64 (((a+L*2:Nat):Int)+1)=((a+L*2+1:Nat):Int):=we
  have hp1:wrapI .u64 ((P:Int) - 1)=((P - 1:Nat):Int):=by
   rw [zE,show (P:Int) - 1=((P - 1:Nat):Int) by omega]
   exact IntWalk.u64_in _ (by omega)
  simp only [i209,V0,sevalprocAttr,hfr,L1,L2 hb hE,ye,yk,ya,e0,e1,h8,hu,hpw,e2,m2,a2,s1,e_conv]
  refine zd (fun jj st=>∃ (i:Nat) (z:Int) (ys:List α) (J1:yLO),a+L*2+2 - i<=jj/\(a+L*2 - 1<=i/\i<=a+L*2+2)/\Mv xs ys a c/\st.own=Bk own0 b (ys.flatMap g)++(J++.cells [.int .u64 z]::J1)/\Slots 65 st.t [(0,.slM d b 0 n cp 1 tg),(1,iv a),(6,iv (c - a:Nat)),(7,.ptrM d (own0.length+J.length) 0),(8,.int .u64 (P:Int)),(9,iv i)]) 3 (by omega) ⟨a+L*2 - 1,_,xs,_,by omega,by omega,Mv.refl _ _ _,rfl,by simp only [V0,sevalprocAttr,hfr,e1,e2,hpw]⟩ ?_
  rintro jj ⟨t,own⟩ KA ⟨i,z,ys,J1,hjj,h1,hp,ho,hfr⟩ hnA heA hrA
  dsimp only at ho hfr
  subst ho
  simp only [V3] at hfr
  have hly:ys.length=n:=hp.perm.length_eq.trans hl0
  by_cases h:i<=a+L*2+1
  ·have i1:wrapI .i64 ((i:Int)+1)=((i+1:Nat):Int):=we
   obtain ⟨w,J2,hnx⟩:=gives_next (d:=d) (out:=out) hS hb m (by omega) (ys.flatMap g) J (J1++[.free]) z
   obtain ⟨v,hv1,hv⟩:=mask_le w P hpos (by omega)
   have hcv:wrapI .i64 (v:Int)=(v:Int):=zk rfl (by omega)
   simp only [V0,sevalprocAttr,hfr,L1,L2 hb hE,ye,yk,ya,e0,e2,m2,a2,p1,h,hnx,hp1,hv,hcv,e_conv]
   by_cases h2:c - a<=v
   ·have sv:wrapI .i64 ((v:Int) - ((c - a:Nat):Int))=((v - (c - a):Nat):Int):=we
    have o1:wrapI .i64 ((a:Int)+(((v - (c - a)):Nat):Int))=((a+(v - (c - a)):Nat):Int):=we
    have hi:i<n:=by omega
    have hj:a+(v - (c - a))<n:=by omega
    obtain ⟨x,hx⟩:=gx (l:=ys) (i:=i) (by omega)
    have lx:=hE.ld hx
    obtain ⟨y,hy⟩:=gx (l:=ys) (i:=a+(v - (c - a))) (by omega)
    have ly:=hE.ld hy
    simp only [V0,sevalprocAttr,hfr,L1,L2 hb hE,ye,yk,ya,h2,sv,o1,hi,hj,hly,lx,ly]
    refine ⟨by simp [comm],?_⟩
    simp only [V0,sevalprocAttr,hfr,i1]
    exact hnA _ (a+L*2+2 - (i+1)) (by omega) ⟨i+1,w,_,_,by omega,by omega,hp.swap (by omega) (by omega) (by omega) (by omega) (zt hx hy),rfl,by simp only [V0,sevalprocAttr,hfr]⟩
   ·have o1:wrapI .i64 ((a:Int)+((v:Nat):Int))=((a+v:Nat):Int):=we
    have hi:i<n:=by omega
    have hj:a+v<n:=by omega
    obtain ⟨x,hx⟩:=gx (l:=ys) (i:=i) (by omega)
    have lx:=hE.ld hx
    obtain ⟨y,hy⟩:=gx (l:=ys) (i:=a+v) (by omega)
    have ly:=hE.ld hy
    simp only [V0,sevalprocAttr,hfr,L1,L2 hb hE,ye,yk,ya,h2,o1,hi,hj,hly,lx,ly]
    refine ⟨by simp [comm],?_⟩
    simp only [V0,sevalprocAttr,hfr,i1]
    exact hnA _ (a+L*2+2 - (i+1)) (by omega) ⟨i+1,w,_,_,by omega,by omega,hp.swap (by omega) (by omega) (by omega) (by omega) (zt hx hy),rfl,by simp only [V0,sevalprocAttr,hfr]⟩
  ·simp only [V0,sevalprocAttr,hfr,L1,L2 hb hE,e0,e2,m2,a2,p1,h]
   refine heA _ _ ?_
   simp only [V0,sevalprocAttr,hfr,zx,zj,y6]
   exact ⟨_,rfl,rfl,ys,_,rfl,hp⟩
 obtain ⟨v,own',h1,rfl,xs',J',rfl,hp⟩:=main
 exact ⟨xs',J',h1,hp⟩
end
end
section
section
variable {S:ySM} {α:Type} {g:α->List IV} {e:α->IV} {own0:yLO} {b d:Nat} {out:yLM} {n cp:Nat} {tg:Bool} {r:α->α->Bool} {Nc:Nat}
theorem o_pdq1S (hr0:Orders (bi r)) (hS:NoS S) (hb:b<own0.length) (hE:Elt g e 1 false) (hc:LessOK S Nc e r) (hn:n<65536) (m:Nat) (hm:Nc+n+14<=m) {K:yKM} (ys:List α) (J:yLO) (t:List IV) (a c:Nat) (lim:Int) (wb wp:Bool)  (hly:ys.length=n) (hac:a<=c) (hcn:c<=n) (hfr:Slots 134 t [(0,.slM d b 0 n cp 1 tg),(1,iv (a:Nat)),(2,iv (c:Nat)),(3,.int .i64 lim),(8,.bool wb),(9,.bool wp),(10,iv (c - a:Nat))]) (hR:∀ (ys':List α) (J':yLO) (t':List IV),Mv ys ys' a c->Srt (bi r) ys' a c->K .ret ⟨t',Bk own0 b (ys'.flatMap g)++J'⟩) (hK:∀ t',12<c - a->Slots 134 t' [(0,.slM d b 0 n cp 1 tg),(1,iv (a:Nat)),(2,iv (c:Nat)),(3,.int .i64 lim),(8,.bool wb),(9,.bool wp),(10,iv (c - a:Nat))]->K .normal ⟨t',Bk own0 b (ys.flatMap g)++J⟩) :
  Ex (callN Ftab S m) d out m (i183.body.sub [1,1,0,0,0,1,0]) K ⟨t,Bk own0 b (ys.flatMap g)++J⟩:=by
 simp only [V3] at hfr
 by_cases h12:((c - a:Nat):Int)<=12
 ·obtain ⟨ys',J',hs,hp,hp2,hp3⟩:=o_insS (cp:=cp) (tg:=tg) (d:=d) (out:=out) hr0 hS hb hE hc hn m (by omega) (Bk own0 b (ys.flatMap g)++(J++[.free])) ys (J++[.free]) a c hly hac hcn
  simp only [i183,IC.sub,V0,sevalprocAttr,hfr,L1,L2 hb hE,h12,hs]
  exact hR _ _ _ ⟨hp,hp2⟩ hp3
 ·simp only [i183,IC.sub,V0,sevalprocAttr,hfr,L1,L2 hb hE,h12]
  exact hK _ (by omega) (by simp only [V0,sevalprocAttr,hfr])
theorem o_pdq2S (hr0:Orders (bi r)) (hS:NoS S) (hb:b<own0.length) (hE:Elt g e 1 false) (hc:LessOK S Nc e r) (hn:n<65536) (m:Nat) (hm:Nc+n+14<=m) {K:yKM} (ys:List α) (J:yLO) (t:List IV) (a c:Nat) (lim:Int) (wb wp:Bool) (h12:12<c - a) (hly:ys.length=n) (hac:a<=c) (hcn:c<=n) (hfr:Slots 134 t [(0,.slM d b 0 n cp 1 tg),(1,iv (a:Nat)),(2,iv (c:Nat)),(3,.int .i64 lim),(8,.bool wb),(9,.bool wp),(10,iv (c - a:Nat))]) (hR:∀ (ys':List α) (J':yLO) (t':List IV),Mv ys ys' a c->Srt (bi r) ys' a c->K .ret ⟨t',Bk own0 b (ys'.flatMap g)++J'⟩) (hK:∀ t',Slots 134 t' [(0,.slM d b 0 n cp 1 tg),(1,iv (a:Nat)),(2,iv (c:Nat)),(3,.int .i64 lim),(8,.bool wb),(9,.bool wp),(10,iv (c - a:Nat))]->K .normal ⟨t',Bk own0 b (ys.flatMap g)++J⟩) :
  Ex (callN Ftab S m) d out m (i183.body.sub [1,1,0,0,0,1,1,0]) K ⟨t,Bk own0 b (ys.flatMap g)++J⟩:=by
 simp only [V3] at hfr
 cases hz:lim==0
 ·simp only [i183,IC.sub,V0,sevalprocAttr,hfr,L1,L2 hb hE,hz]
  exact hK _ (by simp only [V0,sevalprocAttr,hfr])
 ·obtain ⟨ys',J',hs,hp,hp2,hp3⟩:=o_heapS (cp:=cp) (tg:=tg) (d:=d) (out:=out) hr0 hS hb hE hc hn m (by omega) (Bk own0 b (ys.flatMap g)++(J++[.free])) ys (J++[.free]) a c hly (by omega) hcn
  simp only [i183,IC.sub,V0,sevalprocAttr,hfr,L1,L2 hb hE,hz,hs]
  exact hR _ _ _ ⟨hp,hp2⟩ hp3
theorem o_pdq3S (hr0:Orders (bi r)) (hS:NoS S) (hb:b<own0.length) (hE:Elt g e 1 false) (hc:LessOK S Nc e r) (hn:n<65536) (m:Nat) (hm:Nc+n+14<=m) {K:yKM} (ys:List α) (J:yLO) (t:List IV) (a c:Nat) (lim:Int) (wb wp:Bool) (h12:12<c - a) (hP:PowOK S Nc) (hly:ys.length=n) (hac:a<=c) (hcn:c<=n) (hfr:Slots 134 t [(0,.slM d b 0 n cp 1 tg),(1,iv (a:Nat)),(2,iv (c:Nat)),(3,.int .i64 lim),(8,.bool wb),(9,.bool wp),(10,iv (c - a:Nat))]) (hK:∀ (lim':Int) (ys':List α) (J':yLO) t',Mv ys ys' a c->Slots 134 t' [(0,.slM d b 0 n cp 1 tg),(1,iv (a:Nat)),(2,iv (c:Nat)),(3,.int .i64 lim'),(8,.bool wb),(9,.bool wp),(10,iv (c - a:Nat))]->K .normal ⟨t',Bk own0 b (ys'.flatMap g)++J'⟩) :
  Ex (callN Ftab S m) d out m (i183.body.sub [1,1,0,0,0,1,1,1,0]) K ⟨t,Bk own0 b (ys.flatMap g)++J⟩:=by
 simp only [V3] at hfr
 cases wb with
 | true =>
  simp only [i183,IC.sub,V0,sevalprocAttr,hfr,L1,L2 hb hE,hfr]
  exact hK lim _ _ _ (Mv.refl _ _ _) (by simp only [V0,sevalprocAttr,hfr])
 | false =>
  obtain ⟨ys',J',hs,hp⟩:=o_brkS (cp:=cp) (tg:=tg) (d:=d) (out:=out) hS hb hE hc hn m (by omega) (Bk own0 b (ys.flatMap g)++(J++[.free])) ys (J++[.free]) a c hly (by omega) hcn hP
  simp only [i183,IC.sub,V0,sevalprocAttr,hfr,L1,L2 hb hE,hs]
  exact hK (wrapI .i64 (lim - 1)) _ _ _ hp (by simp only [V0,sevalprocAttr,hfr])
theorem o_pdq4S (hr0:Orders (bi r)) (hS:NoS S) (hb:b<own0.length) (hE:Elt g e 1 false) (hc:LessOK S Nc e r) (hn:n<65536) (m:Nat) (hm:Nc+n+14<=m) {K:yKM} (ys:List α) (J:yLO) (t:List IV) (a c:Nat) (lim:Int) (wb wp:Bool) (h12:12<c - a) (hly:ys.length=n) (hac:a<=c) (hcn:c<=n) (hfr:Slots 134 t [(0,.slM d b 0 n cp 1 tg),(1,iv (a:Nat)),(2,iv (c:Nat)),(3,.int .i64 lim),(8,.bool wb),(9,.bool wp),(10,iv (c - a:Nat))]) (hK:∀ (p:Nat) (w:Int) (ys':List α) (J':yLO) t',a<=p->p<c->Mv ys ys' a c->Slots 134 t' [(0,.slM d b 0 n cp 1 tg),(1,iv (a:Nat)),(2,iv (c:Nat)),(3,.int .i64 lim),(8,.bool wb),(9,.bool wp),(10,iv (c - a:Nat)),(11,iv (p:Nat)),(12,.int .i64 w)]->K .normal ⟨t',Bk own0 b (ys'.flatMap g)++J'⟩) :
  Ex (callN Ftab S m) d out m (i183.body.sub [1,1,0,0,0,1,1,1,1,0]) K ⟨t,Bk own0 b (ys.flatMap g)++J⟩:=by
 simp only [V3] at hfr
 obtain ⟨ys',J',p,w,hs,hp,h1,h2⟩:=o_pivS (cp:=cp) (tg:=tg) (d:=d) (out:=out) hS hb hE hc hn m (by omega) (Bk own0 b (ys.flatMap g)++(J++[.free])) ys (J++[.free]) a c hly (by omega) hcn
 simp only [i183,IC.sub,V0,sevalprocAttr,hfr,L1,L2 hb hE,hs]
 exact hK p w _ _ _ h1 h2 hp (by simp only [V0,sevalprocAttr,hfr])
theorem o_pdq5S (hr0:Orders (bi r)) (hS:NoS S) (hb:b<own0.length) (hE:Elt g e 1 false) (hc:LessOK S Nc e r) (hn:n<65536) (m:Nat) (hm:Nc+n+14<=m) {K:yKM} (ys:List α) (J:yLO) (t:List IV) (a c:Nat) (lim:Int) (wb wp:Bool) (p:Nat) (w:Int) (h12:12<c - a) (h1:a<=p) (h2:p<c) (hly:ys.length=n) (hac:a<=c) (hcn:c<=n) (hfr:Slots 134 t [(0,.slM d b 0 n cp 1 tg),(1,iv (a:Nat)),(2,iv (c:Nat)),(3,.int .i64 lim),(8,.bool wb),(9,.bool wp),(10,iv (c - a:Nat)),(11,iv (p:Nat)),(12,.int .i64 w)]) (hK:∀ (p:Nat) (w:Int) (ys':List α) (J':yLO) t',a<=p->p<c->Mv ys ys' a c->Slots 134 t' [(0,.slM d b 0 n cp 1 tg),(1,iv (a:Nat)),(2,iv (c:Nat)),(3,.int .i64 lim),(8,.bool wb),(9,.bool wp),(10,iv (c - a:Nat)),(11,iv (p:Nat)),(12,.int .i64 w)]->K .normal ⟨t',Bk own0 b (ys'.flatMap g)++J'⟩) :
  Ex (callN Ftab S m) d out m (i183.body.sub [1,1,0,0,0,1,1,1,1,1,0]) K ⟨t,Bk own0 b (ys.flatMap g)++J⟩:=by
 simp only [V3] at hfr
 cases hz:w==2
 ·simp only [i183,IC.sub,V0,sevalprocAttr,hfr,L1,L2 hb hE,hz]
  exact hK p w _ _ _ h1 h2 (Mv.refl _ _ _) (by simp only [V0,sevalprocAttr,hfr])
 ·obtain ⟨ys',J',hs,hp⟩:=o_revS (cp:=cp) (tg:=tg) (d:=d) (out:=out) hS hb hE hc hn m (by omega) (Bk own0 b (ys.flatMap g)++(J++[.free])) ys (J++[.free]) a c hly (by omega) hcn
  have f1:wrapI .i64 ((c:Int) - 1)=((c - 1:Nat):Int):=we
  have f2:wrapI .i64 ((p:Int) - (a:Int))=((p - a:Nat):Int):=we
  have f3:wrapI .i64 (((c - 1:Nat):Int) - ((p - a:Nat):Int))=((c - 1 - (p - a):Nat):Int):=we
  simp only [i183,IC.sub,V0,sevalprocAttr,hfr,L1,L2 hb hE,hz,hs,f1,f2,f3]
  exact hK (c - 1 - (p - a)) 1 _ _ _ (by omega) (by omega) hp (by simp only [V0,sevalprocAttr,hfr,f1,f2,f3])
theorem o_pdq6S (hr0:Orders (bi r)) (hS:NoS S) (hb:b<own0.length) (hE:Elt g e 1 false) (hc:LessOK S Nc e r) (hn:n<65536) (m:Nat) (hm:Nc+n+14<=m) {K:yKM} (ys:List α) (J:yLO) (t:List IV) (a c:Nat) (lim:Int) (wb wp:Bool) (p:Nat) (w:Int) (h12:12<c - a) (hly:ys.length=n) (hac:a<=c) (hcn:c<=n) (hpre:Pre (bi r) ys a c) (hfr:Slots 134 t [(0,.slM d b 0 n cp 1 tg),(1,iv (a:Nat)),(2,iv (c:Nat)),(3,.int .i64 lim),(8,.bool wb),(9,.bool wp),(10,iv (c - a:Nat)),(11,iv (p:Nat)),(12,.int .i64 w)]) (hR:∀ (ys':List α) (J':yLO) (t':List IV),Mv ys ys' a c->Srt (bi r) ys' a c->K .ret ⟨t',Bk own0 b (ys'.flatMap g)++J'⟩) (hK:∀ (ys':List α) (J':yLO) t',Mv ys ys' a c->Slots 134 t' [(0,.slM d b 0 n cp 1 tg),(1,iv (a:Nat)),(2,iv (c:Nat)),(3,.int .i64 lim),(8,.bool wb),(9,.bool wp),(10,iv (c - a:Nat)),(11,iv (p:Nat)),(12,.int .i64 w)]->K .normal ⟨t',Bk own0 b (ys'.flatMap g)++J'⟩) :
  Ex (callN Ftab S m) d out m (i183.body.sub [1,1,0,0,0,1,1,1,1,1,1,0]) K ⟨t,Bk own0 b (ys.flatMap g)++J⟩:=by
 simp only [V3] at hfr
 cases wb with
 | false =>
  simp only [i183,IC.sub,V0,sevalprocAttr,hfr,L1,L2 hb hE,hfr]
  exact hK _ _ _ (Mv.refl _ _ _) (by simp only [V0,sevalprocAttr,hfr])
 | true=>cases wp with
  | false =>
   simp only [i183,IC.sub,V0,sevalprocAttr,hfr,L1,L2 hb hE,hfr]
   exact hK _ _ _ (Mv.refl _ _ _) (by simp only [V0,sevalprocAttr,hfr])
  | true =>
   cases hz:w==1
   ·simp only [i183,IC.sub,V0,sevalprocAttr,hfr,L1,L2 hb hE,hz]
    exact hK _ _ _ (Mv.refl _ _ _) (by simp only [V0,sevalprocAttr,hfr])
   ·obtain ⟨ys',J',u,hs,hp,hp2,hp3⟩:=o_partS (cp:=cp) (tg:=tg) (d:=d) (out:=out) hr0 hS hb hE hc hn m (by omega) (Bk own0 b (ys.flatMap g)++(J++[.free])) ys (J++[.free]) a c hly (by omega) hcn hpre
    cases u with
    | false =>
     simp only [i183,IC.sub,V0,sevalprocAttr,hfr,L1,L2 hb hE,hz,hs]
     exact hK _ _ _ ⟨hp,hp2⟩ (by simp only [V0,sevalprocAttr,hfr])
    | true =>
     simp only [i183,IC.sub,V0,sevalprocAttr,hfr,L1,L2 hb hE,hz,hs]
     exact hR _ _ _ ⟨hp,hp2⟩ (hp3 rfl)
theorem o_pdq7S (hr0:Orders (bi r)) (hS:NoS S) (hb:b<own0.length) (hE:Elt g e 1 false) (hc:LessOK S Nc e r) (hn:n<65536) (m:Nat) (hm:Nc+n+14<=m) {K:yKM} (ys:List α) (J:yLO) (t:List IV) (a c:Nat) (lim:Int) (wb wp:Bool) (p:Nat) (w:Int) (h12:12<c - a) (h1:a<=p) (h2:p<c) (hly:ys.length=n) (hac:a<=c) (hcn:c<=n) (hpre:Pre (bi r) ys a c) (hfr:Slots 134 t [(0,.slM d b 0 n cp 1 tg),(1,iv (a:Nat)),(2,iv (c:Nat)),(3,.int .i64 lim),(8,.bool wb),(9,.bool wp),(10,iv (c - a:Nat)),(11,iv (p:Nat)),(12,.int .i64 w)]) (hX:∀ (q:Nat) (ys':List α) (J':yLO) t',a<q->q<=c->Mv ys ys' a c->Stg (bi r) ys' q c a c->Slots 134 t' [(0,.slM d b 0 n cp 1 tg),(1,iv (q:Nat)),(2,iv (c:Nat)),(3,.int .i64 lim),(8,.bool wb),(9,.bool wp)]->K (.exit 1) ⟨t',Bk own0 b (ys'.flatMap g)++J'⟩) (hK:∀ (J':yLO) t',Slots 134 t' [(0,.slM d b 0 n cp 1 tg),(1,iv (a:Nat)),(2,iv (c:Nat)),(3,.int .i64 lim),(8,.bool wb),(9,.bool wp),(10,iv (c - a:Nat)),(11,iv (p:Nat)),(12,.int .i64 w)]->K .normal ⟨t',Bk own0 b (ys.flatMap g)++J'⟩) :
  Ex (callN Ftab S m) d out m (i183.body.sub [1,1,0,0,0,1,1,1,1,1,1,1,0]) K ⟨t,Bk own0 b (ys.flatMap g)++J⟩:=by
 simp only [V3] at hfr
 by_cases h0:(0:Int)<(a:Int)
 ·have f1:wrapI .i64 ((a:Int) - 1)=((a - 1:Nat):Int):=we
  have b1:a - 1<n:=by omega
  have b2:p<n:=by omega
  obtain ⟨x,hx⟩:=gx (l:=ys) (i:=a - 1) (by omega)
  have lx:=hE.ld hx
  obtain ⟨y,hy⟩:=gx (l:=ys) (i:=p) (by omega)
  have ly:=hE.ld hy
  have cc:=fun ownV own id=>hc m (by omega) d out ownV own id x y
  cases hlt:r x y
  ·obtain ⟨ys',J',q,hs,⟨hp,hp2,pv,hpv,hdv⟩,g1,g2⟩:=o_parES (cp:=cp) (tg:=tg) (d:=d) (out:=out) hr0 hS hb hE hc hn m (by omega) (Bk own0 b (ys.flatMap g)++(J++[.free,.free])) ys (J++[.free,.free]) a c p hly h1 h2 hcn
   have hst:Stg (bi r) ys' q c a c:=by
    rw [hy] at hpv
    cases hpv
    exact Stg.low hr0 hpre (by omega) g1 g2 hx (ZI hlt) ⟨hp,hp2⟩ hdv (by have:=hp.length_eq; omega)
   simp only [i183,IC.sub,V0,sevalprocAttr,hfr,L1,L2 hb hE,h0,f1,b1,b2,lx,ly,cc,hlt]
   refine ⟨by simp [comm],?_⟩
   simp only [V0,sevalprocAttr,hfr,L1,L2 hb hE,hs]
   exact hX q _ _ _ g1 g2 ⟨hp,hp2⟩ hst (by simp only [V0,sevalprocAttr,hfr])
  ·simp only [i183,IC.sub,V0,sevalprocAttr,hfr,L1,L2 hb hE,h0,f1,b1,b2,lx,ly,cc,hlt]
   refine ⟨by simp [comm],?_⟩
   simp only [V0,sevalprocAttr,hfr,L1,L2 hb hE]
   exact hK _ _ (by simp only [V0,sevalprocAttr,hfr])
 ·simp only [i183,IC.sub,V0,sevalprocAttr,hfr,L1,L2 hb hE,h0]
  refine ⟨by simp [comm],?_⟩
  simp only [V0,sevalprocAttr,hfr,L1,L2 hb hE]
  exact hK _ _ (by simp only [V0,sevalprocAttr,hfr])
theorem o_pdq8S (hr0:Orders (bi r)) (hS:NoS S) (hb:b<own0.length) (hE:Elt g e 1 false) (hc:LessOK S Nc e r) (hn:n<65536) (m:Nat) (hm:Nc+n+14<=m) {K:yKM} (ys:List α) (J:yLO) (t:List IV) (a c:Nat) (lim:Int) (wb wp:Bool) (p:Nat) (w:Int) (h1:a<=p) (h2:p<c) (hly:ys.length=n) (hac:a<=c) (hcn:c<=n) (hfr:Slots 134 t [(0,.slM d b 0 n cp 1 tg),(1,iv (a:Nat)),(2,iv (c:Nat)),(3,.int .i64 lim),(8,.bool wb),(9,.bool wp),(10,iv (c - a:Nat)),(11,iv (p:Nat)),(12,.int .i64 w)]) (hK:∀ (q:Nat) (u:Bool) (ys':List α) (J':yLO) t',a<=q->q<c->Mv ys ys' a c->(∃ pv,DivP (bi r) ys' a c q pv)->Slots 134 t' [(0,.slM d b 0 n cp 1 tg),(1,iv (a:Nat)),(2,iv (c:Nat)),(3,.int .i64 lim),(8,.bool wb),(9,.bool wp),(10,iv (c - a:Nat)),(11,iv (p:Nat)),(12,.int .i64 w),(14,iv (q:Nat)),(15,.bool u)]->K .normal ⟨t',Bk own0 b (ys'.flatMap g)++J'⟩) :
  Ex (callN Ftab S m) d out m (i183.body.sub [1,1,0,0,0,1,1,1,1,1,1,1,1,0]) K ⟨t,Bk own0 b (ys.flatMap g)++J⟩:=by
 simp only [V3] at hfr
 obtain ⟨ys',J',q,u,hs,⟨hp,hp2,pv,_,hdv⟩,g1,g2⟩:=o_parS (cp:=cp) (tg:=tg) (d:=d) (out:=out) hS hb hE hc hn m (by omega) (Bk own0 b (ys.flatMap g)++(J++[.free])) ys (J++[.free]) a c p hly h1 h2 hcn
 simp only [i183,IC.sub,V0,sevalprocAttr,hfr,L1,L2 hb hE,hs]
 exact hK q u _ _ _ g1 g2 ⟨hp,hp2⟩ ⟨pv,hdv⟩ (by simp only [V0,sevalprocAttr,hfr])
theorem o_pdq9S (hr0:Orders (bi r)) (hS:NoS S) (hb:b<own0.length) (hE:Elt g e 1 false) (hc:LessOK S Nc e r) (hn:n<65536) (m:Nat) (hm:Nc+n+14<=m) {K:yKM} (ys:List α) (J:yLO) (t:List IV) (a c:Nat) (lim:Int) (wb wp:Bool) (p:Nat) (w:Int) (q:Nat) (u:Bool) (h1:a<=q) (h2:q<c) (hdv:∃ pv,DivP (bi r) ys a c q pv) (hpre:Pre (bi r) ys a c) (hly:ys.length=n) (hac:a<=c) (hcn:c<=n) (hfr:Slots 134 t [(0,.slM d b 0 n cp 1 tg),(1,iv (a:Nat)),(2,iv (c:Nat)),(3,.int .i64 lim),(8,.bool wb),(9,.bool wp),(10,iv (c - a:Nat)),(11,iv (p:Nat)),(12,.int .i64 w),(14,iv (q:Nat)),(15,.bool u)]) (IH:∀ (ys':List α) (J':yLO) (x y:Nat),ys'.length=n->x<=y->y<=n->y - x<c - a->Pre (bi r) ys' x y->∃ (zs:List α) (J2:yLO),(∀ id,callN Ftab S m d out (Bk own0 b (ys'.flatMap g)++J') (Bk own0 b (ys'.flatMap g)++J') id 183 [.slM d b 0 n cp 1 tg,.int .i64 ((x:Nat):Int),.int .i64 ((y:Nat):Int),.int .i64 lim]=some (.x,.tuple [],Bk own0 b (zs.flatMap g)++J2))/\Mv ys' zs x y/\Srt (bi r) zs x y) (hK:∀ (x y:Nat) (wb' wp':Bool) (ys':List α) (J':yLO) t',x<=y->y<=n->y - x<c - a->Mv ys ys' a c->Stg (bi r) ys' x y a c->Slots 134 t' [(0,.slM d b 0 n cp 1 tg),(1,iv (x:Nat)),(2,iv (y:Nat)),(3,.int .i64 lim),(8,.bool wb'),(9,.bool wp')]->K .normal ⟨t',Bk own0 b (ys'.flatMap g)++J'⟩) :
  Ex (callN Ftab S m) d out m (i183.body.sub [1,1,0,0,0,1,1,1,1,1,1,1,1,1]) K ⟨t,Bk own0 b (ys.flatMap g)++J⟩:=by
 simp only [V3] at hfr
 have e1:wrapI .i64 ((q:Int) - (a:Int))=((q - a:Nat):Int):=we
 have e2:wrapI .i64 ((c:Int) - (q:Int))=((c - q:Nat):Int):=we
 have e3:wrapI .i64 (Int.tdiv ((c - a:Nat):Int) 8)=(((c - a) / 8:Nat):Int):=Z6 _ 8 (by omega)
 have e0:((8:Int)=0)=False:=eq_false (by decide)
 have e4:wrapI .i64 ((q:Int)+1)=((q+1:Nat):Int):=we
 generalize (c - a) / 8=T at e3
 obtain ⟨pv,hdv⟩:=hdv
 by_cases hlr:q - a<c - q
 ·obtain ⟨ys',J',hs,hp,hp2⟩:=IH ys (J++[.free]) a q hly h1 (by omega) (by omega) (hpre.cut (by omega))
  have hst:=Stg.right hr0 hdv h1 hp hp2
  have hp:=hp.wide (a':=a) (c':=c) (zaq _) (by omega)
  by_cases hT:T<=q - a
  ·simp only [i183,IC.sub,V0,sevalprocAttr,hfr,L1,L2 hb hE,e0,e1,e2,e3,e4,hlr,hT,hs]
   exact hK (q+1) c true u _ _ _ (by omega) (by omega) (by omega) hp hst (by simp only [V0,sevalprocAttr,hfr,e0,e1,e2,e3,e4,hlr,hT,hs])
  ·simp only [i183,IC.sub,V0,sevalprocAttr,hfr,L1,L2 hb hE,e0,e1,e2,e3,e4,hlr,hT,hs]
   exact hK (q+1) c false u _ _ _ (by omega) (by omega) (by omega) hp hst (by simp only [V0,sevalprocAttr,hfr,e0,e1,e2,e3,e4,hlr,hT,hs])
 ·obtain ⟨ys',J',hs,hp,hp2⟩:=IH ys (J++[.free]) (q+1) c hly (by omega) hcn (by omega) hdv.pre_right
  have hst:=Stg.left hr0 hdv hpre h1 h2 hp hp2
  have hp:=hp.wide (a':=a) (c':=c) (by omega) (zaq _)
  by_cases hT:T<=c - q
  ·simp only [i183,IC.sub,V0,sevalprocAttr,hfr,L1,L2 hb hE,e0,e1,e2,e3,e4,hlr,hT,hs]
   exact hK a q true u _ _ _ (by omega) (by omega) (by omega) hp hst (by simp only [V0,sevalprocAttr,hfr,e0,e1,e2,e3,e4,hlr,hT,hs])
  ·simp only [i183,IC.sub,V0,sevalprocAttr,hfr,L1,L2 hb hE,e0,e1,e2,e3,e4,hlr,hT,hs]
   exact hK a q false u _ _ _ (by omega) (by omega) (by omega) hp hst (by simp only [V0,sevalprocAttr,hfr,e0,e1,e2,e3,e4,hlr,hT,hs])
theorem o_pdq_stepS (hr0:Orders (bi r)) (hS:NoS S) (hb:b<own0.length) (hE:Elt g e 1 false) (hc:LessOK S Nc e r) (hn:n<65536) (hP:PowOK S Nc) (k:Nat)
  (IH:∀ k',k'<k->∀ m,Nc+n+20+k'<=m->∀ (ownV:yLO) (xs:List α) (J:yLO) (a c:Nat) (lim:Int),xs.length=n->a<=c->c<=n->c - a<=k'->Pre (bi r) xs a c->∃ (xs':List α) (J':yLO),(∀ id,callN Ftab S m d out ownV (Bk own0 b (xs.flatMap g)++J) id 183 [.slM d b 0 n cp 1 tg,.int .i64 (a:Int),.int .i64 (c:Int),.int .i64 lim]=some (.x,.tuple [],Bk own0 b (xs'.flatMap g)++J'))/\Mv xs xs' a c/\Srt (bi r) xs' a c)
  (m:Nat) (hm:Nc+n+20+k<=m) (ownV:yLO) (xs:List α) (J:yLO) (a c:Nat) (lim:Int) (hl0:xs.length=n) (hac:a<=c) (hcn:c<=n) (hk:c - a<=k) (hpre:Pre (bi r) xs a c) :
  ∃ (xs':List α) (J':yLO),(∀ id,callN Ftab S m d out ownV (Bk own0 b (xs.flatMap g)++J) id 183 [.slM d b 0 n cp 1 tg,.int .i64 (a:Int),.int .i64 (c:Int),.int .i64 lim]=some (.x,.tuple [],Bk own0 b (xs'.flatMap g)++J'))/\Mv xs xs' a c/\Srt (bi r) xs' a c:=by
 obtain ⟨m,rfl⟩:∃ q,m=q+1:=⟨m - 1,by omega⟩
 have main:∃ v own',(∀ id,callN Ftab S (m+1) d out ownV (Bk own0 b (xs.flatMap g)++J) id 183 [.slM d b 0 n cp 1 tg,.int .i64 (a:Int),.int .i64 (c:Int),.int .i64 lim]=some (.x,v,own'))/\(v=.tuple []/\∃ (xs':List α) (J':yLO),own'=Bk own0 b (xs'.flatMap g)++J'/\Mv xs xs' a c/\Srt (bi r) xs' a c):=by
  refine zD (i:=i183) (ns hS (by rfl)) rfl rfl (lb rfl) fun t hfr=>?_
  simp only [V2,Nat.reduceAdd,show i183.ntmps=134 from rfl] at hfr
  rw [show i183.body=.seq (i183.body.sub [0]) (.seq (i183.body.sub [1,0]) (.block 0 (.loop (i183.body.sub [1,1,0,0])))) from rfl]
  have h0:i183.body.sub [0]=.region false 0 [⟨some 8,.mov (.const (.bool true)),none,[]⟩] []:=rfl
  have h1:i183.body.sub [1,0]=.region false 0 [⟨some 9,.mov (.const (.bool true)),none,[]⟩] []:=rfl
  generalize hB:i183.body.sub [1,1,0,0]=B
  simp only [h0,h1,V0,sevalprocAttr,hfr]
  rw [← hB]
  obtain ⟨a0,ha0⟩:∃ a0,a0=a:=⟨_,rfl⟩
  obtain ⟨c0,hc0⟩:∃ c0,c0=c:=⟨_,rfl⟩
  rw [← ha0,← hc0]
  refine zd (fun jj st=>∃ (a c:Nat) (lim:Int) (wb wp:Bool) (ys:List α) (J1:yLO),c - a<=jj/\(a<=c/\c<=n/\c - a<=k)/\(Mv xs ys a0 c0/\Stg (bi r) ys a c a0 c0)/\st.own=Bk own0 b (ys.flatMap g)++J1/\Slots 134 st.t [(0,.slM d b 0 n cp 1 tg),(1,iv (a:Nat)),(2,iv (c:Nat)),(3,.int .i64 lim),(8,.bool wb),(9,.bool wp)]) n (by omega) ⟨a,c,lim,true,true,xs,J,by omega,by omega,⟨Mv.refl _ _ _,by rw [ha0,hc0]; exact Stg.start hpre⟩,rfl,by simp only [V0,sevalprocAttr,hfr]⟩ ?_
  clear hfr h0 h1 hk hac hcn hpre ha0 hc0
  rintro jj ⟨t,own⟩ KA ⟨a,c,lim,wb,wp,ys,J1,hjj,hac,⟨hp,hsg⟩,ho,hfr⟩ hnA heA hrA
  dsimp only at ho hfr
  subst ho
  have hly:ys.length=n:=hp.perm.length_eq.trans hl0
  rw [show i183.body.sub [1,1,0,0]=.block 1 (i183.body.sub [1,1,0,0,0]) from rfl,YZ]
  rw [show i183.body.sub [1,1,0,0,0]=.seq (i183.body.sub [1,1,0,0,0,0]) (i183.body.sub [1,1,0,0,0,1]) from rfl,yN]
  refine o_pdq0 (cp:=cp) (tg:=tg) (d:=d) (out:=out) hS hb hE hc hn m (by omega) ys J1 t a c lim wb wp hly (by omega) (by omega) hfr fun t1 f1=>?_
  rw [zr]
  rw [show i183.body.sub [1,1,0,0,0,1]=.seq (i183.body.sub [1,1,0,0,0,1,0]) (i183.body.sub [1,1,0,0,0,1,1]) from rfl,yN]
  refine o_pdq1S (cp:=cp) (tg:=tg) (d:=d) (out:=out) hr0 hS hb hE hc hn m (by omega) ys J1 t1 a c lim wb wp hly (by omega) (by omega) f1 (fun zs J9 t9 h9 s9=>by
   simp only [yy,zO]
   refine hrA _ ?_
   simp only [zO,zj,y6]
   exact ⟨_,rfl,rfl,zs,_,rfl,hp.trans (h9.wide hsg.lo hsg.hi),hsg.rest zs h9 s9⟩) fun t2 h12 f2=>?_
  rw [zr]
  rw [show i183.body.sub [1,1,0,0,0,1,1]=.seq (i183.body.sub [1,1,0,0,0,1,1,0]) (i183.body.sub [1,1,0,0,0,1,1,1]) from rfl,yN]
  refine o_pdq2S (cp:=cp) (tg:=tg) (d:=d) (out:=out) hr0 hS hb hE hc hn m (by omega) ys J1 t2 a c lim wb wp h12 hly (by omega) (by omega) f2 (fun zs J9 t9 h9 s9=>by
   simp only [yy,zO]
   refine hrA _ ?_
   simp only [zO,zj,y6]
   exact ⟨_,rfl,rfl,zs,_,rfl,hp.trans (h9.wide hsg.lo hsg.hi),hsg.rest zs h9 s9⟩) fun t3 f3=>?_
  rw [zr]
  rw [show i183.body.sub [1,1,0,0,0,1,1,1]=.seq (i183.body.sub [1,1,0,0,0,1,1,1,0]) (i183.body.sub [1,1,0,0,0,1,1,1,1]) from rfl,yN]
  refine o_pdq3S (cp:=cp) (tg:=tg) (d:=d) (out:=out) hr0 hS hb hE hc hn m (by omega) ys J1 t3 a c lim wb wp h12 hP hly (by omega) (by omega) f3 fun lim4 ys4 J4 t4 p4 f4=>?_
  have hl4:ys4.length=n:=p4.perm.length_eq.trans hly
  rw [zr]
  rw [show i183.body.sub [1,1,0,0,0,1,1,1,1]=.seq (i183.body.sub [1,1,0,0,0,1,1,1,1,0]) (i183.body.sub [1,1,0,0,0,1,1,1,1,1]) from rfl,yN]
  refine o_pdq4S (cp:=cp) (tg:=tg) (d:=d) (out:=out) hr0 hS hb hE hc hn m (by omega) ys4 J4 t4 a c lim4 wb wp h12 hl4 (by omega) (by omega) f4 fun p w ys5 J5 t5 g1 g2 p5 f5=>?_
  have hl5:ys5.length=n:=p5.perm.length_eq.trans hl4
  rw [zr]
  rw [show i183.body.sub [1,1,0,0,0,1,1,1,1,1]=.seq (i183.body.sub [1,1,0,0,0,1,1,1,1,1,0]) (i183.body.sub [1,1,0,0,0,1,1,1,1,1,1]) from rfl,yN]
  refine o_pdq5S (cp:=cp) (tg:=tg) (d:=d) (out:=out) hr0 hS hb hE hc hn m (by omega) ys5 J5 t5 a c lim4 wb wp p w h12 g1 g2 hl5 (by omega) (by omega) f5 fun p w ys6 J6 t6 g1 g2 p6 f6=>?_
  have hl6:ys6.length=n:=p6.perm.length_eq.trans hl5
  have hm6:Mv ys ys6 a c:=p4.trans (p5.trans p6)
  rw [zr]
  rw [show i183.body.sub [1,1,0,0,0,1,1,1,1,1,1]=.seq (i183.body.sub [1,1,0,0,0,1,1,1,1,1,1,0]) (i183.body.sub [1,1,0,0,0,1,1,1,1,1,1,1]) from rfl,yN]
  refine o_pdq6S (cp:=cp) (tg:=tg) (d:=d) (out:=out) hr0 hS hb hE hc hn m (by omega) ys6 J6 t6 a c lim4 wb wp p w h12 hl6 (by omega) (by omega) (hsg.move hm6).pre f6 (fun zs J9 t9 h9 s9=>by
   simp only [yy,zO]
   refine hrA _ ?_
   simp only [zO,zj,y6]
   exact ⟨_,rfl,rfl,zs,_,rfl,hp.trans ((hm6.trans h9).wide hsg.lo hsg.hi),hsg.rest zs (hm6.trans h9) s9⟩) fun ys7 J7 t7 p7 f7=>?_
  have hl7:ys7.length=n:=p7.perm.length_eq.trans hl6
  have hm7:Mv ys ys7 a c:=hm6.trans p7
  have hg7:Stg (bi r) ys7 a c a0 c0:=hsg.move hm7
  have hp7:Mv xs ys7 a0 c0:=hp.trans (hm7.wide hsg.lo hsg.hi)
  rw [zr]
  rw [show i183.body.sub [1,1,0,0,0,1,1,1,1,1,1,1]=.seq (i183.body.sub [1,1,0,0,0,1,1,1,1,1,1,1,0]) (i183.body.sub [1,1,0,0,0,1,1,1,1,1,1,1,1]) from rfl,yN]
  refine o_pdq7S (cp:=cp) (tg:=tg) (d:=d) (out:=out) hr0 hS hb hE hc hn m (by omega) ys7 J7 t7 a c lim4 wb wp p w h12 g1 g2 hl7 (by omega) (by omega) hg7.pre f7 (fun q zs J9 t9 x1 x2 h9 s9 f9=>?_) fun J8 t8 f8=>?_
  ·simp only [Zg,Zh,if_true]
   exact hnA _ (c - q) (by omega) ⟨q,c,lim4,wb,wp,zs,_,zaq _,by omega,⟨hp7.trans (h9.wide hg7.lo hg7.hi),hg7.trans h9 s9⟩,rfl,f9⟩
  rw [zr]
  rw [show i183.body.sub [1,1,0,0,0,1,1,1,1,1,1,1,1]=.seq (i183.body.sub [1,1,0,0,0,1,1,1,1,1,1,1,1,0]) (i183.body.sub [1,1,0,0,0,1,1,1,1,1,1,1,1,1]) from rfl,yN]
  refine o_pdq8S (cp:=cp) (tg:=tg) (d:=d) (out:=out) hr0 hS hb hE hc hn m (by omega) ys7 J8 t8 a c lim4 wb wp p w g1 g2 hl7 (by omega) (by omega) f8 fun q u ys9 J9 t9 x1 x2 p9 d9 f9=>?_
  have hl9:ys9.length=n:=p9.perm.length_eq.trans hl7
  rw [zr]
  refine o_pdq9S (cp:=cp) (tg:=tg) (d:=d) (out:=out) hr0 hS hb hE hc hn m (by omega) ys9 J9 t9 a c lim4 wb wp p w q u x1 x2 d9 (hg7.move p9).pre hl9 (by omega) (by omega) f9 (fun ys' J' x y r1 r2 r3 r4 r6=>IH (y - x) (by omega) m (by omega) _ ys' J' x y lim4 r1 r2 r3 (zaq _) r6) fun x y wb' wp' zs J10 t10 r2 r3 r4 r5 s10 f10=>?_
  simp only [yO]
  exact hnA _ (y - x) (by omega) ⟨x,y,lim4,wb',wp',zs,_,zaq _,by omega,⟨hp7.trans ((p9.trans r5).wide hg7.lo hg7.hi),hg7.trans (p9.trans r5) s10⟩,rfl,f10⟩
 obtain ⟨v,own',h1,rfl,xs',J',rfl,hp⟩:=main
 exact ⟨xs',J',h1,hp⟩
theorem o_pdqS (hr0:Orders (bi r)) (hS:NoS S) (hb:b<own0.length) (hE:Elt g e 1 false) (hc:LessOK S Nc e r) (hn:n<65536) (hP:PowOK S Nc) (k:Nat):∀ (m:Nat),Nc+n+20+k<=m->∀ (ownV:yLO) (xs:List α) (J:yLO) (a c:Nat) (lim:Int),xs.length=n->a<=c->c<=n->c - a<=k->Pre (bi r) xs a c->∃ (xs':List α) (J':yLO),(∀ id,callN Ftab S m d out ownV (Bk own0 b (xs.flatMap g)++J) id 183 [.slM d b 0 n cp 1 tg,.int .i64 (a:Int),.int .i64 (c:Int),.int .i64 lim]=some (.x,.tuple [],Bk own0 b (xs'.flatMap g)++J'))/\Mv xs xs' a c/\Srt (bi r) xs' a c:=by
 induction k using Nat.strongRecOn with
 | ind k ih=>exact fun m hm ownV xs J a c lim h1 h2 h3 h4 h5=>o_pdq_stepS hr0 hS hb hE hc hn hP k ih m hm ownV xs J a c lim h1 h2 h3 h4 h5
end
end
section
section
variable {S:ySM} {α:Type} {g:α->List IV} {e:α->IV} {own0:yLO} {b d:Nat} {out:yLM} {n cp:Nat} {tg:Bool} {r:α->α->Bool} {Nc:Nat}
theorem o_sortS (hr0:Orders (bi r)) (hS:NoS S) (hb:b<own0.length) (hE:Elt g e 1 false) (hc:LessOK S Nc e r) (hn:n<65536) (m:Nat) (hm:Nc+2*n+24<=m) (ownV:yLO) (xs:List α) (J:yLO)  (hl0:xs.length=n) (hP:PowOK S Nc) (hL:LenOK S Nc) :
  ∃ (xs':List α) (J':yLO),(∀ id,callN Ftab S m d out ownV (Bk own0 b (xs.flatMap g)++J) id 151 [.slM d b 0 n cp 1 tg]=some (.x,.tuple [],Bk own0 b (xs'.flatMap g)++J'))/\xs'.Perm xs/\Srt (bi r) xs' 0 n:=by
 obtain ⟨m,rfl⟩:∃ q,m=q+1:=⟨m - 1,by omega⟩
 have main:∃ v own',(∀ id,callN Ftab S (m+1) d out ownV (Bk own0 b (xs.flatMap g)++J) id 151 [.slM d b 0 n cp 1 tg]=some (.x,v,own'))/\(v=.tuple []/\∃ (xs':List α) (J':yLO),own'=Bk own0 b (xs'.flatMap g)++J'/\xs'.Perm xs/\Srt (bi r) xs' 0 n):=by
  refine zD (i:=i151) (ns hS (by rfl)) rfl rfl (lb rfl) fun t hfr=>?_
  simp only [V2,Nat.reduceAdd,i151] at hfr
  have hu:wrapI .u64 (n:Int)=(n:Int):=by
   rw [zE]
   exact IntWalk.u64_in _ (by omega)
  have hlen:=hL n (by omega) m (by omega)
  obtain ⟨ys',J',hs,hp,hp2⟩:=o_pdqS (cp:=cp) (tg:=tg) (d:=d) (out:=out) hr0 hS hb hE hc hn hP n m (by omega) (Bk own0 b (xs.flatMap g)++(J++[.free,.free])) xs (J++[.free,.free]) 0 n (lenN n:Int) hl0 (Nat.zero_le _) (zaq _) (by omega) (fun k x y h=>absurd h (Nat.lt_irrefl _))
  simp only [zbe] at hs
  simp only [i151,V0,sevalprocAttr,hfr,L1,L2 hb hE,hu,hlen,hs,e_conv,zx,y6]
  exact ⟨_,rfl,rfl,ys',_,rfl,hp.perm,hp2⟩
 obtain ⟨v,own',h1,rfl,xs',J',rfl,hp⟩:=main
 exact ⟨xs',J',h1,hp⟩
end
end
end Go.Proofs.YtgmifgfbnnbgjaaGreatDoor
end
