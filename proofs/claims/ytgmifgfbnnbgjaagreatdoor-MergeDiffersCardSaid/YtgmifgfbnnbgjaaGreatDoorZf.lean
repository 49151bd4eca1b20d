/-
  A part of the proof: the small machine, its simulation and its walks.
-/
import Derived.Test.YtgmifgfbnnbgjaaGreatDoorZe
set_option linter.unusedVariables false
set_option linter.unusedSimpArgs false
set_option maxRecDepth 1000000
set_option maxHeartbeats 3200000
section
namespace Go.Proofs.YtgmifgfbnnbgjaaGreatDoor
open Go Go.RowKit
section
section
variable {S:ySM} {α:Type} {g:α->List IV} {e:α->IV} {own0:yLO} {b d:Nat} {out:yLM} {n cp:Nat} {tg:Bool} {r:α->α->Bool} {Nc:Nat}
theorem o_ord2 (hS:NoS S) (hb:b<own0.length) (hE:Elt g e 1 false) (hc:LessOK S Nc e r) (hn:n<65536) (m:Nat) (hm:Nc+4<=m) (xs:List α) (J0 J:yLO) (z:Int) (i j:Nat) (hl0:xs.length=n) (hi:i<n) (hj:j<n) :
  ∃ (z':Int) (J':yLO) (p q:Nat),(∀ id,callN Ftab S m d out (Bk own0 b (xs.flatMap g)++(J0++.cells [.int .i64 z]::J)) (Bk own0 b (xs.flatMap g)++(J0++.cells [.int .i64 z]::J)) id 266 [.slM d b 0 n cp 1 tg,.int .i64 (i:Int),.int .i64 (j:Int),.ptrM d (own0.length+J0.length) 0]=some (.x,.tuple [.int .i64 (p:Int),.int .i64 (q:Int)],Bk own0 b (xs.flatMap g)++(J0++.cells [.int .i64 z']::J')))/\(p=i/\q=j∨p=j/\q=i):=by
 obtain ⟨m,rfl⟩:∃ q,m=q+1:=⟨m - 1,by omega⟩
 have main:∃ v own',(∀ id,callN Ftab S (m+1) d out (Bk own0 b (xs.flatMap g)++(J0++.cells [.int .i64 z]::J)) (Bk own0 b (xs.flatMap g)++(J0++.cells [.int .i64 z]::J)) id 266 [.slM d b 0 n cp 1 tg,.int .i64 (i:Int),.int .i64 (j:Int),.ptrM d (own0.length+J0.length) 0]=some (.x,v,own'))/\(∃ (z':Int) (J':yLO) (p q:Nat),v=.tuple [.int .i64 (p:Int),.int .i64 (q:Int)]/\own'=Bk own0 b (xs.flatMap g)++(J0++.cells [.int .i64 z']::J')/\(p=i/\q=j∨p=j/\q=i)):=by
  refine zD (i:=i266) (ns hS (by rfl)) rfl rfl (lb rfl) fun t hfr=>?_
  simp only [V2,Nat.reduceAdd,i266] at hfr
  obtain ⟨x,hx⟩:=gx (l:=xs) (i:=j) (by omega)
  have lx:=hE.ld hx
  obtain ⟨y,hy⟩:=gx (l:=xs) (i:=i) (by omega)
  have ly:=hE.ld hy
  have cc:=fun ownV own id=>hc m (by omega) d out ownV own id x y
  cases hlt:r x y
  ·simp only [i266,V0,sevalprocAttr,hfr,L1,L2 hb hE,ye,yk,ya,hi,hj,hl0,lx,ly,cc,hlt]
   refine ⟨by simp [comm],?_⟩
   simp only [V0,sevalprocAttr,hfr,L1,L2 hb hE,zj]
   exact ⟨_,rfl,z,_,i,j,rfl,rfl,.inl ⟨rfl,rfl⟩⟩
  ·simp only [i266,V0,sevalprocAttr,hfr,L1,L2 hb hE,ye,yk,ya,hi,hj,hl0,lx,ly,cc,hlt]
   refine ⟨by simp [comm],?_⟩
   simp only [V0,sevalprocAttr,hfr,L1,L2 hb hE,ye,yk,ya,zj]
   exact ⟨_,rfl,_,_,j,i,rfl,rfl,.inr ⟨rfl,rfl⟩⟩
 obtain ⟨v,own',h1,z',J',p,q,rfl,rfl,h2⟩:=main
 exact ⟨z',J',p,q,h1,h2⟩
theorem o_med (hS:NoS S) (hb:b<own0.length) (hE:Elt g e 1 false) (hc:LessOK S Nc e r) (hn:n<65536) (m:Nat) (hm:Nc+6<=m) (xs:List α) (J0 J:yLO) (z:Int) (i j k:Nat) (hl0:xs.length=n) (hi:i<n) (hj:j<n) (hkn:k<n) :
  ∃ (z':Int) (J':yLO) (p:Nat),(∀ id,callN Ftab S m d out (Bk own0 b (xs.flatMap g)++(J0++.cells [.int .i64 z]::J)) (Bk own0 b (xs.flatMap g)++(J0++.cells [.int .i64 z]::J)) id 238 [.slM d b 0 n cp 1 tg,.int .i64 (i:Int),.int .i64 (j:Int),.int .i64 (k:Int),.ptrM d (own0.length+J0.length) 0]=some (.x,.int .i64 (p:Int),Bk own0 b (xs.flatMap g)++(J0++.cells [.int .i64 z']::J')))/\(p=i∨p=j∨p=k):=by
 obtain ⟨m,rfl⟩:∃ q,m=q+1:=⟨m - 1,by omega⟩
 have main:∃ v own',(∀ id,callN Ftab S (m+1) d out (Bk own0 b (xs.flatMap g)++(J0++.cells [.int .i64 z]::J)) (Bk own0 b (xs.flatMap g)++(J0++.cells [.int .i64 z]::J)) id 238 [.slM d b 0 n cp 1 tg,.int .i64 (i:Int),.int .i64 (j:Int),.int .i64 (k:Int),.ptrM d (own0.length+J0.length) 0]=some (.x,v,own'))/\(∃ (z':Int) (J':yLO) (p:Nat),v=.int .i64 (p:Int)/\own'=Bk own0 b (xs.flatMap g)++(J0++.cells [.int .i64 z']::J')/\(p=i∨p=j∨p=k)):=by
  refine zD (i:=i238) (ns hS (by rfl)) rfl rfl (lb rfl) fun t hfr=>?_
  simp only [V2,Nat.reduceAdd,i238] at hfr
  obtain ⟨z1,J1,p1,q1,h1,g1⟩:=o_ord2 (cp:=cp) (tg:=tg) (d:=d) (out:=out) hS hb hE hc hn m (by omega) xs J0 (J++[.free]) z i j hl0 hi hj
  obtain ⟨z2,J2,p2,q2,h2,g2⟩:=o_ord2 (cp:=cp) (tg:=tg) (d:=d) (out:=out) hS hb hE hc hn m (by omega) xs J0 (J1++[.free]) z1 q1 k hl0 (by omega) hkn
  obtain ⟨z3,J3,p3,q3,h3,g3⟩:=o_ord2 (cp:=cp) (tg:=tg) (d:=d) (out:=out) hS hb hE hc hn m (by omega) xs J0 (J2++[.free]) z2 p1 p2 hl0 (by omega) (by omega)
  simp only [i238,V0,sevalprocAttr,hfr,L1,L2 hb hE,ye,yk,ya,h1,h2,h3,zj]
  exact ⟨_,rfl,z3,_,q3,rfl,rfl,by omega⟩
 obtain ⟨v,own',h1,z',J',p,rfl,rfl,h2⟩:=main
 exact ⟨z',J',p,h1,h2⟩
theorem o_medA (hS:NoS S) (hb:b<own0.length) (hE:Elt g e 1 false) (hc:LessOK S Nc e r) (hn:n<65536) (m:Nat) (hm:Nc+8<=m) (xs:List α) (J0 J:yLO) (z:Int) (i:Nat) (hl0:xs.length=n) (h0:0<i) (hi:i+1<n) :
  ∃ (z':Int) (J':yLO) (p:Nat),(∀ id,callN Ftab S m d out (Bk own0 b (xs.flatMap g)++(J0++.cells [.int .i64 z]::J)) (Bk own0 b (xs.flatMap g)++(J0++.cells [.int .i64 z]::J)) id 237 [.slM d b 0 n cp 1 tg,.int .i64 (i:Int),.ptrM d (own0.length+J0.length) 0]=some (.x,.int .i64 (p:Int),Bk own0 b (xs.flatMap g)++(J0++.cells [.int .i64 z']::J')))/\(p+1=i∨p=i∨p=i+1):=by
 obtain ⟨m,rfl⟩:∃ q,m=q+1:=⟨m - 1,by omega⟩
 have main:∃ v own',(∀ id,callN Ftab S (m+1) d out (Bk own0 b (xs.flatMap g)++(J0++.cells [.int .i64 z]::J)) (Bk own0 b (xs.flatMap g)++(J0++.cells [.int .i64 z]::J)) id 237 [.slM d b 0 n cp 1 tg,.int .i64 (i:Int),.ptrM d (own0.length+J0.length) 0]=some (.x,v,own'))/\(∃ (z':Int) (J':yLO) (p:Nat),v=.int .i64 (p:Int)/\own'=Bk own0 b (xs.flatMap g)++(J0++.cells [.int .i64 z']::J')/\(p+1=i∨p=i∨p=i+1)):=by
  refine zD (i:=i237) (ns hS (by rfl)) rfl rfl (lb rfl) fun t hfr=>?_
  simp only [V2,Nat.reduceAdd,i237] at hfr
  have e1:wrapI .i64 ((i:Int) - 1)=((i - 1:Nat):Int):=we
  have e2:wrapI .i64 ((i:Int)+1)=((i+1:Nat):Int):=we
  obtain ⟨z1,J1,p1,h1,g1⟩:=o_med (cp:=cp) (tg:=tg) (d:=d) (out:=out) hS hb hE hc hn m (by omega) xs J0 (J++[.free]) z (i - 1) i (i+1) hl0 (by omega) (by omega) hi
  simp only [i237,V0,sevalprocAttr,hfr,L1,L2 hb hE,e1,e2,h1,zj]
  exact ⟨_,rfl,z1,_,p1,rfl,rfl,by omega⟩
 obtain ⟨v,own',h1,z',J',p,rfl,rfl,h2⟩:=main
 exact ⟨z',J',p,h1,h2⟩
end
end
section
section
variable {S:ySM} {α:Type} {g:α->List IV} {e:α->IV} {own0:yLO} {b d:Nat} {out:yLM} {n cp:Nat} {tg:Bool} {r:α->α->Bool} {Nc:Nat}
theorem o_pdq0 (hS:NoS S) (hb:b<own0.length) (hE:Elt g e 1 false) (hc:LessOK S Nc e r) (hn:n<65536) (m:Nat) (hm:Nc+n+14<=m) {K:yKM} (ys:List α) (J:yLO) (t:List IV) (a c:Nat) (lim:Int) (wb wp:Bool)  (hly:ys.length=n) (hac:a<=c) (hcn:c<=n) (hfr:Slots 134 t [(0,.slM d b 0 n cp 1 tg),(1,iv (a:Nat)),(2,iv (c:Nat)),(3,.int .i64 lim),(8,.bool wb),(9,.bool wp)]) (hK:∀ t',Slots 134 t' [(0,.slM d b 0 n cp 1 tg),(1,iv (a:Nat)),(2,iv (c:Nat)),(3,.int .i64 lim),(8,.bool wb),(9,.bool wp),(10,iv (c - a:Nat))]->K .normal ⟨t',Bk own0 b (ys.flatMap g)++J⟩) :
  Ex (callN Ftab S m) d out m (i183.body.sub [1,1,0,0,0,0]) K ⟨t,Bk own0 b (ys.flatMap g)++J⟩:=by
 simp only [V3] at hfr
 have e1:wrapI .i64 ((c:Int) - (a:Int))=((c - a:Nat):Int):=we
 simp only [i183,IC.sub,V0,sevalprocAttr,hfr,e1]
 exact hK _ (by simp only [V0,sevalprocAttr,hfr])
end
end
end Go.Proofs.YtgmifgfbnnbgjaaGreatDoor
end
