/-
  A part of the proof: the small machine, its simulation and its walks.
-/
import Derived.Orders
import Derived.LoopN
import Derived.Sort.AssemblyPlain
import Derived.Shelf.SlSortCmp.Insertion
import Derived.Shelf.SlSortCmp.WholeK
import Derived.Shelf.SlSortCmp.NoneTotal
import Derived.Shelf.Slices.In.SortNone
import Derived.Shelf.Sort.Plain
import Derived.Deep.Slices
import Derived.Carry
import Derived.ProofKit
import Derived.Test.YtdacpmgnhkmnkaaGreatDoorProg
import Derived.Test.YtdacpmgnhkmnkaaGreatDoorPDa
set_option linter.unusedVariables false
set_option linter.unusedSimpArgs false
set_option linter.unusedSectionVars false
set_option linter.defProp false
set_option maxRecDepth 1000000
set_option maxHeartbeats 3200000
open Nat renaming reduceLT → Xa, reduceAdd → Xb, reduceMul → Xc, reduceLeDiff → Xd, reduceEqDiff → Xe
namespace Go.Proofs.YtdacpmgnhkmnkaaGreatDoor
section
open Go Go.RowKit
section
variable {P:Program} {d:Nat} {ah:bR} {t t':List IV} {aa aX aK bO:aU} {e:eV} {v:IV} {n0:Nat}
def n5(d:Nat)(ah:bR)(f:List aO->List aO->ko)(sl:Option Nat)(aK aa:aU)(e:eV)(v:IV)(bO:aU):Prop :=
 match e with
 |.p=>bO=aa/\∀ oV o,f oV o=some (.p,v,o)
 |.r=>bO=aa/\∀ o,f aK o=some (.r,v,o)
 |.rl l i off n=>bO=aa/\∃ c,look d ah aK l i=some (.cells c)/\∀ oV o c',look d ah oV l i=some (.cells c')->(∀ k,off<=k->k<off+n->c'[k]?=c[k]?)->f oV o=some (.rl l i off n,v,o)
 |.a=>∃ s O,sl=some s/\aa[s]?=some .free/\bO=aa.set s O/\∀ o,o[s]?=some .free->f aK o=some (.a,v,o.set s O)
 |.w l i off n=>l=d/\∃ c xs,aa[i]?=some (.cells c)/\xs.length=n/\off+n<=c.length/\bO=aa.set i (.cells (gV c off xs))/\∀ oV,f oV aa=some (.w l i off n,v,bO)
 |.k i s=>sl=some s/\∃ O,bO=(aa.set i .gone).set s O
 |.x=>True
def sK(C:Call):Prop:=∀(d:Nat)(ah:bR)(aK aa:aU)(id:Nat)(f:FuncId)(args:List IV)(e:eV)(v:IV)(bO:aU),C d ah aK aa id f args=some (e,v,bO) ->
 n5 d ah (fun oV o=>C d ah oV o id f args) (some id) aK aa e v bO
theorem Yn{f:List aO->List aO->ko}{id:Nat}{O:aO}{u:IV}(hf:∀ o,f aK o=dU o id O u)(h:f aK aa=some (e,v,bO)):n5 d ah f (some id) aK aa e v bO:=by rw[hf]at h;obtain⟨h1,rfl,rfl,rfl⟩:=yo h;refine⟨id,O,rfl,h1,rfl,fun o ho=>?_⟩;rw[hf];unfold dU;rw[ho];simp only[zi]
theorem SX{f:List aO->List aO->ko}{sl:Option Nat}{r:Option IV}(hf:∀ oV o,f oV o=r.map fun v=>(.p,v,o))(h:f aK aa=some (e,v,bO)):n5 d ah f sl aK aa e v bO:=by rw[hf]at h;obtain⟨w,rfl,hw⟩:=map_some h;cases hw;exact⟨rfl,fun oV o=>by rw[hf];rfl⟩
theorem vV:∀{n:Nat}{c c':List IV}{off:Nat},(∀ k,off<=k->k<off+n->c'[k]?=c[k]?)->bM c' off n=bM c off n
 |0,_,_,_,_=>rfl
 |n+1,c,c',off,h=>by simp only[bM];rw[h off (dz _) Ω,vV (n:=n) (off:=off+1) (fun k h1 h2=>h k Ω Ω)]
theorem GL{agg:Bool}{n:Nat}{x:bG}{sl:Option Nat}(h:dL d ah aK aa t agg n x=some (e,v,bO)):n5 d ah (fun oV o=>dL d ah oV o t agg n x) sl aK aa e v bO:=by
 unfold dL at h ⊢;cases hx:ρ t x<;>rw[hx]at h<;>simp only at h<;>first|(simp at h;done)|skip
 case ptrM l i off =>
  split at h
  ·rename_i c hc
   obtain⟨w,hw,hq⟩:=map_some h
   cases hq
   refine⟨rfl,c,hc,fun oV o c' ve hag=>?_⟩
   simp only[ve,vV hag,hw,gH]
  ·simp at h
 case ptrC cs off=>exact SX (fun oV o=>rfl) h
theorem Es{n:Nat}{x y:bG}{sl:Option Nat}(h:cL d aa t n x y=some (e,v,bO)):n5 d ah (fun _ o=>cL d o t n x y) sl aK aa e v bO:=by
 have h0:=h;unfold cL at h;split at h
 ·rename_i l i off hx;split at h
  ·rename_i c hc;split at h
   ·rename_i hh;obtain⟨hl,hn,hfit,_⟩:=hh;cases h;refine⟨hl,c,_,hc,hn,hfit,by rw[zi,zi],fun oV=>h0⟩
   ·simp at h
  ·simp at h
 ·simp at h
theorem Me{k:Nat}{x:bG}{sl:Option Nat}(h:e_len d ah aK aa t k x=some (e,v,bO)):n5 d ah (fun oV o=>e_len d ah oV o t k x) sl aK aa e v bO:=by
 unfold e_len at h ⊢;cases hx:ρ t x<;>rw[hx]at h<;>simp only at h<;>first|(simp at h;done)|skip
 case mapM l i =>
  split at h
  ·rename_i hk
   split at h
   ·rename_i ks vs bs clock hc
    cases h
    exact⟨rfl,fun o=>by simp only[bt hk,hc]⟩
   ·simp at h
  ·simp at h
 all_goals
  split at h
  ·rename_i hk
   cases h
   exact⟨rfl,fun oV o=>by simp only[bt hk]⟩
  ·simp at h
theorem Bp{zero:IV}{kt:Bool×List Nat}{ok:Bool}{x ix:bG}{sl:Option Nat}(h:fV d ah aK aa t zero kt ok x ix=some (e,v,bO)):n5 d ah (fun oV o=>fV d ah oV o t zero kt ok x ix) sl aK aa e v bO:=by
 unfold fV at h ⊢;cases hx:ρ t x<;>rw[hx]at h<;>simp only at h<;>first|(simp at h;done)|skip
 case mapM l i =>
  obtain⟨⟨e',w⟩,h1,h2⟩:=map_some h
  split at h1
  ·rename_i ks vs bs clock hc
   obtain⟨w',h3,h4⟩:=map_some h1
   cases h4
   cases h2
   exact⟨rfl,fun o=>by simp only[hc,h3,gH]⟩
  ·simp at h1
 all_goals
  obtain⟨⟨e',w⟩,h1,h2⟩:=map_some h
  obtain⟨w',h3,h4⟩:=map_some h1
  cases h4
  cases h2
  exact⟨rfl,fun oV o=>by simp only[h3,gH]⟩
theorem zc3{sz n slot:Nat}{s:IV}{new:List IV}(h:bh d n0 (look d ah aK) aa sz s new n slot=some (e,v,bO)):n5 d ah (fun oV o=>bh d n0 (look d ah oV) o sz s new n slot) (some (n0+slot)) aK aa e v bO:=by
 unfold bh at h ⊢;by_cases hn:n=0
 ·rw[bt hn]at h;simp only[bt hn];split at h<;>first|(simp at h;done)|(cases h;exact⟨rfl,fun o=>rfl⟩)
 ·rw[bC hn]at h;simp only[bC hn];cases s<;>simp only at h<;>first|(simp at h;done)|skip
  case nilsl =>
   split at h
   ·rename_i hk
    exact Yn (fun o=>by simp only[bt hk];rfl) (by simpa only[bt hk]using h)
   ·simp at h
  case slC cs len sz0 tight =>
   split at h
   ·rename_i hk
    split at h
    ·rename_i old hold
     exact Yn (fun o=>by simp only[bt hk,hold];rfl) (by simpa only[bt hk,hold]using h)
    ·simp at h
   ·simp at h
  case slM l i off len cap sz0 tight =>
   split at h
   ·rename_i hk
    split at h
    ·rename_i c hc
     split at h
     ·split at h
      ·cases h;trivial
      ·simp at h
     ·rename_i hcap
      split at h
      ·rename_i old hold
       split at h
       ·rename_i SF
        exact Yn (fun o=>by simp only[bt hk,hc,bC hcap,hold,bt SF];rfl) (by simpa only[bt hk,hc,bC hcap,hold,bt SF]using h)
       ·split at h
        ·obtain⟨_,rfl,_,rfl⟩:=za6 h
         exact⟨rfl,_,rfl⟩
        ·simp at h
      ·simp at h
    ·simp at h
   ·simp at h
theorem CY{x:bG}:∃ r:Option IV,∀ o,b8 o t x=r.map fun v=>(.p,v,o):=by
 refine⟨(b8 [] t x).map (·.2.1),fun o=>?_⟩;unfold b8;first
  |rfl
  |(simp only[jv];rfl)
  |(split<;>first|rfl|(simp only[jv];rfl)|(split<;>first|rfl|(simp only[jv];rfl)))
theorem OL{c a b:bG}:∃ r:Option IV,∀ o,dK o t c a b=r.map fun v=>(.p,v,o):=by
 refine⟨(dK [] t c a b).map (·.2.1),fun o=>?_⟩;unfold dK;first
  |rfl
  |(simp only[jv];rfl)
  |(split<;>first|rfl|(simp only[jv];rfl)|(split<;>first|rfl|(simp only[jv];rfl)))
theorem C1{z:List IV}{sz len:Nat}{ps:List (Nat×Nat×bG)}:∃ r:Option IV,∀ o,cA o t z sz len ps=r.map fun v=>(.p,v,o):=by
 refine⟨(cA [] t z sz len ps).map (·.2.1),fun o=>?_⟩;unfold cA;first
  |rfl
  |(simp only[jv];rfl)
  |(split<;>first|rfl|(simp only[jv];rfl)|(split<;>first|rfl|(simp only[jv];rfl)))
theorem IG{neg:Bool}{ks:List Nat}{x y:bG}:∃ r:Option IV,∀ o,cO o t neg ks x y=r.map fun v=>(.p,v,o):=by
 refine⟨(cO [] t neg ks x y).map (·.2.1),fun o=>?_⟩;unfold cO;first
  |rfl
  |(simp only[jv];rfl)
  |(split<;>first|rfl|(simp only[jv];rfl)|(split<;>first|rfl|(simp only[jv];rfl)))
theorem Wa{neg:Bool}{x y:bG}:∃ r:Option IV,∀ o,eP o t neg x y=r.map fun v=>(.p,v,o):=by
 refine⟨(eP [] t neg x y).map (·.2.1),fun o=>?_⟩;unfold eP;first
  |rfl
  |(simp only[jv];rfl)
  |(split<;>first|rfl|(simp only[jv];rfl)|(split<;>first|rfl|(simp only[jv];rfl)))
theorem V9{neg:Bool}{x y:bG}:∃ r:Option IV,∀ o,fI o t neg x y=r.map fun v=>(.p,v,o):=by
 refine⟨(fI [] t neg x y).map (·.2.1),fun o=>?_⟩;unfold fI;first
  |rfl
  |(simp only[jv];rfl)
  |(split<;>first|rfl|(simp only[jv];rfl)|(split<;>first|rfl|(simp only[jv];rfl)))
theorem V8{neg:Bool}{x y:bG}:∃ r:Option IV,∀ o,fH o t neg x y=r.map fun v=>(.p,v,o):=by
 refine⟨(fH [] t neg x y).map (·.2.1),fun o=>?_⟩;unfold fH;first
  |rfl
  |(simp only[jv];rfl)
  |(split<;>first|rfl|(simp only[jv];rfl)|(split<;>first|rfl|(simp only[jv];rfl)))
theorem ON{x:bG}:∃ r:Option IV,∀ o,pF o t x=r.map fun v=>(.p,v,o):=by
 refine⟨(pF [] t x).map (·.2.1),fun o=>?_⟩;unfold pF;first
  |rfl
  |(simp only[jv];rfl)
  |(split<;>first|rfl|(simp only[jv];rfl)|(split<;>first|rfl|(simp only[jv];rfl)))
theorem OO{k:IntKind}{x:bG}:∃ r:Option IV,∀ o,dM o t k x=r.map fun v=>(.p,v,o):=by
 refine⟨(dM [] t k x).map (·.2.1),fun o=>?_⟩;unfold dM;first
  |rfl
  |(simp only[jv];rfl)
  |(split<;>first|rfl|(simp only[jv];rfl)|(split<;>first|rfl|(simp only[jv];rfl)))
theorem IF{off:Nat}{x:bG}:∃ r:Option IV,∀ o,cN o t off x=r.map fun v=>(.p,v,o):=by
 refine⟨(cN [] t off x).map (·.2.1),fun o=>?_⟩;unfold cN;first
  |rfl
  |(simp only[jv];rfl)
  |(split<;>first|rfl|(simp only[jv];rfl)|(split<;>first|rfl|(simp only[jv];rfl)))
theorem IE{agg:Bool}{off n:Nat}{x:bG}:∃ r:Option IV,∀ o,cM o t agg off n x=r.map fun v=>(.p,v,o):=by
 refine⟨(cM [] t agg off n x).map (·.2.1),fun o=>?_⟩;unfold cM;first
  |rfl
  |(simp only[jv];rfl)
  |(split<;>first|rfl|(simp only[jv];rfl)|(split<;>first|rfl|(simp only[jv];rfl)))
theorem ID{sz:Nat}{x ix:bG}:∃ r:Option IV,∀ o,nH o t sz x ix=r.map fun v=>(.p,v,o):=by
 refine⟨(nH [] t sz x ix).map (·.2.1),fun o=>?_⟩;unfold nH;first
  |rfl
  |(simp only[jv];rfl)
  |(split<;>first|rfl|(simp only[jv];rfl)|(split<;>first|rfl|(simp only[jv];rfl)))
theorem C0{sz len:Nat}{x ix:bG}:∃ r:Option IV,∀ o,kO o t sz len x ix=r.map fun v=>(.p,v,o):=by
 refine⟨(kO [] t sz len x ix).map (·.2.1),fun o=>?_⟩;unfold kO;first
  |rfl
  |(simp only[jv];rfl)
  |(split<;>first|rfl|(simp only[jv];rfl)|(split<;>first|rfl|(simp only[jv];rfl)))
theorem IB{agg:Bool}{sz len:Nat}{x ix:bG}:∃ r:Option IV,∀ o,dy o t agg sz len x ix=r.map fun v=>(.p,v,o):=by
 refine⟨(dy [] t agg sz len x ix).map (·.2.1),fun o=>?_⟩;unfold dy;first
  |rfl
  |(simp only[jv];rfl)
  |(split<;>first|rfl|(simp only[jv];rfl)|(split<;>first|rfl|(simp only[jv];rfl)))
theorem CZ{x ix:bG}:∃ r:Option IV,∀ o,lS o t x ix=r.map fun v=>(.p,v,o):=by
 refine⟨(lS [] t x ix).map (·.2.1),fun o=>?_⟩;unfold lS;first
  |rfl
  |(simp only[jv];rfl)
  |(split<;>first|rfl|(simp only[jv];rfl)|(split<;>first|rfl|(simp only[jv];rfl)))
theorem vW{x:bG}{i:Nat}:∃ r:Option IV,∀ o,bg o t x i=r.map fun v=>(.p,v,o):=by
 refine⟨(bg [] t x i).map (·.2.1),fun o=>?_⟩;unfold bg;first
  |rfl
  |(simp only[jv];rfl)
  |(split<;>first|rfl|(simp only[jv];rfl)|(split<;>first|rfl|(simp only[jv];rfl)))
theorem ae6{m:Bool}{x y:bG}:∃ r:Option IV,∀ o,iW o t m x y=r.map fun v=>(.p,v,o):=by
 refine⟨(iW [] t m x y).map (·.2.1),fun o=>?_⟩;unfold iW;first
  |rfl
  |(simp only[jv];rfl)
  |(split<;>first|rfl|(simp only[jv];rfl)|(split<;>first|rfl|(simp only[jv];rfl)))
theorem Wb{x:bG}:∃ r:Option IV,∀ o,rE o t x=r.map fun v=>(.p,v,o):=by
 refine⟨(rE [] t x).map (·.2.1),fun o=>?_⟩;unfold rE;first
  |rfl
  |(simp only[jv];rfl)
  |(split<;>first|rfl|(simp only[jv];rfl)|(split<;>first|rfl|(simp only[jv];rfl)))
end
section
variable {P:Program} {C:Call} {d:Nat} {ah:bR} {t t':List IV} {aa aX aK bO:aU} {e:eV} {v:IV} {n0:Nat}
theorem yX{f:List aO->ko}{sl:Option Nat}(hq:∃ r:Option IV,∀ o,f o=r.map fun v=>(.p,v,o))(h:f aa=some (e,v,bO)):n5 d ah (fun _ o=>f o) sl aK aa e v bO:=by obtain⟨r,hr⟩:=hq;exact SX (r:=r) (fun _ o=>hr o) h
theorem Bq{z:List IV}{sz slot:Nat}{fq:Bool}{s x:bG}(h:iX d ah n0 aK aa t z sz fq s x slot=some (e,v,bO)):n5 d ah (fun oV o=>iX d ah n0 oV o t z sz fq s x slot) (some (n0+slot)) aK aa e v bO:=by
 unfold iX at h ⊢;cases fq
 ·simp only[l7,if_false]at h ⊢;split at h
  ·rename_i new n hc;have h1:=zc3 h;cases e with
   |p =>
    exfalso
    unfold bh at h
    revert h
    intro h
    split at h
    ·cases hs:ρ t s<;>rw[hs]at h<;>simp at h
    ·cases hs:ρ t s<;>rw[hs]at h<;>simp only at h<;>first|(simp at h;done)|skip
     ·split at h
      ·cases(yo h).2.1
      ·simp at h
     ·split at h
      ·split at h
       ·split at h
        ·split at h
         ·cases h
         ·simp at h
        ·split at h
         ·split at h
          ·cases(yo h).2.1
          ·split at h
           ·cases(za6 h).2.1
           ·simp at h
         ·simp at h
       ·simp at h
      ·simp at h
     ·split at h
      ·split at h
       ·cases(yo h).2.1
       ·simp at h
      ·simp at h
   |r=>exact⟨h1.1,fun o=>by simp only[hc];exact h1.2 o⟩
   |rl l i off k =>
    exfalso
    unfold bh at h
    revert h
    intro h
    split at h
    ·cases hs:ρ t s<;>rw[hs]at h<;>simp at h
    ·cases hs:ρ t s<;>rw[hs]at h<;>simp only at h<;>first|(simp at h;done)|skip
     ·split at h
      ·cases(yo h).2.1
      ·simp at h
     ·split at h
      ·split at h
       ·split at h
        ·split at h
         ·cases h
         ·simp at h
        ·split at h
         ·split at h
          ·cases(yo h).2.1
          ·split at h
           ·cases(za6 h).2.1
           ·simp at h
         ·simp at h
       ·simp at h
      ·simp at h
     ·split at h
      ·split at h
       ·cases(yo h).2.1
       ·simp at h
      ·simp at h
   |a =>
    obtain⟨q,O,g1,g2,g3,g4⟩:=h1
    exact⟨q,O,g1,g2,g3,fun o ho=>by simp only[hc];exact g4 o ho⟩
   |w l i off k =>
    exfalso
    unfold bh at h
    revert h
    intro h
    split at h
    ·cases hs:ρ t s<;>rw[hs]at h<;>simp at h
    ·cases hs:ρ t s<;>rw[hs]at h<;>simp only at h<;>first|(simp at h;done)|skip
     ·split at h
      ·cases(yo h).2.1
      ·simp at h
     ·split at h
      ·split at h
       ·split at h
        ·split at h
         ·cases h
         ·simp at h
        ·split at h
         ·split at h
          ·cases(yo h).2.1
          ·split at h
           ·cases(za6 h).2.1
           ·simp at h
         ·simp at h
       ·simp at h
      ·simp at h
     ·split at h
      ·split at h
       ·cases(yo h).2.1
       ·simp at h
      ·simp at h
   |k i s=>exact h1
   |x=>trivial
  ·simp at h
 ·simp only[if_true]at h ⊢;split at h
  ·rename_i new n hc;exact zc3 h
  ·simp at h
theorem Bo{kt:Bool×List Nat}{m k x:bG}{sl:Option Nat}(h:gF d aa t kt m k x=some (e,v,bO)):n5 d ah (fun _ o=>gF d o t kt m k x) sl aK aa e v bO:=by
 unfold gF at h;split at h
 ·split at h
  ·split at h
   ·split at h
    ·cases h;trivial
    ·cases h;trivial
    ·simp at h
   ·simp at h
  ·simp at h
 ·simp at h
theorem Mf{x:bG}{slot:Nat}(h:ff d n0 aa t x slot=some (e,v,bO)):n5 d ah (fun _ o=>ff d n0 o t x slot) (some (n0+slot)) aK aa e v bO:=by
 unfold ff at h ⊢;split at h
 ·rename_i hk;simp only[bt hk];exact Yn (fun o=>rfl) h
 ·simp at h
theorem Bn{z:List IV}{sz len slot:Nat}{ps:List (Nat×Nat×bG)}(h:gW d n0 aa t z sz len ps slot=some (e,v,bO)):n5 d ah (fun _ o=>gW d n0 o t z sz len ps slot) (some (n0+slot)) aK aa e v bO:=by
 unfold gW at h ⊢;cases hf:dh t (rep z len) ps with
 |none=>rw[hf]at h;simp at h
 |some c =>
  rw[hf]at h
  simp only at h ⊢
  split at h
  ·rename_i hk
   simp only[bt hk]
   exact Yn (fun o=>rfl) h
  ·simp at h
theorem Ea{l i off:Nat}{xs:List IV}{u:IV}(h:r7 d aa l i off xs u=some (e,v,bO)):e=.x:=by
 unfold r7 at h;split at h
 ·split at h
  ·cases h;rfl
  ·simp at h
 ·simp at h
theorem aej{z:List IV}{sz:Nat}{x:bG}(h:wY d aa t z sz x=some (e,v,bO)):e=.x:=by
 unfold wY at h;split at h
 ·cases h;rfl
 ·split at h
  ·cases h;rfl
  ·split at h
   ·exact Ea h
   ·simp at h
 ·simp at h
theorem aei{sz:Nat}{x y:bG}(h:wX d ah aK aa t sz x y=some (e,v,bO)):e=.x:=by
 unfold wX at h;split at h
 ·split at h
  ·split at h
   ·cases h;rfl
   ·exact Ea h
  ·simp at h
 ·simp at h
theorem Md{z:List IV}{sz slot:Nat}{x y:bG}(h:ud d n0 aa t z sz x y slot=some (e,v,bO)):n5 d ah (fun _ o=>ud d n0 o t z sz x y slot) (some (n0+slot)) aK aa e v bO:=by
 unfold ud at h ⊢;split at h
 ·split at h
  ·rename_i hk;simp only[bt hk];exact Yn (fun o=>rfl) h
  ·simp at h
 ·simp at h
theorem abi(hC:sK C){qQ:kA}(h:cH C d ah n0 aK aa t qQ=some (e,v,bO)):n5 d ah (fun oV o=>cH C d ah n0 oV o t qQ) (qQ.mP.map (n0+·)) aK aa e v bO:=by
 cases qQ<;>simp only[cH]at h ⊢<;>try simp only[kA.mP,gH,NC]
 case mov x=>exact SX (r:=some (ρ t x)) (fun _ o=>rfl) h
 case nilchk=>exact yX CY h
 case pick=>exact yX OL h
 case newv=>exact Yn (fun o=>rfl) h
 case box=>exact Mf h
 case build z ps=>exact SX (r:=(dh t z ps).map .agg) (fun _ o=>by simp only[jv];rfl) h
 case bslice=>exact yX C1 h
 case mslice=>exact Bn h
 case load=>exact GL h
 case store=>exact Es h
 case bin op x y=>exact SX (r:=iq op (ρ t x) (ρ t y)) (fun _ o=>rfl) h
 case eqagg=>exact yX IG h
 case eqb=>exact yX Wa h
 case eqp=>exact yX V9 h
 case eqs=>exact yX V8 h
 case un op x=>exact SX (r:=pZ op (ρ t x)) (fun _ o=>rfl) h
 case conv=>exact yX OO h
 case cstr=>exact yX ON h
 case mkfn f a b=>exact SX (r:=some (.fn f (a.map (ρ t)) (b.map (ρ t)))) (fun _ o=>rfl) h
 case mkmap=>exact Yn (fun o=>rfl) h
 case slice sz x lo hi mx=>exact SX (r:=eS sz t (ρ t x) lo hi mx) (fun _ o=>rfl) h
 case sliceS x lo hi=>exact SX (r:=lK t (ρ t x) lo hi) (fun _ o=>rfl) h
 case faddr=>exact yX IF h
 case field=>exact yX IE h
 case iaddr=>exact yX ID h
 case iaddrA=>exact yX C0 h
 case index=>exact yX IB h
 case indexS=>exact yX CZ h
 case lookup=>exact Bp h
 case mapupd=>exact Bo h
 case extract=>exact yX vW h
 case call f xs slot =>
  unfold dY at h ⊢
  split at h
  ·rename_i g first cap hq
   exact hC _ _ _ _ _ _ _ _ _ _ h
  ·simp at h
 case append=>exact Bq h
 case len=>exact Me h
 case mx=>exact yX ae6 h
 case cap=>exact yX Wb h
 case clr=>exact aej h▸trivial
 case cpy=>exact aei h▸trivial
 case mks=>exact Md h
 case fail=>simp at h
theorem yn{f:List aO->ko}(hq:∃ r:Option IV,∀ o,f o=r.map fun v=>(.p,v,o))(h:f aa=some (e,v,bO)):e=.p:=by obtain⟨r,hr⟩:=hq;rw[hr]at h;obtain⟨w,_,hw⟩:=map_some h;cases hw;rfl
theorem zdq{r:Option IV}(h:(r.map fun v=>(eV.p,v,aa))=some (e,v,bO)):e=.p:=by obtain⟨w,_,hw⟩:=map_some h;cases hw;rfl
theorem QA{qQ:kA}(hq:qQ.quiet=true)(h:cH C d ah n0 aK aa t qQ=some (e,v,bO)):e=.p:=by
 cases qQ<;>simp only[kA.quiet,l7]at hq<;>simp only[cH]at h;case mov x=>cases h;rfl
 case nilchk=>exact yn CY h
 case pick=>exact yn OL h
 case build z ps=>obtain⟨_,_,hw⟩:=map_some h;cases hw;rfl
 case bslice=>exact yn C1 h
 case bin op x y=>exact zdq h
 case eqagg=>exact yn IG h
 case eqb=>exact yn Wa h
 case eqp=>exact yn V9 h
 case eqs=>exact yn V8 h
 case un op x=>exact zdq h
 case conv=>exact yn OO h
 case cstr=>exact yn ON h
 case mkfn f a b=>cases h;rfl
 case slice sz x lo hi mx=>exact zdq h
 case sliceS x lo hi=>exact zdq h
 case faddr=>exact yn IF h
 case field=>exact yn IE h
 case iaddr=>exact yn ID h
 case iaddrA=>exact yn C0 h
 case index=>exact yn IB h
 case indexS=>exact yn CZ h
 case extract=>exact yn vW h
 case mx=>exact yn ae6 h
 case cap=>exact yn Wb h
 case fail=>simp at h
noncomputable def fR(C:Call)(d:Nat)(ah:bR)(n0:Nat)(o:dc)(t:List IV)(oV aa:aU):ko :=
 if dB t o.guard then cH C d ah n0 oV aa t o.op else some (.p,.tuple [],aa)
theorem za9{drawn:Bool}{o:dc}{st:St}:iM C d ah drawn n0 o st=(fR C d ah n0 o st.t (if drawn then b7 o.vis n0 st.aa else st.aa) st.aa).map fun r=>(r.1,⟨put st.t o.dst r.2.1,r.2.2⟩):=by
 unfold iM fR;split
 ·split
  ·rename_i e v bO he;rw[he];rfl
  ·rename_i he;rw[he];rfl
 ·rfl
theorem Qx(hC:sK C){o:dc}(h:fR C d ah n0 o t aK aa=some (e,v,bO)):n5 d ah (fR C d ah n0 o t) (o.op.mP.map (n0+·)) aK aa e v bO:=by
 unfold fR at h;split at h
 ·rename_i hw;have:fR C d ah n0 o t=fun oV ow=>cH C d ah n0 oV ow t o.op:=by funext oV ow;unfold fR;rw[bt hw]
  rw[this];exact abi hC h
 ·rename_i hw;cases h;refine⟨rfl,fun oV ow=>?_⟩;unfold fR;rw[bC hw]
theorem Qw{o:dc}(hq:o.op.quiet=true)(h:fR C d ah n0 o t aK aa=some (e,v,bO)):e=.p:=by
 unfold fR at h;split at h
 ·exact QA hq h
 ·cases h;rfl
theorem Ee{o:dc}(h:fD t t' o.reads)(hl:t.length=t'.length):fR C d ah n0 o t aK aa=fR C d ah n0 o t' aK aa:=by
 unfold fR;have h1:fD t t' o.op.tmps:=fD.left h;have h2:dB t o.guard=dB t' o.guard:=by
  cases hg:o.guard with
  |none=>rfl
  |some jb =>
   obtain⟨j,b⟩:=jb
   have h3:=h j (XI _ (by rw[hg];simp))
   rw[z6,z6]at h3
   simp only[dB]
   rw[mN,mN]at h3
   by_cases hj:j<t.length
   ·rw[cK hj,cK (hl▸hj)]at h3 ⊢
    simp only[tE]at h3
    rw[h3]
   ·rw[BZ Ω,BZ Ω]
 rw[h1.ev,h2]
end
section
variable {P:Program} {C:Call} {d:Nat} {ah:bR} {t t':List IV} {aa aX aK bO sO:aU} {e ej ei:eV} {v xj xi:IV} {n0:Nat}
theorem zp{vis:List Nat}{k:Nat}:(b7 vis n0 aa)[k]?=(aa[k]?).map fun o=>if k<n0||vis.contains (k-n0)then o else .gone:=by unfold b7;rw[zi,XM]
theorem y9{vis:List Nat}{s:Nat}{O:aO}(h:vis.contains s=false):b7 vis n0 (aa.set (n0+s) O)=b7 vis n0 aa:=by
 apply E8;intro k;rw[zp,zp,SO];by_cases hk:n0+s=k
 ·subst hk;have h1:(decide (n0+s<n0)||vis.contains (n0+s-n0))=false:=by have h2:n0+s-n0=s:=Ω;rw[h2,h,decide_eq_false Ω];rfl
  rw[bt rfl];simp only[h1,l7,if_false];by_cases hl:n0+s<aa.length
  ·rw[bt hl,cK hl];rfl
  ·rw[bC hl,BZ Ω]
 ·rw[bC hk]
theorem Dm{vis:List Nat}{l i i' o n o':Nat}{c c2 xs:List IV}(h:look d ah (b7 vis n0 aa) l i=some (.cells c))(hw:aa[i']?=some (.cells c2))(hf:o'+xs.length<=c2.length)
  (hne:(l==d&&i==i')=false∨o+n<=o'∨o'+xs.length<=o) :
  ∃ c',look d ah (b7 vis n0 (aa.set i' (.cells (gV c2 o' xs)))) l i=some (.cells c')/\∀ k,o<=k->k<o+n->c'[k]?=c[k]?:=by
 unfold look at h ⊢
 by_cases hl:l=d
 ·rw[bt hl]at h ⊢
  rw[zp]at h ⊢
  by_cases hi:i=i'
  ·subst hi
   rw[hw,gH]at h
   split at h
   ·rename_i hv
    cases h
    have hil:i<aa.length:=(cU.1 hw).1
    refine⟨_,by rw[oa hil,gH,bt hv],fun k h1 h2=>?_⟩
    rw[ZQ _ _ _ _ hf,bC]
    rcases hne with hne|hne|hne
    ·simp[hl]at hne
    ·omega
    ·omega
   ·cases h
  ·rw[nr (uE hi)]
   exact⟨c,h,fun k _ _=>rfl⟩
 ·rw[bC hl]at h ⊢
  exact⟨c,h,fun k _ _=>rfl⟩
theorem AY{vis:List Nat}{l i i' o n o':Nat}{c c2 xs:List IV}(h:look d ah (b7 vis n0 (aa.set i' (.cells (gV c2 o' xs)))) l i=some (.cells c))(hw:aa[i']?=some (.cells c2))(hf:o'+xs.length<=c2.length)
  (hne:(l==d&&i==i')=false∨o+n<=o'∨o'+xs.length<=o) :
  ∃ c',look d ah (b7 vis n0 aa) l i=some (.cells c')/\∀ k,o<=k->k<o+n->c'[k]?=c[k]?:=by
 unfold look at h ⊢
 by_cases hl:l=d
 ·rw[bt hl]at h ⊢
  rw[zp]at h ⊢
  by_cases hi:i=i'
  ·subst hi
   have hil:i<aa.length:=(cU.1 hw).1
   rw[oa hil,gH]at h
   split at h
   ·rename_i hv
    cases h
    refine⟨_,by rw[hw,gH,bt hv],fun k h1 h2=>?_⟩
    rw[ZQ _ _ _ _ hf,bC]
    rcases hne with hne|hne|hne
    ·simp[hl]at hne
    ·omega
    ·omega
   ·cases h
  ·rw[nr (uE hi)]at h
   exact⟨c,h,fun k _ _=>rfl⟩
 ·rw[bC hl]at h ⊢
  exact⟨c,h,fun k _ _=>rfl⟩
theorem wE{vis:List Nat}{i j:Nat}(h:j≠i):(b7 vis n0 (aa.set i .gone))[j]?=(b7 vis n0 aa)[j]?:=by rw[zp,zp,nr (uE h)]
theorem zeo{vis:List Nat}{l i j:Nat}{c:List IV}(h:j≠i)(hc:look d ah (b7 vis n0 aa) l j=some (.cells c)):look d ah (b7 vis n0 (aa.set i .gone)) l j=some (.cells c):=by
 unfold look at hc ⊢;by_cases hl:l=d
 ·rw[bt hl]at hc ⊢;rw[wE h];exact hc
 ·rw[bC hl]at hc ⊢;exact hc
theorem zep{vis:List Nat}{l i j:Nat}{c:List IV}(h:j≠i)(hc:look d ah (b7 vis n0 (aa.set i .gone)) l j=some (.cells c)):look d ah (b7 vis n0 aa) l j=some (.cells c):=by
 unfold look at hc ⊢;by_cases hl:l=d
 ·rw[bt hl]at hc ⊢;rw[wE h]at hc;exact hc
 ·rw[bC hl]at hc ⊢;exact hc
theorem X5{fj fi:List aO->List aO->ko}{sj si:Option Nat}{vj vi:List Nat}(hj:∀{oV aa e v bO},fj oV aa=some (e,v,bO)->n5 d ah fj (sj.map (n0+·)) oV aa e v bO)
  (hi:∀{oV aa e v bO},fi oV aa=some (e,v,bO)->n5 d ah fi (si.map (n0+·)) oV aa e v bO) (c1:∀ s,sj=some s->vi.contains s=false) (c2:∀ s,si=some s->vj.contains s=false)
  (c3:∀ s,sj=some s->si≠some s) (h1:fj (b7 vj n0 aa) aa=some (ej,xj,bO)) (h2:fi (b7 vi n0 bO) bO=some (ei,xi,sO)) (hc:comm ej ei=true) :
  ∃ O6,fi (b7 vi n0 aa) aa=some (ei,xi,O6)/\fj (b7 vj n0 O6) O6=some (ej,xj,sO):=by
 have e1:=hj h1
 have e2:=hi h2
 by_cases hpj:ej=.p
 ·subst hpj
  obtain⟨rfl,g⟩:=e1
  exact⟨sO,h2,g _ _⟩
 by_cases hpi:ei=.p
 ·subst hpi
  obtain⟨rfl,g⟩:=e2
  exact⟨aa,g _ _,h1⟩
 have VZ:∀{s':Nat},sj.map (n0+·)=some s'->∃ s,sj=some s/\s'=n0+s:=fun h=>by obtain⟨s,hs,he⟩:=map_some h;exact⟨s,hs,he⟩
 have Ig:∀{s':Nat},si.map (n0+·)=some s'->∃ s,si=some s/\s'=n0+s:=fun h=>by obtain⟨s,hs,he⟩:=map_some h;exact⟨s,hs,he⟩
 cases ej with
 |p=>exact absurd rfl hpj
 |r =>
  obtain⟨rfl,g⟩:=e1
  cases ei with
  |p=>exact absurd rfl hpi
  |r=>obtain⟨rfl,_⟩:=e2;exact⟨_,h2,h1⟩
  |rl l i o n=>obtain⟨rfl,_⟩:=e2;exact⟨_,h2,h1⟩
  |a =>
   obtain⟨s',O,q1,q2,rfl,q4⟩:=e2
   obtain⟨s,hs,rfl⟩:=Ig q1
   refine⟨_,h2,?_⟩
   rw[y9 (c2 s hs)]
   exact g _
  |w l i o n=>simp[comm]at hc
  |k i s=>simp[comm]at hc
  |x=>simp[comm]at hc
 |rl l i o n =>
  obtain⟨rfl,c,hc1,g⟩:=e1
  cases ei with
  |p=>exact absurd rfl hpi
  |r=>obtain⟨rfl,_⟩:=e2;exact⟨_,h2,h1⟩
  |rl l i o n=>obtain⟨rfl,_⟩:=e2;exact⟨_,h2,h1⟩
  |a =>
   obtain⟨s',O,q1,q2,rfl,q4⟩:=e2
   obtain⟨s,hs,rfl⟩:=Ig q1
   refine⟨_,h2,?_⟩
   rw[y9 (c2 s hs)]
   exact g _ _ c hc1 (fun _ _ _=>rfl)
  |w l' i' o' n' =>
   obtain⟨rfl,c2',xs,q1,rfl,q3,rfl,q5⟩:=e2
   have hne:(l==l'&&i==i')=false∨o+n<=o'∨o'+xs.length<=o:=by
    simp only[comm,nu,tB,jk]at hc;rcases hc with(hc|hc)|hc
    ·exact .inl hc
    ·exact .inr (.inl hc)
    ·exact .inr (.inr hc)
   obtain⟨c',ve,hag⟩:=Dm (n:=n) hc1 q1 q3 hne
   exact⟨_,q5 _,g _ _ c' ve hag⟩
  |k i' s' =>
   obtain⟨q1,O,rfl⟩:=e2
   obtain⟨s,hs,rfl⟩:=Ig q1
   have hne:i≠i':=by simpa[comm]using hc
   refine⟨_,h2,g _ _ c ?_ (fun _ _ _=>rfl)⟩
   rw[y9 (c2 s hs)]
   exact zeo hne hc1
  |x=>simp[comm]at hc
 |a =>
  obtain⟨s',O,q1,q2,rfl,q4⟩:=e1
  obtain⟨s,hs,rfl⟩:=VZ q1
  cases ei with
  |p=>exact absurd rfl hpi
  |r =>
   obtain⟨rfl,g⟩:=e2
   rw[y9 (c1 s hs)]at g
   exact⟨_,g _,h1⟩
  |rl l i o n =>
   obtain⟨rfl,c,hc1,g⟩:=e2
   rw[y9 (c1 s hs)]at hc1
   exact⟨_,g _ _ c hc1 (fun _ _ _=>rfl),h1⟩
  |a =>
   obtain⟨s2',O2,r1,r2,rfl,r4⟩:=e2
   obtain⟨s2,hs2,rfl⟩:=Ig r1
   rw[y9 (c1 s hs)]at r4
   have hne:s≠s2:=fun h=>c3 s hs (h▸hs2)
   have ads:n0+s≠n0+s2:=Ω
   rw[nr ads]at r2
   refine⟨_,r4 _ r2,?_⟩
   rw[y9 (c2 s2 hs2),List.set_comm _ _ ads]
   exact q4 _ (by rw[nr (uE ads)];exact q2)
  |w l i o n=>simp[comm]at hc
  |k i s=>simp[comm]at hc
  |x=>simp[comm]at hc
 |w l i o n =>
  cases ei with
  |p=>exact absurd rfl hpi
  |rl l' i' o' n' =>
   obtain⟨rfl,c2',xs,q1,rfl,q3,rfl,q5⟩:=e1
   obtain⟨rfl,c,hc1,g⟩:=e2
   have hne:(l'==l&&i'==i)=false∨o'+n'<=o∨o+xs.length<=o':=by
    simp only[comm,nu,tB,jk]at hc;rcases hc with(hc|hc)|hc
    ·refine .inl ?_;simp only[VN,beq_eq_false_iff_ne]at hc ⊢;exact hc.imp (fun h=>uE h) (fun h=>uE h)
    ·exact .inr (.inr hc)
    ·exact .inr (.inl hc)
   obtain⟨c',ve,hag⟩:=AY (n:=n') hc1 q1 q3 hne
   exact⟨_,g _ _ c' ve hag,h1⟩
  |_=>simp[comm]at hc
 |k i s' =>
  obtain⟨q1,O,rfl⟩:=e1
  obtain⟨s,hs,rfl⟩:=VZ q1
  cases ei with
  |p=>exact absurd rfl hpi
  |rl l i2 o n =>
   obtain⟨rfl,c,hc1,g⟩:=e2
   have hne:i2≠i:=by simpa[comm]using hc
   rw[y9 (c1 s hs)]at hc1
   exact⟨_,g _ _ c (zep hne hc1) (fun _ _ _=>rfl),h1⟩
  |_=>simp[comm]at hc
 |x=>cases ei<;>first|exact absurd rfl hpi|simp[comm]at hc
structure xF(oj oi:dc):Prop where
 apart:BN oj oi=true
 c1:∀ s,oj.op.mP=some s->oi.vis.contains s=false
 c2:∀ s,oi.op.mP=some s->oj.vis.contains s=false
 c3:∀ s,oj.op.mP=some s->oi.op.mP≠some s
theorem II{dst:Option Nat}{v:IV}:(put t dst v).length=t.length:=by
 cases dst with
 |none=>rfl
 |some i=>rw[yd,s6]
theorem vX{dst:Option Nat}{v:IV}{l:List Nat}(h:∀ x,dst=some x->x ∉ l):fD t (put t dst v) l:=fun i hi=>by
 cases dst with
 |none=>rfl
 |some x =>
  rw[yd,z6,z6,mN,mN,nr]
  intro hx
  exact h x rfl (hx▸hi)
theorem put_comm{d1 d2:Option Nat}{v1 v2:IV}(h:∀ x,d1=some x->d2≠some x):put (put t d1 v1) d2 v2=put (put t d2 v2) d1 v1:=by
 cases d1 with
 |none=>rfl
 |some x =>
  cases d2 with
  |none=>rfl
  |some y =>
   rw[yd,yd,yd,yd,List.set_comm]
   intro hx
   exact h x rfl (by rw[hx])
theorem xF.apart'{oj oi:dc}(h:xF oj oi):(∀ x,oj.dst=some x->x ∉ oi.reads/\oi.dst≠some x)/\∀ x,oi.dst=some x->x ∉ oj.reads:=by
 have ha:=h.apart;unfold BN at ha;rw[gJ]at ha;constructor
 ·intro x hx;have h1:=ha.1;rw[hx]at h1;simp only[gJ,tB,bne_iff_ne]at h1;exact⟨fun hm=>by simp at h1;exact h1.1 hm,h1.2⟩
 ·intro x hx;have h1:=ha.2;rw[hx]at h1;simp only[tB]at h1;exact fun hm=>by simp at h1;exact h1 hm
theorem acf(hC:sK C){oj oi:dc}{st st1 st2:St}(hl:xF oj oi)(h1:iM C d ah true n0 oj st=some (ej,st1))(h2:iM C d ah true n0 oi st1=some (ei,st2))(hc:comm ej ei=true) :
  ∃ ae0,iM C d ah true n0 oi st=some (ei,ae0)/\iM C d ah true n0 oj ae0=some (ej,st2):=by
 obtain⟨a1,a2⟩:=hl.apart'
 rw[za9]at h1 h2
 obtain⟨⟨e1,v1,o1⟩,g1,k1⟩:=map_some h1
 cases k1
 obtain⟨⟨e2,v2,o2⟩,g2,k2⟩:=map_some h2
 cases k2
 simp only[if_true]at g1 g2
 have ag:∀ oV o,fR C d ah n0 oi (put st.t oj.dst v1) oV o=fR C d ah n0 oi st.t oV o:=fun oV o =>
  (Ee (vX fun x hx=>(a1 x hx).1) II.symm).symm
 rw[ag]at g2
 obtain⟨o1',r1,r2⟩:=X5 (fj:=fR C d ah n0 oj st.t) (fi:=fR C d ah n0 oi st.t) (sj:=oj.op.mP) (si:=oi.op.mP) (fun h=>Qx hC h) (fun h=>Qx hC h) hl.c1 hl.c2 hl.c3 g1 g2 hc
 refine⟨⟨put st.t oi.dst v2,o1'⟩,?_,?_⟩
 ·rw[za9]
  simp only[if_true]
  rw[r1]
  rfl
 ·rw[za9]
  simp only[if_true]
  rw[←Ee (vX a2) II.symm,r2]
  simp only[gH,fZ,qN,Ny]
  rw[put_comm fun x hx=>(a1 x hx).2]
end
inductive vw(C:Call)(d:Nat)(ah:bR)(n0:Nat)(l:List dc)(es:List eV):List Nat->St->St->Prop where
 |nil (st:St):vw C d ah n0 l es [] st st
 |cons {i:Nat} {is:List Nat} {o:dc} {e:eV} {st st1 st2:St} (ho:l[i]?=some o) (he:es[i]?=some e) (hs:iM C d ah true n0 o st=some (e,st1)) (hr:vw C d ah n0 l es is st1 st2):vw C d ah n0 l es (i::is) st st2
section
variable {C:Call} {d:Nat} {ah:bR} {n0:Nat} {l:List dc} {es:List eV}
theorem vw.front(hC:sK C){i:Nat}{post:List Nat}:∀{pre:List Nat}{st st2:St},(∀ j∈pre,∀(oj oi:dc)(ej ei:eV),l[j]?=some oj->l[i]?=some oi->es[j]?=some ej->es[i]?=some ei->xF oj oi/\comm ej ei=true)->vw C d ah n0 l es (pre++i::post) st st2->vw C d ah n0 l es (i::(pre++post)) st st2
 |[],st,st2,_,h=>h
 |j::pre,st,st2,hp,h=>by
  cases h with
  |cons ho he hs hr =>
   have ih:=vw.front hC (fun k hk=>hp k (nk _ hk)) hr
   cases ih with
   |cons A7 he2 hs2 hr2 =>
    obtain⟨hl,hc⟩:=hp j (kB ..) _ _ _ _ ho A7 he he2
    obtain⟨st',q1,q2⟩:=acf hC hl hs hs2 hc
    exact .cons A7 he2 q1 (.cons ho he q2 hr2)
end
def Fits(P:Program)(ops:Array Oper)(o:Oper)(r:dc):Prop:=r.dst=o.dst/\(∃ slot,Rj P o.op slot=some r.op)/\qH ops o.guard=some r.guard
section
variable {P:Program} {ops:Array Oper} {B:Nat} {W0:World} {C:Call} {d:Nat} {ah:bR} {n0:Nat} {Q:Exit->Act->World->Prop}
theorem zeq:∀{L:List Oper}{s s':Nat}{l:List dc},Mv P ops L s=some (l,s')->l.length=L.length/\∀(i:Nat)(o:Oper),L[i]?=some o->∃ r,l[i]?=some r/\Fits P ops o r
 |[],s,s',l,h=>by simp only[Mv,fZ,qN]at h;obtain⟨rfl,rfl⟩:=h;exact⟨rfl,fun i o h=>by simp at h⟩
 |o::rest,s,s',l,h=>by
  simp only[Mv]at h;split at h
  ·rename_i op g h1 h2;split at h
   ·rename_i l2 s2 h3;cases h;obtain⟨q1,q2⟩:=zeq h3;refine⟨by simp[q1],fun i o' hi=>?_⟩;cases i with
    |zero =>
     simp only[qU,fZ]at hi
     subst hi
     exact⟨_,rfl,rfl,⟨s,h1⟩,h2⟩
    |succ i =>
     simp only[jP]at hi ⊢
     exact q2 i o' hi
   ·simp at h
  ·simp at h
theorem H8(hC:mL P B W0 C):∀(L:List Oper)(l:List dc)(k:Nat)(st st':St)(es:List eV)(a:Act)(W:World)(β:Pl),(∀ j,L[j]?=ops[k+j]?)->l.length=L.length->(∀(i:Nat)(o:Oper),L[i]?=some o->∃ r,l[i]?=some r/\Fits P ops o r) ->
  kV C d ah false n0 l st=some (es,st')->nJ B W0 β W->TR β W st.t a.tmps->RS β (look d ah st.aa) W ->
  (∀(β':Pl)(W':World)(a':Act),TR β' W' st'.t a'.tmps->RS β' (look d ah st'.aa) W'->Fr d β W β' W'->a'.defers=a.defers->Q .normal a' W')->wpOps P ops Q (List.range' k L.length) a W
 |[],l,k,st,st',es,a,W,β,hL,hl,hf,hs,hb,ht,hR,hQ=>by
  have:l=[]:=by simpa using hl
  subst this;simp only[kV,fZ,qN]at hs;obtain⟨_,rfl⟩:=hs;simp only[dw,List.range'_zero,wpOps];exact hQ β W a ht hR (Fr.refl _ _ _) rfl
 |o::L,l,k,st,st',es,a,W,β,hL,hl,hf,hs,hb,ht,hR,hQ=>by
  cases l with
  |nil=>simp at hl
  |cons r l =>
   obtain⟨r',hr,hfit⟩:=hf 0 o rfl
   simp only[qU,fZ]at hr
   subst hr
   obtain⟨h1,⟨slot,h2⟩,h3⟩:=hfit
   simp only[kV]at hs
   split at hs
   ·rename_i e st1 he
    split at hs
    ·rename_i QJ st2 hr2
     cases hs
     rw[cu,zng,wpOps_cons]
     have hok:ops[k]?=some o:=by simpa using(hL 0).symm
     refine We hC hb hok h1 h2 h3 ht hR he fun β1 W1 a1 g1 g2 g3 g4=>?_
     refine H8 hC L l (k+1) st1 st' QJ a1 W1 β1 (fun j=>?_) (by simpa using hl) (fun i o' hi=>?_) hr2 (hb.fr g3) g1 g2 (fun β2 W2 a2 k1 k2 k3 k4=>hQ β2 W2 a2 k1 k2 (g3.trans k3) (k4.trans g4))
     ·have:=hL (j+1)
      rw[jP]at this
      rw[this]
      congr 1
      omega
     ·obtain⟨r2,q1,q2⟩:=hf (i+1) o' (by simpa using hi)
      exact⟨r2,by simpa using q1,q2⟩
    ·simp at hs
   ·simp at hs
theorem EA{b:Array Nat}{o:Oper}{j:Nat}(h:(mX b o).testBit j=true):∃ e∈o.after,Region.binds .any e=true/\(e.on=j∨(b.getD e.on 0).testBit j=true):=by
 have key:∀(l:List Edge)(s:Nat),(l.foldl (fun s e=>if Region.binds .any e then s ||| 2 ^ e.on ||| b.getD e.on 0 else s) s).testBit j=true->s.testBit j=true∨∃ e∈l,Region.binds .any e=true/\(e.on=j∨(b.getD e.on 0).testBit j=true):=by
  intro l;induction l with
  |nil=>intro s h;exact .inl h
  |cons e l ih =>
   intro s h
   rw[Xz]at h
   rcases ih _ h with h|⟨e',h1,h2⟩
   ·by_cases hb:Region.binds .any e=true
    ·rw[bt hb]at h
     rw[Nat.testBit_or,Nat.testBit_or,nu,nu]at h
     rcases h with(h|h)|h
     ·exact .inl h
     ·exact .inr ⟨e,kB ..,hb,.inl (by rw[Nat.testBit_two_pow]at h;simpa using h)⟩
     ·exact .inr ⟨e,kB ..,hb,.inr h⟩
    ·rw[bC hb]at h
     exact .inl h
   ·exact .inr ⟨e',nk _ h1,h2⟩
 unfold mX at h;rw[←Array.foldl_toList]at h;rcases key _ _ h with h|⟨e,h1,h2⟩
 ·simp at h
 ·exact⟨e,Array.mem_toList_iff.1 h1,h2⟩
structure Xr(P:Program)(ops:Array Oper)(b:Array Nat)(l:List dc)(es:List eV):Prop where
 len:l.length=ops.size
 fit:∀(i:Nat)(o:Oper),ops[i]?=some o->∃ r,l[i]?=some r/\Fits P ops o r
 loose:∀(j i:Nat)(oj oi:dc)(ej ei:eV),j<i->(b.getD i 0).testBit j=false->l[j]?=some oj->l[i]?=some oi->es[j]?=some ej->es[i]?=some ei->xF oj oi/\comm ej ei=true
 back:∀(i:Nat)(o:Oper),ops[i]?=some o->∀ e∈o.after,Region.binds .any e=true->e.on<i
 bit:∀(i:Nat)(o:Oper),ops[i]?=some o->b.getD i 0=mX b o
def rest(n:Nat)(listed:Array Bool):List Nat:=(List.range n).filter fun i=>!listed.getD i true
theorem yR{n i:Nat}{listed:Array Bool}:i∈rest n listed↔i<n/\listed.getD i true=false:=by unfold rest;simp
theorem DU{listed:Array Bool}{i k:Nat}{z:Bool}(hi:i<listed.size):(listed.setIfInBounds i true).getD k z=if k=i then true else listed.getD k z:=by
 by_cases hk:k=i
 ·subst hk;rw[bt rfl];simp[Array.getD,hi]
 ·rw[bC hk];simp only[Array.getD_eq_getD_getElem?];rw[zne (uE hk)]
theorem OC{n i:Nat}{listed:Array Bool}(hi:i<listed.size):rest n (listed.setIfInBounds i true)=(rest n listed).filter fun k=>k != i:=by
 unfold rest;rw[List.filter_filter];congr 1;funext k;rw[DU hi];by_cases hk:k=i
 ·simp[hk]
 ·simp[hk]
theorem FX{n i:Nat}{listed:Array Bool}(h:i∈rest n listed):∃ pre post,rest n listed=pre++i::post/\(∀ j∈pre,j<i)/\((rest n listed).filter fun k=>k != i)=pre++post:=by
 obtain⟨pre,post,hp⟩:=zmc h;have hs:(rest n listed).Pairwise (·<·):=List.Pairwise.filter _ List.pairwise_lt_range;rw[hp]at hs;rw[VM]at hs;obtain⟨h1,h2,h3⟩:=hs;rw[Cb]at h2;refine⟨pre,post,hp,fun j hj=>h3 j hj i (kB ..),?_⟩;rw[hp,E9,BX];have g1:pre.filter (fun k=>k != i)=pre:=zmw.2 fun j hj=>by have:=h3 j hj i (kB ..);simp;omega
 have g2:post.filter (fun k=>k != i)=post:=zmw.2 fun j hj=>by have:=h2.1 j hj;simp;omega
 rw[g1,g2];simp
theorem RX(hC:mL P B W0 C)(hE:sK C){b:Array Nat}{l:List dc}{es:List eV}(ok:Xr P ops b l es):∀(fuel:Nat)(listed:Array Bool)(st st':St)(a:Act)(W:World)(β:Pl),listed.size=ops.size->(rest ops.size listed).length=fuel ->
  (∀(i j:Nat),listed.getD i false=true->(b.getD i 0).testBit j=true->listed.getD j false=true)->vw C d ah n0 l es (rest ops.size listed) st st'->nJ B W0 β W->TR β W st.t a.tmps->RS β (look d ah st.aa) W ->
  (∀(β':Pl)(W':World)(a':Act),TR β' W' st'.t a'.tmps->RS β' (look d ah st'.aa) W'->Fr d β W β' W'->a'.defers=a.defers->Q .normal a' W')->wpAny P .any ops Q fuel listed a W
 |0,listed,st,st',a,W,β,hsz,hfu,lY,hr,hb,ht,hR,hQ=>by
  have hn:rest ops.size listed=[]:=sr.1 hfu;rw[hn]at hr;cases hr;refine⟨?_,hQ β W a ht hR (Fr.refl _ _ _) rfl⟩;unfold Region.ready;rw[znb];intro i hi;have h1:i ∉ rest ops.size listed:=by rw[hn];simp
  rw[yR]at h1;simp only[rN]at hi;have h2:listed.getD i true=true:=by
   cases h:listed.getD i true
   ·exact absurd ⟨hi,h⟩ h1
   ·rfl
  rw[h2];simp
 |fuel+1,listed,st,st',a,W,β,hsz,hfu,lY,hr,hb,ht,hR,hQ=>by
  constructor
  ·intro hnil;exfalso;cases Ng:rest ops.size listed with
   |nil=>rw[Ng]at hfu;simp at hfu
   |cons i is =>
    have hi:i∈rest ops.size listed:=by rw[Ng];exact kB ..
    have au:∀ j,j<i->listed.getD j false=true:=by
     intro j hj;have h1:i<ops.size:=(yR.1 hi).1;have hs:(rest ops.size listed).Pairwise (·<·):=List.Pairwise.filter _ List.pairwise_lt_range;rw[Ng,Cb]at hs;have h2:j ∉ rest ops.size listed:=by
      rw[Ng];intro hm;rcases fF.1 hm with rfl|hm
      ·omega
      ·have:=hs.1 j hm;omega
     rw[yR]at h2;have hjs:j<listed.size:=Ω;simp only[Array.getD,hjs,dif_pos]at h2 ⊢;cases h:listed[j]
     ·exact absurd ⟨Ω,h⟩ h2
     ·exact h
    have h1:i∈Region.ready .any ops listed:=by
     unfold Region.ready;rw[tu];refine⟨rN.2 (yR.1 hi).1,?_⟩;rw[(yR.1 hi).2,SU (yR.1 hi).1];simp only[gH,tE,BW,pX,zlx,nu,tB];intro e he;cases hb:Region.binds .any e
     ·exact .inl rfl
     ·exact .inr (au _ (ok.back i _ (SU (yR.1 hi).1) e he hb))
    rw[hnil]at h1
    simp at h1
  ·intro i hi;unfold Region.ready at hi;rw[tu]at hi;obtain⟨hi1,hi2⟩:=hi;rw[rN]at hi1;rw[gJ]at hi2;obtain⟨hi2,hi3⟩:=hi2;have hin:i∈rest ops.size listed:=yR.2 ⟨hi1,by simpa using hi2⟩;have WE:ops[i]?=some ops[i]:=SU hi1;rw[WE]at hi3;simp only[gH,tE,zlx,nu,tB]at hi3;have WL:∀ j,(b.getD i 0).testBit j=true->listed.getD j false=true:=by
    intro j hj;rw[ok.bit i _ WE]at hj;obtain⟨e,he,hbd,hh⟩:=EA hj;have h1:listed.getD e.on false=true:=(hi3 e he).resolve_left (by rw[hbd];simp);rcases hh with rfl|hh
    ·exact h1
    ·exact lY _ _ h1 hh
   obtain⟨pre,post,hsp,au,ahf⟩:=FX hin;rw[hsp]at hr;have af:=vw.front hE (fun j hj oj oi ej ei h1 h2 h3 h4=>ok.loose j i oj oi ej ei (au j hj) (by
    cases hb:(b.getD i 0).testBit j
    ·rfl
    ·have h5:=WL j hb;have h6:j∈rest ops.size listed:=by rw[hsp];exact SA _ hj
     rw[yR]at h6;have hjs:j<listed.size:=Ω;simp only[Array.getD,hjs,dif_pos]at h5 h6;rw[h5]at h6;simp at h6) h1 h2 h3 h4) hr
   cases af with
   |cons ho he hs hr2 =>
    rename_i r e st1
    obtain⟨r',hr',g1,⟨slot,g2⟩,g3⟩:=ok.fit i _ WE
    rw[ho]at hr'
    cases hr'
    have hil:i<listed.size:=Ω
    refine We hC hb WE g1 g2 g3 ht hR hs fun β1 W1 a1 k1 k2 k3 k4=>?_
    have DF:rest ops.size (listed.setIfInBounds i true)=pre++post:=by rw[OC hil,ahf]
    refine RX hC hE ok fuel _ st1 st' a1 W1 β1 (by simpa using hsz) ?_ ?_ (by rw[DF];exact hr2) (hb.fr k3) k1 k2 (fun β2 W2 a2 q1 q2 q3 q4=>hQ β2 W2 a2 q1 q2 (k3.trans q3) (q4.trans k4))
    ·rw[DF]
     rw[hsp]at hfu
     simp only[eR,cu]at hfu ⊢
     omega
    ·intro i' j' h1 h2
     rw[DU hil]at h1 ⊢
     by_cases hj:j'=i
     ·rw[bt hj]
     ·rw[bC hj]
      by_cases hii:i'=i
      ·subst hii
       exact WL j' h2
      ·rw[bC hii]at h1
       exact lY i' j' h1 h2
theorem zc4{l:List dc}{es:List eV}:∀{l':List dc}{es':List eV}{k:Nat}{st st':St},(∀ j,l'[j]?=l[k+j]?)->(∀ j,es'[j]?=es[k+j]?)->kV C d ah true n0 l' st=some (es',st')->vw C d ah n0 l es (List.range' k l'.length) st st'
 |[],es',k,st,st',hl,he,h=>by simp only[kV,fZ,qN]at h;obtain⟨rfl,rfl⟩:=h;exact .nil _
 |r::l',es',k,st,st',hl,he,h=>by
  simp only[kV]at h;split at h
  ·rename_i e st1 h1;split at h
   ·rename_i QJ st2 h2;cases h;rw[cu,zng];refine .cons (by simpa using(hl 0).symm) (by simpa using(he 0).symm) h1 (zc4 (fun j=>?_) (fun j=>?_) h2)
    ·have:=hl (j+1);rw[jP]at this;rw[this];congr 1;omega
    ·have:=he (j+1);rw[jP]at this;rw[this];congr 1;omega
   ·simp at h
  ·simp at h
end
section
variable {P:Program} {ops:Array Oper} {B:Nat} {W0:World} {C:Call} {d:Nat} {ah:bR} {n0:Nat}
theorem zer{x y:dc}(h1:BN x y=true)(h2:rW x y=true):xF x y:=by
 unfold rW at h2;rw[gJ]at h2;refine⟨h1,fun s hs=>?_,fun s hs=>?_,fun s hs=>?_⟩
 ·have:=h2.1;rw[hs]at this;simp only[gJ,tB]at this;exact this.1
 ·have:=h2.2;rw[hs]at this;simpa using this
 ·have:=h2.1;rw[hs]at this;simp only[gJ,bne_iff_ne]at this;exact this.2
theorem LD{n j i:Nat}(h:j<i)(hi:i<n):(j,i)∈pairs n:=by unfold pairs;rw[qS];exact⟨i,rN.2 hi,jA.2 ⟨j,rN.2 h,rfl⟩⟩
theorem Ci{b:Array Nat}{l:List dc}{i:Nat}{r:dc}(h:l[i]?=some r):∃ v,(iZ b l)[i]?=some { r with vis:=v }:=by unfold iZ;rw[XM,h];exact⟨_,rfl⟩
theorem zes{drawn:Bool}:∀{l:List dc}{es:List eV}{st st':St},kV C d ah drawn n0 l st=some (es,st')->∀(i:Nat)(r:dc)(e:eV),l[i]?=some r->es[i]?=some e->∃ s1 s2,iM C d ah drawn n0 r s1=some (e,s2)
 |[],es,st,st',h,i,r,e,h1,h2=>by simp at h1
 |q::l,es,st,st',h,i,r,e,h1,h2=>by
  simp only[kV]at h;split at h
  ·rename_i e1 st1 g1;split at h
   ·rename_i QJ st2 g2;cases h;cases i with
    |zero =>
     simp only[qU,fZ]at h1 h2
     subst h1 h2
     exact⟨_,_,g1⟩
    |succ i =>
     simp only[jP]at h1 h2
     exact zes g2 i r e h1 h2
   ·simp at h
  ·simp at h
theorem IA{drawn:Bool}{r:dc}{e:eV}{s1 s2:St}(hq:r.op.quiet=true)(h:iM C d ah drawn n0 r s1=some (e,s2)):e=.p:=by rw[za9]at h;obtain⟨⟨e1,v1,o1⟩,g1,k1⟩:=map_some h;cases k1;exact Qw hq g1
theorem U0{e:eV}:comm .p e=true:=by cases e<;>rfl
theorem UZ{e:eV}:comm e .p=true:=by cases e<;>rfl
theorem ac3{b:Array Nat}{l0:List dc}{s:Nat}{es:List eV}{st st':St}{drawn:Bool}(hc:Mv P ops ops.toList 0=some (l0,s))(hok:tK ops b (iZ b l0)=true)(hr:kV C d ah drawn n0 (iZ b l0) st=some (es,st'))
  (qo:((tQ b (iZ b l0).length).filter (adg (iZ b l0))).all (fun(j,i)=>comm (es.getD j .x) (es.getD i .x))=true):Xr P ops b (iZ b l0) es:=by
 obtain⟨hl,hf⟩:=zeq hc
 have hwl:(iZ b l0).length=l0.length:=by simp[iZ]
 unfold tK at hok
 rw[gJ,ot,ot]at hok
 obtain⟨k1,k2⟩:=hok
 have k2':∀(i:Nat)(o:Oper),ops[i]?=some o->(o.after.all (fun e=>!Region.binds .any e||decide (e.on<i))&&b.getD i 0==mX b o)=true:=fun i o ho=>by have:=k2 (o,i) (zli.2 (by simpa using ho));simpa using this
 refine⟨by rw[hwl,hl];simp,fun i o ho=>?_,fun j i oj oi ej ei au hb hj hi Ni hei=>?_,fun i o ho e he hbd=>?_,fun i o ho=>?_⟩
 ·obtain⟨r,h1,h2⟩:=hf i o (by simpa using ho)
  obtain⟨v,hv⟩:=Ci (b:=b) h1
  exact⟨_,hv,h2⟩
 ·have hil:i<(iZ b l0).length:=(cU.1 hi).1
  have hm:(j,i)∈tQ b (iZ b l0).length:=by unfold tQ;rw[tu];exact⟨LD au hil,by simp only[hb,BW]⟩
  have h1:=k1 _ hm
  simp only[hj,hi,gJ]at h1
  refine⟨zer h1.1 h1.2,?_⟩
  by_cases hq1:oj.op.quiet=true
  ·obtain⟨s1,s2,hs⟩:=zes hr j oj ej hj Ni
   rw[IA hq1 hs]
   exact U0
  by_cases lG:oi.op.quiet=true
  ·obtain⟨s1,s2,hs⟩:=zes hr i oi ei hi hei
   rw[IA lG hs]
   exact UZ
  rw[ot]at qo
  have h2:=qo (j,i) (tu.2 ⟨hm,by simp only[adg,hj,hi];simp[hq1,lG]⟩)
  simp only at h2
  rw[mN,mN,Ni,hei]at h2
  exact h2
 ·have:=k2' i o ho
  rw[gJ]at this
  have h3:=zlx.1 this.1 e he
  rw[hbd]at h3
  simpa using h3
 ·have:=k2' i o ho
  rw[gJ]at this
  simpa using this.2
def GG:Out->Exit
 |.normal=>.normal
 |.exit id=>.exit id
 |.ret=>.ret
def Ends(d:Nat)(ah:bR)(β:Pl)(W:World)(a:Act)(Q:Exit->Act->World->Prop)(o:Out)(st':St):Prop:=∀(β':Pl)(W':World)(a':Act),TR β' W' st'.t a'.tmps->RS β' (look d ah st'.aa) W'->Fr d β W β' W'->a'.defers=a.defers->Q (GG o) a' W'
theorem Ends.step{β β1:Pl}{W W1:World}{a a1:Act}{Q:Exit->Act->World->Prop}{o:Out}{st':St}(h:Ends d ah β W a Q o st')(h1:Fr d β W β1 W1)(h2:a1.defers=a.defers):Ends d ah β1 W1 a1 Q o st' :=
 fun β' W' a' g1 g2 g3 g4=>h β' W' a' g1 g2 (h1.trans g3) (g4.trans h2)
theorem FY(hC:mL P B W0 C)(hE:sK C)(hm:P.follows .mixedOrders=true){id:Nat}{drawn dr:Bool}{s:Nat}{l:List dc}{fr:List (Nat×Nat)}{st st':St}{o:Out}{β:Pl}{W:World}{a:Act}{Q:Exit->Act->World->Prop}
  (hc:rJ P ops drawn=some (.region dr s l fr)) (hx:nw C d ah dr s l fr st=some (o,st')) (hb:nJ B W0 β W) (ht:TR β W st.t a.tmps) (hR:RS β (look d ah st.aa) W) (hQ:Ends d ah β W a Q o st'):(Code.region id ops drawn).wp P Q a W:=by
 unfold rJ at hc
 split at hc
 ·simp at hc
 rename_i l0 s0 hco
 unfold nw at hx
 split at hx
 ·rename_i es st1 hrun
  rw[zi]at hrun
  cases drawn
  ·simp only[l7,if_false,fZ,IC.region.injEq]at hc
   obtain⟨rfl,rfl,rfl,rfl⟩:=hc
   simp only[BW,iY,if_true]at hx
   cases hx
   obtain⟨hl,hf⟩:=zeq hco
   refine wp_region ?_
   have:=H8 (Q:=Q) hC ops.toList l0 0 _ st' es a W β (fun j=>by simp) hl hf hrun hb ht (hR.more s0) hQ
   rw[znm]
   simpa using this
  ·simp only[if_true]at hc
   unfold GM at hc
   split at hc
   ·rename_i hok
    simp only[fZ,IC.region.injEq]at hc
    obtain⟨rfl,rfl,rfl,rfl⟩:=hc
    simp only[vA,iS]at hx
    split at hx
    ·rename_i qo
     cases hx
     have ok:=ac3 hco hok hrun qo
     refine wp_region_any hm ?_
     have af:Fr d β W β { W with drawn:=W.drawn+1 }:=⟨fun _ _ _ h=>h,fun _ _ _ _ h=>.inl h,fun _ _ _=>rfl,dz _,fun _ c _ _ h=>⟨c,h,rfl⟩,rfl,rfl,rfl⟩
     have DF:rest ops.size (Array.replicate ops.size false)=List.range ops.size:=by unfold rest;rw[zmw];intro i hi;rw[rN]at hi;simp[Array.getD,hi]
     refine RX (n0:=st.aa.length) (st:=⟨st.t,st.aa++List.replicate s0 .free⟩) (st':=st') (β:=β) hC hE ok ops.size _ a _ Ψ (by rw[DF];simp) ?_ ?_ (hb.fr af) (ht.ext af.ext) ((hR.more s0).same (W':={ W with drawn:=W.drawn+1 }) rfl) (hQ.step af rfl)
     ·intro i j h1
      simp only[Array.getD]at h1
      split at h1
      ·simp at h1
      ·simp at h1
     ·rw[DF,←ok.len,znm]
      exact zc4 (fun j=>by simp) (fun j=>by simp) hrun
    ·simp at hx
   ·simp at hc
 ·simp at hx
theorem Bx{drawn:Bool}{ic:IC}(h:rJ P ops drawn=some ic):∃ dr s l fr,ic=.region dr s l fr:=by
 unfold rJ at h;split at h
 ·simp at h
 ·split at h
  ·unfold GM at h;split at h
   ·cases h;exact⟨_,_,_,_,rfl⟩
   ·simp at h
  ·cases h;exact⟨_,_,_,_,rfl⟩
theorem zet(hC:mL P B W0 C)(hE:sK C)(hm:P.follows .mixedOrders=true){n:Nat}:∀(c:Code){ic:IC}{st st':St}{o:Out}{β:Pl}{W:World}{a:Act}{Q:Exit->Act->World->Prop},
  kQ P c=some ic->exec C d ah n ic st=some (o,st')->nJ B W0 β W->TR β W st.t a.tmps->RS β (look d ah st.aa) W->Ends d ah β W a Q o st'->c.wp P Q a W:=by
 intro c
 induction c with
 |skip =>
  intro ic st st' o β W a Q hc hx hb ht hR hQ
  simp only[kQ,fZ]at hc
  subst hc
  simp only[exec,fZ,qN]at hx
  obtain⟨rfl,rfl⟩:=hx
  exact wp_skip (hQ β W a ht hR (Fr.refl _ _ _) rfl)
 |ret =>
  intro ic st st' o β W a Q hc hx hb ht hR hQ
  simp only[kQ,fZ]at hc
  subst hc
  simp only[exec,fZ,qN]at hx
  obtain⟨rfl,rfl⟩:=hx
  exact wp_ret (hQ β W a ht hR (Fr.refl _ _ _) rfl)
 |exit id =>
  intro ic st st' o β W a Q hc hx hb ht hR hQ
  simp only[kQ,fZ]at hc
  subst hc
  simp only[exec,fZ,qN]at hx
  obtain⟨rfl,rfl⟩:=hx
  exact wp_exit (hQ β W a ht hR (Fr.refl _ _ _) rfl)
 |region id ops draw =>
  intro ic st st' o β W a Q hc hx hb ht hR hQ
  simp only[kQ]at hc
  obtain⟨dr,s,l,fr,rfl⟩:=Bx hc
  simp only[exec]at hx
  exact FY hC hE hm hc hx hb ht hR hQ
 |seq x y ih1 ih2 =>
  intro ic st st' o β W a Q hc hx hb ht hR hQ
  simp only[kQ]at hc
  split at hc
  ·rename_i i1 i2 h1 h2
   cases hc
   simp only[exec]at hx
   unfold KT at hx
   refine wp_seq ?_
   split at hx
   ·rename_i st1 he
    refine ih1 h1 he hb ht hR fun β1 W1 a1 g1 g2 g3 g4=>?_
    exact ih2 h2 hx (hb.fr g3) g1 g2 (hQ.step g3 g4)
   ·rename_i hne
    refine ih1 h1 hx hb ht hR fun β1 W1 a1 g1 g2 g3 g4=>?_
    have:=hQ β1 W1 a1 g1 g2 g3 g4
    cases o with
    |normal=>exact absurd hx (hne _)
    |exit id=>exact this
    |ret=>exact this
  ·simp at hc
 |cond c x y ih1 ih2 =>
  intro ic st st' o β W a Q hc hx hb ht hR hQ
  simp only[kQ]at hc
  split at hc
  ·rename_i z i1 i2 h0 h1 h2
   cases hc
   simp only[exec]at hx
   unfold Q6 at hx
   have hv:=ht.eval h0
   split at hx
   ·rename_i hz
    rw[hz]at hv
    generalize hev:a.eval c=u at hv
    cases hv
    exact wp_cond_true hev (ih1 h1 hx hb ht hR hQ)
   ·rename_i hz
    rw[hz]at hv
    generalize hev:a.eval c=u at hv
    cases hv
    exact wp_cond_false hev (ih2 h2 hx hb ht hR hQ)
   ·simp at hx
  ·simp at hc
 |block id x ih =>
  intro ic st st' o β W a Q hc hx hb ht hR hQ
  simp only[kQ]at hc
  obtain⟨i1,h1,rfl⟩:=map_some hc
  simp only[exec]at hx
  unfold qI at hx
  refine wp_block ?_
  split at hx
  ·rename_i j st1 he
   split at hx
   ·rename_i hj
    cases hx
    refine ih h1 he hb ht hR fun β1 W1 a1 g1 g2 g3 g4=>?_
    simp only[GG,Exit.inBlock,bt hj]
    exact hQ β1 W1 a1 g1 g2 g3 g4
   ·rename_i hj
    cases hx
    refine ih h1 he hb ht hR fun β1 W1 a1 g1 g2 g3 g4=>?_
    simp only[GG,Exit.inBlock,bC hj]
    exact hQ β1 W1 a1 g1 g2 g3 g4
  ·rename_i hne
   refine ih h1 hx hb ht hR fun β1 W1 a1 g1 g2 g3 g4=>?_
   have:=hQ β1 W1 a1 g1 g2 g3 g4
   cases o with
   |normal=>exact this
   |exit id=>exact absurd hx (hne _ _)
   |ret=>exact this
 |loop x ih =>
  intro ic st st' o β W a Q hc hx hb ht hR hQ
  simp only[kQ]at hc
  obtain⟨i1,h1,rfl⟩:=map_some hc
  simp only[exec]at hx
  refine wp_loop_rounds n ?_
  have key:∀(m:Nat)(st st':St)(o:Out)(β:Pl)(W:World)(a:Act),iter (exec C d ah n i1) m st=some (o,st')->nJ B W0 β W->TR β W st.t a.tmps->RS β (look d ah st.aa) W->Ends d ah β W a Q o st'->Code.rounds P x Q m a W:=by
   intro m;induction m with
   |zero=>intro st st' o β W a hx;simp[iter]at hx
   |succ m ihm =>
    intro st st' o β W a hx hb ht hR hQ
    rw[rounds_succ]
    simp only[iter]at hx
    split at hx
    ·rename_i st1 he
     exact ih h1 he hb ht hR fun β1 W1 a1 g1 g2 g3 g4=>ihm _ _ _ _ _ _ hx (hb.fr g3) g1 g2 (hQ.step g3 g4)
    ·rename_i hne
     refine ih h1 hx hb ht hR fun β1 W1 a1 g1 g2 g3 g4=>?_
     have:=hQ β1 W1 a1 g1 g2 g3 g4
     cases o with
     |normal=>exact absurd hx (hne _)
     |exit id=>exact this
     |ret=>exact this
  exact key n st st' o β W a hx hb ht hR hQ
 |_=>intro ic st st' o β W a Q hc;simp[kQ]at hc
end
theorem zG{α β:Type}{f:α->Option β}:∀{l:List α}{l':List β},l.mapM f=some l'->l'.length=l.length/\(∀(j:Nat)(y:β),l'[j]?=some y->∃ x,l[j]?=some x/\f x=some y)
 |[],l',h=>by simp only[Cc,tC,fZ]at h;subst h;exact⟨rfl,fun j y h=>by simp at h⟩
 |x::l,l',h=>by
  rw[rO]at h;cases hx:f x with
  |none=>rw[hx]at h;simp at h
  |some y =>
   rw[hx]at h
   cases hl:l.mapM f with
   |none=>rw[hl]at h;simp at h
   |some l2 =>
    rw[hl]at h
    simp only[uG,jG,tC,fZ]at h
    subst h
    obtain⟨h1,h2⟩:=zG hl
    refine⟨by simp[h1],fun j z hz=>?_⟩
    cases j with
    |zero=>simp only[qU,fZ]at hz;subst hz;exact⟨x,rfl,hx⟩
    |succ j=>simp only[jP]at hz ⊢;exact h2 j z hz
section
variable {lv:Nat} {aX:aU} {β1 β':Pl} {W:World}
theorem AJ{β:Pl}{k s:Nat}{c:List IV}(h:OR β W k s (.cells c))(j:Nat)(z:IV)(hz:c[j]?=some z):∃ y,W.cell? ⟨k,s+j,none⟩=some y/\VR β W z y:=by obtain⟨c',t,hh,hc⟩:=h;obtain⟨y,hy,hv⟩:=hc j z hz;refine⟨y,?_,hv⟩;simp only[World.cell?,hh,SQ,l7,if_false];rw[qv];exact hy
theorem yh(H1:∀ l i p,l≠lv->β1 l i=some p->β' l i=some p)(H2:∀ k,jO β1 W k->jO β' W k)(H3:∀ i k s o,β1 lv i=some (k,s)->aX[i]?=some o->o.live=true->jO β' W k/\OR β1 W k s o) :
  ∀(n:Nat)(v v':IV)(x:Value),VR β1 W v x->freeze n lv aX v=some v'->VR β' W v' x
 |0,v,v',x,h,hf=>by simp[freeze]at hf
 |n+1,v,v',x,h,hf=>by
  have vrs:∀{xs xs':List IV}{ys:List Value},dV β1 W xs ys->xs.mapM (freeze n lv aX)=some xs'->dV β' W xs' ys:=fun{xs xs' ys} hv hm=>by obtain⟨h1,h2⟩:=zG hm;refine⟨h1.trans hv.1,fun j a b ha hb=>?_⟩;obtain⟨a0,ha0,Gu⟩:=h2 j a ha;exact yh H1 H2 H3 n a0 a b (hv.2 j a0 b ha0 hb) Gu
  have cells:∀{cs cs':List IV}{k s:Nat},(∀(j:Nat)(z:IV),cs[j]?=some z->∃ y,W.cell? ⟨k,s+j,none⟩=some y/\VR β1 W z y)->cs.mapM (freeze n lv aX)=some cs' ->
    (∀(j:Nat)(z:IV),cs'[j]?=some z->∃ y,W.cell? ⟨k,s+j,none⟩=some y/\VR β' W z y):=fun{cs cs' k s} hc hm j z hz=>by
   obtain⟨h1,h2⟩:=zG hm
   obtain⟨z0,hz0,hfz⟩:=h2 j z hz
   obtain⟨y,hy,hv⟩:=hc j z0 hz0
   exact⟨y,hy,yh H1 H2 H3 n z0 z y hv hfz⟩
  cases v with
  |ptrM l i off =>
   obtain⟨k,s,hb,rfl⟩:=XP h
   simp only[freeze]at hf
   split at hf
   ·rename_i hl
    rw[hl]at hb
    split at hf
    ·rename_i c hc
     obtain⟨cs,hcs,rfl⟩:=map_some hf
     obtain⟨hk,ho⟩:=H3 i k s _ hb hc rfl
     exact za1 hk (cells (AJ ho) hcs)
    ·simp at hf
   ·rename_i hl
    cases hf
    exact .ptrM (H1 l i _ hl hb)
  |slM l i off len cap sz tight =>
   obtain⟨k,s,o',cap',hb,ho,om,jD,SF,hr,rfl⟩:=XO h
   simp only[freeze]at hf
   split at hf
   ·rename_i hl
    rw[hl]at hb
    split at hf
    ·rename_i c hc
     obtain⟨cs,hcs,rfl⟩:=map_some hf
     cases iP:seg c off (len*sz)with
     |none=>rw[iP]at hcs;simp at hcs
     |some sg =>
      rw[iP]at hcs
      simp only[jG]at hcs
      obtain⟨hk,Jl⟩:=H3 i k s _ hb hc rfl
      obtain⟨g1,g2⟩:=ZS iP
      obtain⟨m1,m2⟩:=zG hcs
      refine FL (fun _=>hk) (fun j z hz=>?_) (m1.trans g1) (lW om jD) (fun ht=>?_)
      ·have hne:cap≠0:=by intro h0;have:len=0:=Ω;have hj:=(cU.1 hz).1;rw[m1,g1,this,qw]at hj;omega
       obtain⟨z0,hz0,hfz⟩:=m2 j z hz
       obtain⟨y,hy,hv⟩:=AJ Jl _ _ (g2 j z0 hz0)
       refine⟨y,?_,yh H1 H2 H3 n z0 z y hv hfz⟩
       rw[←hy,ho.resolve_left hne]
       congr 2
       omega
      ·simp only[gJ,n9]at ht
       rw[SF ht.1,ht.2]
    ·simp at hf
   ·rename_i hl
    cases hf
    exact .slM (H1 l i _ hl hb) ho om jD SF hr
  |mapM l i =>
   obtain⟨k,s,hb,rfl⟩:=I6 h
   simp only[freeze]at hf
   split at hf
   ·rename_i hl
    rw[hl]at hb
    split at hf
    ·rename_i ks vs bs clock hc
     split at hf
     ·rename_i a b ha fG
      cases hf
      obtain⟨hk,es,hh,n1,n2,n3,he⟩:=H3 i k s _ hb hc rfl
      obtain⟨a1,a2⟩:=zG ha
      obtain⟨b1,b2⟩:=zG fG
      have WK:∀(j:Nat),j<a.length->∃ e,es[j]?=some e:=fun j hj=>⟨es[j]'Ω,SU Ω⟩
      refine .eF (fun j=>(es[j]?).getD ⟨undef,undef,0⟩) hk hh Ω Ω (fun j hj=>?_) (fun j z hz=>?_) (fun j z hz=>?_)
      ·obtain⟨e,he'⟩:=WK j hj
       rw[he'];rfl
      ·obtain⟨e,he'⟩:=WK j (cU.1 hz).1
       obtain⟨z0,hz0,hfz⟩:=a2 j z hz
       simp only[he',tE]
       exact yh H1 H2 H3 n z0 z _ ((he j e he').1 z0 hz0) hfz
      ·obtain⟨e,he'⟩:=WK j (by have:=(cU.1 hz).1;omega)
       obtain⟨z0,hz0,hfz⟩:=b2 j z hz
       simp only[he',tE]
       exact yh H1 H2 H3 n z0 z _ ((he j e he').2.1 z0 hz0) hfz
     ·simp at hf
    ·simp at hf
   ·rename_i hl
    cases hf
    exact .mapM (H1 l i _ hl hb)
  |ptrC cs off =>
   obtain⟨k,s,hk,hc,rfl⟩:=F5 h
   simp only[freeze]at hf
   obtain⟨cs',hcs,rfl⟩:=map_some hf
   exact za1 (H2 k hk) (cells hc hcs)
  |slC cs len sz tight =>
   obtain⟨k,s,cap',ad,hk,hc,hn,hl,ht,tY,rfl⟩:=xW h
   simp only[freeze]at hf
   obtain⟨cs',hcs,rfl⟩:=map_some hf
   exact za0 (fun hne=>H2 k (hk hne)) (cells hc hcs) ((zG hcs).1.trans hn) hl ht tY
  |eF ks vs =>
   simp only[freeze]at hf
   split at hf
   ·rename_i a b ha fG
    cases hf
    cases h with
    |eF e hk hm hn hn' he hkv PG =>
     obtain⟨a1,a2⟩:=zG ha
     obtain⟨b1,b2⟩:=zG fG
     refine .eF e (H2 _ hk) hm Ω Ω (fun j hj=>he j Ω) (fun j z hz=>?_) (fun j z hz=>?_)
     ·obtain⟨z0,hz0,hfz⟩:=a2 j z hz
      exact yh H1 H2 H3 n z0 z _ (hkv j z0 hz0) hfz
     ·obtain⟨z0,hz0,hfz⟩:=b2 j z hz
      exact yh H1 H2 H3 n z0 z _ (PG j z0 hz0) hfz
   ·simp at hf
  |agg cs =>
   obtain⟨ws,hw,rfl⟩:=BO h
   simp only[freeze]at hf
   obtain⟨cs',hcs,rfl⟩:=map_some hf
   exact zeb (vrs hw hcs)
  |tuple cs =>
   obtain⟨ws,hw,rfl⟩:=FD h
   simp only[freeze]at hf
   obtain⟨cs',hcs,rfl⟩:=map_some hf
   have:=vrs hw hcs
   exact .tuple (by simpa using this.1) (fun j x y hx hy=>this.2 j x y hx (by simpa using hy))
  |fn f a b =>
   obtain⟨a',b',ha,hb,rfl⟩:=fnI h
   simp only[freeze]at hf
   split at hf
   ·rename_i a2 b2 h1 h2
    cases hf
    have ga:=vrs ha h1
    have gb:=vrs hb h2
    exact .fn (by simpa using ga.1) (by simpa using gb.1) (fun j x y hx hy=>ga.2 j x y hx (by simpa using hy)) (fun j x y hx hy=>gb.2 j x y hx (by simpa using hy))
   ·simp at hf
  |bool b=>simp only[freeze,fZ]at hf;subst hf;rw[Z6 h];exact .bool b
  |int k m=>simp only[freeze,fZ]at hf;subst hf;rw[YD h];exact .int k m
  |str s=>simp only[freeze,fZ]at hf;subst hf;rw[HO h];exact .str s
  |eo=>simp only[freeze,fZ]at hf;subst hf;rw[Yl h];exact .eo
  |nilsl=>simp only[freeze,fZ]at hf;subst hf;rw[yL h];exact .nilsl
  |eT=>simp only[freeze,fZ]at hf;subst hf;rw[AP h];exact .eT
  |l9 =>
   simp only[freeze,fZ]at hf;subst hf
   cases h
   exact .l9
end
def fK:Pl:=fun _ _=>none
theorem ZT{lv:Nat}{aX:aU}{β:Pl}{W:World}(H3:∀ i k s o,β lv i=some (k,s)->aX[i]?=some o->o.live=true->k<W.heap.size/\OR β W k s o) :
  ∀(n:Nat)(v v':IV)(x:Value),VR β W v x->bA n lv aX v=some v'->VR fK W v' x
 |0,v,v',x,h,hf=>by simp[bA]at hf
 |n+1,v,v',x,h,hf=>by
  have H2:∀ k,k<W.heap.size->jO fK W k:=fun k hk=>⟨hk,fun l i s h=>by simp[fK]at h⟩;have vrs:∀{xs xs':List IV}{ys:List Value},dV β W xs ys->xs.mapM (bA n lv aX)=some xs'->dV fK W xs' ys:=fun{xs xs' ys} hv hm=>by obtain⟨h1,h2⟩:=zG hm;refine⟨h1.trans hv.1,fun j a b ha hb=>?_⟩;obtain⟨a0,ha0,Gu⟩:=h2 j a ha;exact ZT H3 n a0 a b (hv.2 j a0 b ha0 hb) Gu
  have cells:∀{cs cs':List IV}{k s:Nat},(∀(j:Nat)(z:IV),cs[j]?=some z->∃ y,W.cell? ⟨k,s+j,none⟩=some y/\VR β W z y)->cs.mapM (bA n lv aX)=some cs' ->
    (∀(j:Nat)(z:IV),cs'[j]?=some z->∃ y,W.cell? ⟨k,s+j,none⟩=some y/\VR fK W z y):=fun{cs cs' k s} hc hm j z hz=>by
   obtain⟨h1,h2⟩:=zG hm
   obtain⟨z0,hz0,hfz⟩:=h2 j z hz
   obtain⟨y,hy,hv⟩:=hc j z0 hz0
   exact⟨y,hy,ZT H3 n z0 z y hv hfz⟩
  cases v with
  |slM l i off len cap sz tight =>
   obtain⟨k,s,o',cap',hb,ho,om,jD,SF,hr,rfl⟩:=XO h
   simp only[bA]at hf
   split at hf
   ·rename_i hl
    rw[hl]at hb
    split at hf
    ·rename_i c hc
     obtain⟨cs,hcs,rfl⟩:=map_some hf
     cases iP:seg c off (len*sz)with
     |none=>rw[iP]at hcs;simp at hcs
     |some sg =>
      rw[iP]at hcs
      simp only[jG]at hcs
      obtain⟨hk,Jl⟩:=H3 i k s _ hb hc rfl
      obtain⟨g1,g2⟩:=ZS iP
      obtain⟨m1,m2⟩:=zG hcs
      refine FL (fun _=>H2 k hk) (fun j z hz=>?_) (m1.trans g1) (lW om jD) (fun ht=>by cases ht)
      have hne:cap≠0:=by intro h0;have:len=0:=Ω;have hj:=(cU.1 hz).1;rw[m1,g1,this,qw]at hj;omega
      obtain⟨z0,hz0,hfz⟩:=m2 j z hz
      obtain⟨y,hy,hv⟩:=AJ Jl _ _ (g2 j z0 hz0)
      refine⟨y,?_,ZT H3 n z0 z y hv hfz⟩
      rw[←hy,ho.resolve_left hne]
      congr 2
      omega
    ·simp at hf
   ·simp at hf
  |slC cs len sz tight =>
   obtain⟨k,s,cap',ad,hk,hc,hn,hl,ht,tY,rfl⟩:=xW h
   simp only[bA]at hf
   obtain⟨cs',hcs,rfl⟩:=map_some hf
   exact za0 (fun hne=>H2 k (hk hne).1) (cells hc hcs) ((zG hcs).1.trans hn) hl ht tY
  |agg cs =>
   obtain⟨ws,hw,rfl⟩:=BO h
   simp only[bA]at hf
   obtain⟨cs',hcs,rfl⟩:=map_some hf
   exact zeb (vrs hw hcs)
  |bool b=>simp only[bA,fZ]at hf;subst hf;rw[Z6 h];exact .bool b
  |int k m=>simp only[bA,fZ]at hf;subst hf;rw[YD h];exact .int k m
  |str s=>simp only[bA,fZ]at hf;subst hf;rw[HO h];exact .str s
  |nilsl=>simp only[bA,fZ]at hf;subst hf;rw[yL h];exact .nilsl
  |ptrM _ _ _=>simp[bA]at hf
  |ptrC _ _=>simp[bA]at hf
  |mapM _ _=>simp[bA]at hf
  |eF _ _=>simp[bA]at hf
  |tuple _=>simp[bA]at hf
  |fn _ _ _=>simp[bA]at hf
  |eo=>simp[bA]at hf
  |eT=>simp[bA]at hf
  |l9=>simp[bA]at hf
theorem Bc{lv:Nat}{aX:aU}{β:Pl}{W:World}(H3:∀ i k s o,β lv i=some (k,s)->aX[i]?=some o->o.live=true->k<W.heap.size/\OR β W k s o){n:Nat}{xs xs':List IV}{ys:List Value}(hv:dV β W xs ys)(hm:xs.mapM (bA n lv aX)=some xs'):dV fK W xs' ys:=by obtain⟨h1,h2⟩:=zG hm;refine⟨h1.trans hv.1,fun j a b ha hb=>?_⟩;obtain⟨a0,ha0,Gu⟩:=h2 j a ha;exact ZT H3 n a0 a b (hv.2 j a0 b ha0 hb) Gu
section
variable {P:Program} {d:Nat} {ah:bR} {β:Pl} {W:World}
def CL(tm:Array Value):ResultVar->Sem Value
 |.tmp t=>pure (tm.getD t undef)
 |.cell a t=>do loadVar t (←asAddr (tm.getD a undef))
theorem zal(fn:Func)(tm:Array Value):results fn tm=(do
  let vs←fn.results.mapM (CL tm)
  pure (if h:vs.size=1 then vs[0] else .tuple vs)):=by
 unfold results
 have:(fun x:ResultVar=>(match x with|.tmp t=>(pure (tm.getD t undef):Sem Value)|.cell a t=>do loadVar t (←asAddr (tm.getD a undef))))=CL tm:=by funext r;cases r<;>rfl
 rw[←this]
 rfl
theorem Dl{α:Type}{f:α->Sem Value}:∀{l:List α}{vs:List Value},l.length=vs.length->(∀(j:Nat)(x:α)(y:Value),l[j]?=some x->vs[j]?=some y->(f x).run P W=.ok y W)->(l.mapM f).run P W=.ok vs W
 |[],vs,h1,h2=>by
  have:vs=[]:=by simpa using h1.symm
  subst this;simp
 |x::l,vs,h1,h2=>by
  cases vs with
  |nil=>simp at h1
  |cons v vs =>
   have g1:=h2 0 x v rfl rfl
   have g2:=Dl (l:=l) (vs:=vs) (by simpa using h1) (fun j x y hx hy=>h2 (j+1) x y (by simpa using hx) (by simpa using hy))
   rw[rO]
   simp[g1,g2]
theorem zam{fn:Func}{rs:List nZ}{st:St}{tm:Array Value}{v:IV}(hc:allM (Mu P) fn.results.toList=some rs)(ht:TR β W st.t tm)(hR:RS β (look d ah st.aa) W)(hr:bP d ah st rs=some v) :
  ∃ x,(results fn tm).run P W=.ok x W/\VR β W v x:=by
 have one:∀(r:ResultVar)(r':nZ)(z:IV),Mu P r=some r'->p7 d ah st r'=some z->∃ y,(CL tm r).run P W=.ok y W/\VR β W z y:=by
  intro r r' z h1 h2;cases r with
  |tmp t =>
   simp only[Mu,fZ]at h1
   subst h1
   simp only[p7,fZ]at h2
   subst h2
   exact⟨tm.getD t undef,by simp[CL],ht.get t⟩
  |cell a t =>
   simp only[Mu]at h1
   obtain⟨⟨agg,n⟩,hl,rfl⟩:=map_some h1
   simp only[p7]at h2
   have hv:=ht.get a
   split at h2
   ·rename_i l i off hq
    rw[hq]at hv
    split at h2
    ·rename_i c hc
     obtain⟨ad,hx,hA⟩:=JX hR hv hc
     obtain⟨y,hy,pT⟩:=Dn hl hA h2
     refine⟨y,?_,pT⟩
     simp only[CL,hx]
     simpa[asAddr]using hy
    ·simp at h2
   ·simp at h2
 unfold bP at hr
 obtain⟨zs,hzs⟩:∃ zs,rs.mapM (p7 d ah st)=some zs:=by
  cases h:rs.mapM (p7 d ah st)with
  |none=>rw[h]at hr;simp at hr
  |some zs=>exact⟨zs,rfl⟩
 rw[hzs]at hr
 obtain⟨m1,m2⟩:=zG hzs
 obtain⟨a1,a2⟩:=Z5 hc
 have hex:∀(L:List ResultVar)(zs:List IV),L.length=zs.length->(∀(j:Nat)(r:ResultVar)(z:IV),L[j]?=some r->zs[j]?=some z->∃ y,(CL tm r).run P W=.ok y W/\VR β W z y) ->
   ∃ ys:List Value,dV β W zs ys/\∀(j:Nat)(r:ResultVar)(y:Value),L[j]?=some r->ys[j]?=some y->(CL tm r).run P W=.ok y W:=by
  intro L
  induction L with
  |nil =>
   intro zs h1 h2
   have:zs=[]:=by simpa using h1.symm
   subst this
   exact⟨[],dV.nil,fun j r y hr=>by simp at hr⟩
  |cons r L ih =>
   intro zs h1 h2
   cases zs with
   |nil=>simp at h1
   |cons z zs =>
    obtain⟨y,hy,hv⟩:=h2 0 r z rfl rfl
    obtain⟨ys,g1,g2⟩:=ih zs (by simpa using h1) (fun j r z hr hz=>h2 (j+1) r z (by simpa using hr) (by simpa using hz))
    refine⟨y::ys,g1.cons hv,fun j r' y' hr hy'=>?_⟩
    cases j with
    |zero=>simp only[qU,fZ]at hr hy';subst hr hy';exact hy
    |succ j=>exact g2 j r' y' (by simpa using hr) (by simpa using hy')
 obtain ⟨ys,g1,g2⟩:=hex fn.results.toList zs Ω (fun j r z hr hz=>by
  obtain⟨r',hr',hc0⟩:=a2 j r hr;obtain⟨r0,sE,hz'⟩:=m2 j z hz;rw[hr']at sE;cases sE;exact one r r' z hc0 hz')
 have hrun:(fn.results.mapM (CL tm)).run P W=.ok ys.toArray W:=by rw[Array.mapM_eq_mapM_toList];have:=Dl (P:=P) (W:=W) (l:=fn.results.toList) (vs:=ys) (by rw[←g1.1];omega) g2;rw[map_eq_pure_bind];simp[this]
 cases zs with
 |nil =>
  have hy0:ys=[]:=by simpa using g1.1.symm
  subst hy0
  simp only[fZ]at hr
  subst hr
  refine⟨.tuple #[],?_,.tuple rfl (fun j x y hx=>by simp at hx)⟩
  rw[zal]
  simp only[iB,hrun,iC]
  simp
 |cons z zs =>
  cases ys with
  |nil=>exact absurd g1.1 Ψ
  |cons y ys =>
   cases zs with
   |nil =>
    have hy0:ys=[]:=by have:=g1.1;simpa using this.symm
    subst hy0
    simp only[fZ]at hr
    subst hr
    refine⟨y,?_,g1.2 0 _ _ rfl rfl⟩
    rw[zal]
    simp only[iB,hrun,iC]
    simp
   |cons z2 zs =>
    simp only[fZ]at hr
    subst hr
    refine⟨.tuple (y::ys).toArray,?_,.tuple (by simpa using g1.1) (fun j x y hx hy=>g1.2 j x y hx (by simpa using hy))⟩
    rw[zal]
    simp only[iB,hrun,iC]
    have:(y::ys).toArray.size≠1:=by have:=g1.1;simp only[cu]at this;simp only[List.size_toArray,cu];omega
    rw[dif_neg this]
    rfl
end
end
section
open Go Go.Sort
theorem Jh(lt:Nat->Nat->Bool)(b:Nat):∀(k i:Nat)(a:Array Nat),k=b-i->insOuter lt 0 b i a=adi lt k i a
 |0,i,a,h=>by rw[insOuter,bC Ω];rfl
 |k+1,i,a,h=>by rw[insOuter,bt Ω,Jh lt b k (i+1) _ Ω];rfl
theorem AG(lt:Nat->Nat->Bool)(n:Nat):sM lt n=(pdq lt (Array.range n) 0 n (Lib.bitLen n) true true).toList:=by
 unfold sM;split
 ·rename_i h;rw[pdq,bt Ω,insertionSort,Jh lt n (n-1) (0+1) _ Ω];have e:(⟨List.range n⟩:Array Nat)=Array.range n:=by apply zoa.1;simp
  rw[e]
 ·rfl
theorem zc5{d:Array Nat}{n:Nat}(h:d.size=n):(d.extract 0 n).toList=d.toList:=by subst h;simp
theorem zcb{lt:Nat->Nat->Bool}(h:SWO lt)(n:Nat):(sM lt n).Perm (List.range n)/\∀(i j x y:Nat),i<j->(sM lt n)[i]?=some x->(sM lt n)[j]?=some y->lt y x=false:=by
 have hs:(Array.range n).size=n:=by simp
 obtain⟨⟨p1,_,p3⟩,s⟩:=pdq_sorts lt h (Array.range n) 0 n (Lib.bitLen n) true true (NA _) Ω (.inl rfl);rw[AG];generalize pdq lt (Array.range n) 0 n (Lib.bitLen n) true true=d at *;refine⟨?_,fun i j x y hij hx hy=>?_⟩
 ·rw[zc5 Ω,zc5 hs]at p3;simpa using p3
 ·have hj:j<d.size:=by have:=(cU.1 hy).1;simpa using this
  have:=s i j (NA _) hij Ω;rw[pP]at hx hy;rwa [getElem!_def,getElem!_def,hx,hy]at this
noncomputable def Xi(n:Nat)(tb:List (List Int))(i j:Nat):Int:=(tb.getD (i%n) []).getD (j%n) 0
theorem AW(n:Nat)(tb:List (List Int)):nD n tb=ltOf (Xi n tb):=by funext i j;unfold nD ltOf Xi;generalize(tb.getD (i%n) []).getD (j%n) 0=z;cases z<;>simp[nD.Int.blt']<;>omega
theorem zeu{n:Nat}(hn:n≠0){tb:List (List Int)}(h:Cl n (nD n tb)=true):SWO (nD n tb):=by
 have hm:∀ i j,nD n tb i j=nD n tb (i%n) (j%n):=fun i j=>by simp[nD]
 have hr:∀ i,i%n∈List.range n:=fun i=>rN.2 (SM _ Ω);unfold Cl at h;rw[ot]at h;have h2:∀ x y z,nD n tb x x=false/\((nD n tb x y=true->nD n tb y z=true->nD n tb x z=true)/\(nD n tb x y=false->nD n tb y z=false->nD n tb x z=false)):=fun x y z=>by have h3:=h _ (hr x);rw[gJ,ot]at h3;have h4:=ot.1 (h3.2 _ (hr y)) _ (hr z);rw[hm x x,hm x y,hm y z,hm x z];have h5:=h3.1;revert h4 h5;generalize nD n tb (x%n) (x%n)=p;generalize nD n tb (x%n) (y%n)=q;generalize nD n tb (y%n) (z%n)=r;generalize nD n tb (x%n) (z%n)=s;cases p<;>cases q<;>cases r<;>cases s<;>decide
 exact⟨fun x=>(h2 x x x).1,fun x y z=>(h2 x y z).2.1,fun x y z=>(h2 x y z).2.2⟩
theorem zcc(x:Int):∀ l,(Gk x l).Perm (x::l)
 |[]=>.refl _
 |y::l=>by
  unfold Gk;split
  ·exact .refl _
  ·exact((zcc x l).cons y).trans (.swap _ _ _)
theorem ZB:∀ l,(lJ l).Perm l
 |[]=>.refl _
 |x::l=>(zcc x _).trans ((ZB l).cons x)
theorem Dw(x:Int):∀ l,l.Pairwise (·<=·)->(Gk x l).Pairwise (·<=·)
 |[],_=>by simp[Gk]
 |y::l,h=>by
  obtain⟨h1,h2⟩:=Cb.1 h;unfold Gk;split
  ·rename_i hx;exact Cb.2 ⟨fun z hz=>by
    rcases fF.1 hz with rfl|hz
    ·exact hx
    ·exact Int.le_trans hx (h1 z hz),h⟩
  ·rename_i hx;refine Cb.2 ⟨fun z hz=>?_,Dw x l h2⟩;rcases fF.1 ((zcc x l).mem_iff.1 hz)with rfl|hz
   ·omega
   ·exact h1 z hz
theorem zcd:∀ l,(lJ l).Pairwise (·<=·)
 |[]=>.nil
 |x::l=>Dw x _ (zcd l)
theorem NZ(l:List Int):l.mergeSort (fun x y=>decide (x<=y))=lJ l:=by refine zl3 (le:=(·<=·)) (fun a b _ _ h1 h2=>by omega) ?_ (zcd l) ((zmx _ _).trans (ZB l).symm);have:=zob (le:=fun x y:Int=>decide (x<=y)) (fun a b c=>by simp;omega) (fun a b=>by simp;omega) l;simpa using this
theorem vQ{α:Type}{r:List α}{sz j n:Nat}(h:r.length=n*sz)(hj:j<n):(rowAt r sz j).length=sz:=by unfold rowAt;have:(j+1)*sz<=n*sz:=HL _ hj;rw[BU,uP]at this;simp;omega
theorem zce{α:Type}{r:List α}{sz j t:Nat}(ht:t<sz):(rowAt r sz j)[t]?=r[j*sz+t]?:=by unfold rowAt;rw[Fq,bt ht,Sz]
end
section
open Go Go.RowKit
theorem Fr.q9{d:Nat}{β:Pl}{W W':World}(h:Below W.heap.size W W'):Fr d β W β W' where
 keep _ _ _ h:=h
 fresh _ _ _ _ h:=.inl h
 block k hk _:=h.block k hk
 size:=h.size
 rows k c t f hc:=⟨c,by rw[h.block k (Fb.1 hc).1];exact hc,rfl⟩
 os:=h.os
 tape:=h.tape
 output:=h.output
section
variable {P:Program} {d:Nat} {ah:bR} {β:Pl} {W:World} {aa aK:aU}
theorem G3(W:World)(os:Array Obj):Below W.heap.size W (Sort.grow W os) :=
 ⟨rfl,rfl,rfl,by simp[Sort.grow],fun k hk=>by simp[Sort.grow,zn0 hk]⟩
theorem Ap{i k s1 off:Nat}{c:List IV}{α:Type}[Inhabited α]{enc:α->Value}{xs:List IV}{F:Array α}(hR:RS β (look d ah aa) W)(hg:aa[i]?=some (.cells c))(hb:β d i=some (k,s1))(hfit:off+xs.length<=c.length)(hl:xs.length=F.size)
  (mD:∀(j:Nat)(x:IV),xs[j]?=some x->VR β W x (enc F[j]!)) (hroom:Room W k (off+s1+F.size)) (m:Nat) (os:Array Obj) :
  RS β (look d ah (aa.set i (.cells (gV c off xs)))) (Sort.grow (Sort.putRow enc (Sort.ahead W m) k (off+s1) F) os)/\Fr d β W β (Sort.grow (Sort.putRow enc (Sort.ahead W m) k (off+s1) F) os):=by
 have hg':look d ah aa d i=some (.cells c):=by rw[yf];exact hg
 obtain⟨c',ty',hh,qE⟩:=hR.obj _ _ _ _ _ hb hg'
 obtain⟨c1,t1,f1,uI,hrm⟩:=hroom
 rw[hh]at uI
 cases uI
 generalize hW1:Sort.putRow enc (Sort.ahead W m) k (off+s1) F=W1
 have hheap:W1.heap=W.heap.modify k (Sort.onCells (Sort.putCells enc (off+s1) F)):=by rw[←hW1];rfl
 have hk1:W1.heap[k]?=some (.cells (Sort.putCells enc (off+s1) F c') ty' (0,0)):=by rw[hheap,zlp,bt rfl,hh];rfl
 have iK:∀ k2,k2≠k->W1.heap[k2]?=W.heap[k2]?:=fun k2 hk2=>by rw[hheap,zlp,bC (fun e=>hk2 e.symm)]
 have hsz:W1.heap.size=W.heap.size:=by rw[hheap];simp
 have hO:Ext β W β W1->OR β W1 k s1 (.cells (gV c off xs)):=fun ex=>by
  refine⟨_,ty',hk1,fun j z hz=>?_⟩;rw[ZQ _ _ _ _ hfit]at hz;unfold Sort.putCells;rw[Array.getElem?_mapIdx];by_cases hj:off<=j/\j<off+xs.length
  ·rw[bt hj]at hz;refine⟨enc F[j-off]!,?_,(mD _ _ hz).ext ex⟩;rw[SU (show j+s1<c'.size by omega),gH,bt Ω,show j+s1-(off+s1)=j-off by omega]
  ·rw[bC hj]at hz;obtain⟨r,hr,tT⟩:=qE j z hz;refine⟨r,?_,tT.ext ex⟩;rw[hr,gH,bC Ω]
 have hrow:∀(c2:Array Value)(t2:TypeId)(f2:Nat×Nat),W.heap[k]?=some (.cells c2 t2 f2)->∃ c3,W1.heap[k]?=some (.cells c3 t2 f2)/\c3.size=c2.size:=fun c2 t2 f2 mF=>by rw[hh]at mF;cases mF;exact⟨_,hk1,by simp[Sort.putCells]⟩
 obtain⟨uL,hF1⟩:=zee (W':=W1) hR hg rfl hb iK hsz hrow (by rw[←hW1];rfl) (by rw[←hW1];rfl) (by rw[←hW1];rfl) hO rfl
 have jQ:=G3 W1 os
 exact⟨uL.old jQ.block jQ.size,hF1.trans (Fr.q9 jQ)⟩
theorem CF{sz i off n:Nat}{c r:List IV}{s:IV}{y:Value}(hR:RS β (look d ah aa) W)(h:oO d aa sz s=some (i,off,c,r,n))(hv:VR β W s y) :
  ∃ k s1 cap',y=.slice (some ⟨k,off+s1,none⟩) n cap'/\aa[i]?=some (.cells c)/\β d i=some (k,s1)/\n≠0/\n<=bound/\r.length=n*sz/\off+n*sz<=c.length/\r.all IV.scalar=true /\
   ∃ ys:Array Value,ys.size=n*sz/\dV β W r ys.toList/\Sort.Holds id W k (off+s1) ys/\k<W.heap.size/\Room W k (off+s1+n*sz):=by
 unfold oO at h
 split at h
 rotate_left
 ·simp at h
 rename_i l i' off' len cap sz' tight
 split at h
 rotate_left
 ·simp at h
 rename_i hc
 obtain⟨rfl,hsz',h0,hbd⟩:=hc
 subst sz'
 split at h
 rotate_left
 ·simp at h
 rename_i c' hg
 cases iP:seg c' off' (len*sz)with
 |none=>rw[iP]at h;simp at h
 |some r' =>
  rw[iP,jG]at h
  split at h
  rotate_left
  ·simp at h
  rename_i hsc
  cases h
  cases hv with
  |@slM _ _ _ _ _ _ _ k s1 o' cap' hb ho hl hcp ht hr =>
   have hcap:cap≠0:=Ω
   obtain rfl:=ho.resolve_left hcap
   have hg':look l ah aa l i=some (.cells c):=by rw[yf];exact hg
   obtain⟨cs,ty',hh,qE⟩:=hR.obj _ _ _ _ _ hb hg'
   obtain⟨c1,t1,f1,uI,hrm⟩:=hr
   rw[hh]at uI
   cases uI
   obtain⟨om,fU⟩:=ZS iP
   have hle:n*sz<=cap'*sz:=HL _ (lW hl hcp)
   refine⟨k,s1,cap',rfl,hg,hb,h0,hbd,om,(ae1 iP).1,hsc,cs.extract (off+s1) (off+s1+n*sz),by simp;omega,⟨by simp;omega,fun j x z hx hz=>?_⟩,fun j hj=>⟨?_,?_⟩,hR.here _ _ _ _ hb,_,_,_,hh,Ω⟩
   ·obtain⟨w,hw,hvw⟩:=qE _ _ (fU j x hx)
    have hjl:=(cU.1 hx).1
    have:z=w:=by rw[pP,zm9,bt Ω,show off+s1+j=off+j+s1 by omega,hw]at hz;exact(kT hz).symm
    rw[this]
    exact hvw
   ·have hj':j<n*sz:=by simp at hj;omega
    have e:(cs.extract (off+s1) (off+s1+n*sz))[j]! = cs[off+s1+j]:=by rw[getElem!_def,zm9,bt Ω,SU (show off+s1+j<cs.size by omega)]
    rw[e]
    simp only[World.cell?,hh,id]
    rw[SU (show off+s1+j<cs.size by omega)]
    rfl
   ·simp[World.frozen?,hh]
end
end
section
open Go Go.RowKit Go.Shelf
def uA (P : Program) (f : FuncId) (i : jy) : Prop := (∃ fn, P.funcs[f]? = some fn ∧ fn.name ≠ "runtime.NumGoroutine" ∧ fn.body.isSome = true) ∧ 4 ≤ i.mode ∧ ∃ ρ : Ren,
 (i.mode=4/\i.ntmps=1/\ρ.f 6=f/\SlLaysF.n6 P ρ)∨(i.mode=5/\i.ntmps≠0/\ρ.f 6=f/\SlLaysF0.n6 P ρ/\(∀ w,(isAgg (ρ.t 24)).run P w=.ok true w)/\∀ w,(Go.sizeOf (ρ.t 24)).run P w=.ok i.ntmps w)∨(i.mode=6/\i.ntmps=1/\ρ.f 189=f/\Lays.n189 P ρ)
section
variable {P:Program} {B:Nat} {W0 W:World} {C:Call} {d:Nat} {ah:bR} {β:Pl} {aa aK:aU}
theorem KX(h:Seen aK aa)(i:Nat):Seen (aK.set i .gone) (aa.set i .gone):=by
 refine⟨by simp[h.1],fun j o ho=>?_⟩;rw[SO]at ho ⊢;split at ho
 ·split at ho
  ·rename_i e hl;rw[bt e,bt (h.1▸hl)];exact .inl ho
  ·simp at ho
 ·rename_i e;rw[bC e];exact h.2 j o ho
theorem Ep {f : FuncId} (h : ∃ fn, P.funcs[f]? = some fn ∧ fn.name ≠ "runtime.NumGoroutine" ∧ fn.body.isSome = true) (args : Array Value) (w : World) : (callFunc f args).run P w = .ok (.enter f args) w := by
 obtain⟨fn,hfn,hnm,hbd⟩:=h;have hbn:fn.body.isNone=false:=by cases hb:fn.body<;>simp[hb]at hbd ⊢
 have ad6:fn.body≠none:=by intro h;rw[h]at hbd;simp at hbd
 simp[callFunc,iB,jt,iC,hfn,hnm,ad6]
theorem xk(hC:mL P B W0 C)(hs:Seen aK aa){i id:Nat}{g:FuncId}{cap:List IV}{qj:Array Value}{x y:IV}{x' y':Value}{z:Int}(h:Bv C d ah (aK.set i .gone) (aa.set i .gone) id g cap x y=some z){wm:World}
  (hb:nJ B W0 β wm) (hR:RS β (look d ah (aa.set i .gone)) wm) (hx:VR β wm x x') (hy:VR β wm y y') (hcap:dV β wm cap qj.toList) :
  (∃ fn, P.funcs[g]? = some fn ∧ fn.name ≠ "runtime.NumGoroutine" ∧ fn.body.isSome = true) ∧ Calls P g (#[x', y'] ++ qj) wm fun e w' => e = .returned (.int .i64 z) ∧ ∃ q os', w' = Sort.grow (wm.drewN q) os' := by
 unfold Bv at h
 split at h
 ·rename_i r o hc
  cases h
  obtain⟨h1,h2⟩:=hC d ah _ _ id g _ _ _ _ (x'::y'::qj.toList) β wm hc hb (KX hs i) hR (.cons hx (.cons hy hcap))
  refine⟨h1,G0 ?_⟩
  have e:(x'::y'::qj.toList).toArray=#[x',y']++qj:=by apply zoa.1;simp
  rw[e]at h2
  refine h2.mono fun e w' hx=>?_
  obtain⟨v,β',rfl,hv,_,_,jQ⟩:=hx
  exact⟨by rw[YD hv],jQ rfl⟩
 ·simp at h
theorem H9{n:Nat}{E:Nat->IV}{cmp:IV->IV->Option Int}{tb:List (List Int)}(h:(((List.range n).map E).mapM fun x=>((List.range n).map E).mapM fun y=>cmp x y)=some tb)(hn:n≠0)(a b:Nat):cmp (E (a%n)) (E (b%n))=some (Xi n tb a b):=by have ha:=SM a (zmd hn);have hb:=SM b (zmd hn);obtain⟨h1,h2⟩:=zG h;rw[ig,XB]at h1;have hr:tb[a%n]?=some tb[a%n]:=cK Ω;obtain⟨x,hx,Gs⟩:=h2 _ _ hr;obtain⟨h3,h4⟩:=zG Gs;rw[ig,XB]at h3;have hq:tb[a%n][b%n]?=some tb[a%n][b%n]:=cK Ω;obtain⟨y,hy,hfy⟩:=h4 _ _ hq;simp only[k9,VL ha,VL hb,gH,fZ]at hx hy;rw[hx,hy,hfy];unfold Xi;rw[mN,mN,hr,tE,hq,tE]
theorem S4{r:List IV}{ys:List Value}(h:dV β W r ys)(sz j:Nat):dV β W (rowAt r sz j) (rowAt ys sz j):=(h.drop _).take _
theorem Bf{α:Type}{r:List α}{sz n:Nat}(hr:r.length=n*sz)(hz:0<sz):∀(l:List Nat),(∀ j∈l,j<n)->(l.flatMap fun j=>rowAt r sz j).length=l.length*sz/\∀ t,(l.flatMap fun j=>rowAt r sz j)[t]?=(l[t/sz]?).bind fun j=>r[j*sz+t%sz]?
 |[],_=>⟨Ψ,fun t=>by simp⟩
 |j::l,h=>by
  obtain⟨h1,h2⟩:=Bf hr hz l (fun q hq=>h q (nk _ hq));have hj:=vQ hr (h j (kB ..));refine⟨by rw[fJ,eR,h1,hj,cu,BU];omega,fun t=>?_⟩;rw[fJ];by_cases ht:t<sz
  ·rw[gT Ω,zce ht,Nat.div_eq_of_lt ht,ND ht];rfl
  ·have e:t=(t-sz)+sz:=Ω;rw[jd Ω,hj,h2,e,Nat.add_div_right _ hz,zn7,zm5];rfl
theorem CV{n j:Nat}(h:j<n):(Array.range n)[j]! = j:=by rw[getElem!_def,Array.getElem?_range,bt h]
theorem mods{n:Nat}{l:List Nat}(h:∀ j∈l,j<n):l.map (·%n)=l:=by
 induction l with
 |nil=>rfl
 |cons a l ih =>
  rw[nK,ih (fun j hj=>h j (nk _ hj)),ND (h a (kB ..))]
theorem zch{α:Type}[Inhabited α]{ys:Array α}{j:Nat}{y:α}(h:ys.toList[j]?=some y):ys[j]! = y:=by rw[pP]at h;rw[getElem!_def,h]
section
variable {bi off sl n k s1 cap':Nat} {c r:List IV} {g:FuncId} {cap:List IV} {qj ys:Array Value} {tb:List (List Int)}
theorem agd(hC:mL P B W0 C)(hs:Seen aK aa)(hb:nJ B W0 β W)(hR:RS β (look d ah aa) W){sz:Nat}(hz:sz≠0){ρ:Ren}(L:SlLaysF0.n6 P ρ)(aE:∀ w,(isAgg (ρ.t 24)).run P w=.ok true w)(zE:∀ w,(Go.sizeOf (ρ.t 24)).run P w=.ok sz w)
  (htb:(((List.range n).map fun j=>kN 5 (rowAt r sz j)).mapM fun x=>((List.range n).map fun j=>kN 5 (rowAt r sz j)).mapM fun y=>Bv C d ah (aK.set bi .gone) (aa.set bi .gone) sl g cap x y)=some tb) (DD:Cl n (nD n tb)=true)
  (hg:aa[bi]?=some (.cells c)) (hbk:β d bi=some (k,s1)) (h0:n≠0) (hbd:n<=bound) (hrl:r.length=n*sz) (hfit:off+n*sz<=c.length) (hsc:r.all IV.scalar=true) (DA:ys.size=n*sz) (hvs:dV β W r ys.toList) (hH:Sort.Holds id W k (off+s1) ys) (nP:k<W.heap.size)
  (hroom:Room W k (off+s1+n*sz)) (hcap:dV β W cap qj.toList) :
  Calls P (ρ.f 6) #[.slice (some ⟨k,off+s1,none⟩) n cap',.func (.func g) #[] qj] W fun x W'=>x=.returned (.tuple #[])/\RS β (look d ah (aa.set bi (.cells (gV c off ((sM (nD n tb) n).flatMap fun j=>rowAt r sz j))))) W'/\Fr d β W β W':=by
 have hz':=zmd hz
 have Nb:ys.toList.length=n*sz:=by simpa using DA
 have hml:∀ x,x%n<n:=fun x=>SM _ (zmd h0)
 have hlen:∀ x,(rowAt ys.toList sz (x%n)).length=sz:=fun x=>vQ Nb (hml x)
 have hone:∀ x,∀ v∈rowAt ys.toList sz (x%n),v.oneCell'=true:=fun x v hv=>yY hvs hsc v (List.mem_of_mem_drop (zly hv))
 have hO:Sort.SWO (ltOf (Xi n tb)):=by rw[←AW];exact zeu h0 DD
 have hfl:∀(dk:Array Nat)(t:Nat),t<dk.size*sz->(Sort.flatK (fun x=>rowAt ys.toList sz (x%n)) sz dk)[t]! = ys[dk[t/sz]!%n*sz+t%sz]! := fun dk t ht=>by rw[Sort.get_flatK _ _ _ _ ht];generalize dk[t/sz]! = q;rw[znh,zce (SM _ hz'),pP,getElem!_def];cases ys[q%n*sz+t%sz]?<;>rfl
 have hdiv:∀(dk:Array Nat)(t:Nat),t<dk.size*sz->t/sz<dk.size:=fun dk t ht=>by rw[Nat.div_lt_iff_lt_mul hz'];exact ht
 have hH2:Sort.HoldsK (fun x=>rowAt ys.toList sz (x%n)) sz W k (off+s1) (Array.range n):=fun t ht=>by
  have ht':t<n*sz:=by simpa using ht
  have hq:t/sz<n:=by rw[Nat.div_lt_iff_lt_mul hz'];exact ht'
  obtain⟨g1,g2⟩:=hH t Ω;refine⟨?_,g2⟩;rw[hfl _ _ (by simpa using ht'),CV hq,ND hq,Nat.mul_comm,Nat.div_add_mod];exact g1
 have PF:∀(m:Nat)(os:Array Obj)(dk:Array Nat),dk.size=n->RS β (look d ah (aa.set bi (.cells (gV c off ((dk.toList.map (·%n)).flatMap fun j=>rowAt r sz j))))) (sortWorldK (fun x=>rowAt ys.toList sz (x%n)) sz W k (off+s1) m dk os)/\Fr d β W β (sortWorldK (fun x=>rowAt ys.toList sz (x%n)) sz W k (off+s1) m dk os):=fun m os dk hdk=>by
  obtain ⟨f1,f2⟩:=Bf hrl hz' (dk.toList.map (· % n)) (fun j hj=>by
   obtain⟨q,_,rfl⟩:=jA.1 hj;exact hml q)
  have fl:((dk.toList.map (·%n)).flatMap fun j=>rowAt r sz j).length=n*sz:=by rw[f1];simp[hdk]
  refine Ap (enc:=id) hR hg hbk (by rw[fl];exact hfit) (by rw[fl];simp[hdk]) (fun t x hx=>?_) (by rw[show(Sort.flatK (fun x=>rowAt ys.toList sz (x%n)) sz dk).size=n*sz by simp[hdk]];exact hroom) m os;have Wu:=(cU.1 hx).1;rw[fl,←hdk]at Wu;rw[f2,k9,pP,SU (hdiv dk t Wu),gH,jG]at hx;obtain⟨y,hy,pT⟩:=hvs.get hx;have e:dk[t/sz]! = dk[t/sz]'(hdiv dk t Wu):=getElem!_pos _ _ _;rw[id,hfl dk t Wu,e,zch hy];exact pT
 have hcmp:∀(m:Nat)(os:Array Obj)(dk:Array Nat),dk.size=n->∀ x y:Nat,_:=fun m os dk hdk x y=>by
  obtain⟨g1,g2⟩:=PF m os dk hdk;have g3:=Ao g1 (o0:=.cells (gV c off ((dk.toList.map (·%n)).flatMap fun j=>rowAt r sz j))) (by rw[oa (cU.1 hg).1]);rw[List.set_set]at g3;have hel:∀ x,VR β (sortWorldK (fun x=>rowAt ys.toList sz (x%n)) sz W k (off+s1) m dk os) (kN 5 (rowAt r sz (x%n))) (.agg (rowAt ys.toList sz (x%n)).toArray):=fun x=>by obtain⟨e1,e2⟩:=(S4 hvs sz (x%n)).ext g2.ext;exact .agg (by simpa using e1) (fun j a b ha hb=>e2 j a b ha (by simpa using hb))
  exact xk (id:=sl) hC hs (H9 htb h0 x y) (hb.fr g2) g3 (hel x) (hel y) (hcap.ext g2.ext)
 have PN:(Array.range n).size=n:=by simp
 have o8:=AnyQ.slices_SortFunc_eq L sz aE zE (fun x=>rowAt ys.toList sz (x%n)) hlen hone (Xi n tb) hO g qj k (off+s1) cap' (Array.range n) W (Ep (hcmp 0 #[] (Array.range n) PN 0 0).1) (fun m os dk hdk x y=>(hcmp m os dk (hdk.trans PN) x y).2) hH2 nP (by rw[PN];unfold bound at hbd;omega)
 rw[PN,←AW]at o8
 refine o8.mono fun x W' hx=>?_
 obtain⟨rfl,m,os,rfl⟩:=hx
 have hp:=AG (nD n tb) n
 generalize Sort.pdq (nD n tb) (Array.range n) 0 n (Lib.bitLen n) true true=dk at hp ⊢
 have iF:=(zcb (zeu h0 DD) n).1
 rw[hp]at iF ⊢
 have hdk:dk.size=n:=by simpa using iF.length_eq
 have:=PF m os dk hdk
 rw[mods (fun j hj=>rN.1 (iF.mem_iff.1 hj))]at this
 exact⟨rfl,this⟩
theorem age(hC:mL P B W0 C)(hs:Seen aK aa)(hb:nJ B W0 β W)(hR:RS β (look d ah aa) W){ρ:Ren}(L:SlLaysF.n6 P ρ)
  (htb:(((List.range n).map fun j=>kN 4 (rowAt r 1 j)).mapM fun x=>((List.range n).map fun j=>kN 4 (rowAt r 1 j)).mapM fun y=>Bv C d ah (aK.set bi .gone) (aa.set bi .gone) sl g cap x y)=some tb) (DD:Cl n (nD n tb)=true)
  (hg:aa[bi]?=some (.cells c)) (hbk:β d bi=some (k,s1)) (h0:n≠0) (hbd:n<=bound) (hrl:r.length=n) (hfit:off+n<=c.length) (hsc:r.all IV.scalar=true) (DA:ys.size=n) (hvs:dV β W r ys.toList) (hH:Sort.Holds id W k (off+s1) ys) (nP:k<W.heap.size)
  (hroom:Room W k (off+s1+n)) (hcap:dV β W cap qj.toList) :
  Calls P (ρ.f 6) #[.slice (some ⟨k,off+s1,none⟩) n cap',.func (.func g) #[] qj] W fun x W'=>x=.returned (.tuple #[])/\RS β (look d ah (aa.set bi (.cells (gV c off ((sM (nD n tb) n).flatMap fun j=>rowAt r 1 j))))) W'/\Fr d β W β W':=by
 have hml:∀ x,x%n<n:=fun x=>SM _ (zmd h0)
 have hone:OneCell fun x=>ys[x % n]! := fun x=>yY hvs hsc _ (by
  show ys[x%n]! ∈ ys.toList;rw[getElem!_pos _ _ (by have:=hml x;omega)];exact Array.getElem_mem_toList _)
 have hO:Sort.SWO (ltOf (Xi n tb)):=by rw[←AW];exact zeu h0 DD
 have hH2:Sort.Holds (fun x=>ys[x%n]!) W k (off+s1) (Array.range n):=fun t ht=>by
  have ht':t<n:=by simpa using ht
  obtain⟨g1,g2⟩:=hH t Ω;refine⟨?_,g2⟩;rw[CV ht'];show _=some ys[t%n]!;rw[ND ht'];exact g1
 have PF:∀(m:Nat)(os:Array Obj)(dk:Array Nat),dk.size=n->RS β (look d ah (aa.set bi (.cells (gV c off ((dk.toList.map (·%n)).flatMap fun j=>rowAt r 1 j))))) (sortWorld (fun x=>ys[x%n]!) W k (off+s1) m dk os)/\Fr d β W β (sortWorld (fun x=>ys[x%n]!) W k (off+s1) m dk os):=fun m os dk hdk=>by
  obtain ⟨f1,f2⟩:=Bf (n:=n) (sz:=1) (by rw [zn8]; exact hrl) Nat.one_pos (dk.toList.map (· % n)) (fun j hj=>by
   obtain⟨q,_,rfl⟩:=jA.1 hj;exact hml q)
  have fl:((dk.toList.map (·%n)).flatMap fun j=>rowAt r 1 j).length=n:=by rw[f1];simp[hdk]
  refine Ap (enc:=fun x=>ys[x%n]!) hR hg hbk (by rw[fl];exact hfit) (by rw[fl,hdk]) (fun t x hx=>?_) (by rw[hdk];exact hroom) m os;have Wu:=(cU.1 hx).1;rw[fl,←hdk]at Wu;rw[f2,Nat.div_one,Nat.mod_one,k9,pP,SU Wu,gH,jG,zn8,sY]at hx;obtain⟨y,hy,pT⟩:=hvs.get hx;have e:dk[t]! = dk[t]'Wu:=getElem!_pos _ _ _;rw[e,zch hy];exact pT
 have hcmp:∀(m:Nat)(os:Array Obj)(dk:Array Nat),dk.size=n->∀ x y:Nat,_:=fun m os dk hdk x y=>by
  obtain⟨g1,g2⟩:=PF m os dk hdk;have g3:=Ao g1 (o0:=.cells (gV c off ((dk.toList.map (·%n)).flatMap fun j=>rowAt r 1 j))) (by rw[oa (cU.1 hg).1]);rw[List.set_set]at g3;have hel:∀ x,VR β (sortWorld (fun x=>ys[x%n]!) W k (off+s1) m dk os) (kN 4 (rowAt r 1 (x%n))) ys[x%n]! := fun x=>by
   obtain⟨z,hx⟩:∃ z,r[x%n]?=some z:=⟨_,cK (by rw[hrl];exact hml x)⟩;obtain⟨y,hy,pT⟩:=hvs.get hx;have e:kN 4 (rowAt r 1 (x%n))=z:=by
    have h1:=zce (r:=r) (sz:=1) (j:=x%n) (t:=0) Nat.one_pos;rw[zn8,sY,hx]at h1;unfold kN;rw[bC Δ];cases hr:rowAt r 1 (x%n)with
    |nil=>rw[hr]at h1;cases h1
    |cons a l=>rw[hr]at h1;cases h1;rfl
   rw[e,zch hy];exact pT.ext g2.ext
  exact xk (id:=sl) hC hs (H9 htb h0 x y) (hb.fr g2) g3 (hel x) (hel y) (hcap.ext g2.ext)
 have PN:(Array.range n).size=n:=by simp
 have o8:=Any.slices_SortFunc_eq L (fun x=>ys[x%n]!) hone (Xi n tb) hO g qj k (off+s1) cap' (Array.range n) W (Ep (hcmp 0 #[] (Array.range n) PN 0 0).1) (fun m os dk hdk x y=>(hcmp m os dk (hdk.trans PN) x y).2) hH2 nP (by rw[PN];unfold bound at hbd;omega)
 rw[PN,←AW]at o8
 refine o8.mono fun x W' hx=>?_
 obtain⟨rfl,m,os,rfl⟩:=hx
 have hp:=AG (nD n tb) n
 generalize Sort.pdq (nD n tb) (Array.range n) 0 n (Lib.bitLen n) true true=dk at hp ⊢
 have iF:=(zcb (zeu h0 DD) n).1
 rw[hp]at iF ⊢
 have hdk:dk.size=n:=by simpa using iF.length_eq
 have:=PF m os dk hdk
 rw[mods (fun j hj=>rN.1 (iF.mem_iff.1 hj))]at this
 exact⟨rfl,this⟩
end
theorem KN{id:Nat}{kind sz:Nat}{s:IV}(h:s≠.nilsl):qW C d ah aK aa id kind sz [s]=if kind=6 then(oO d aa sz s).bind fun(i,off,c,r,_)=>(r.mapM Ua).map fun zs=>sD aa i off c ((lJ zs).map (.int .i64))else none:=by cases s<;>first|rfl|exact absurd rfl h
theorem KM{id:Nat}{kind sz:Nat}{s:IV}{g:FuncId}{cap:List IV}(h:s≠.nilsl):qW C d ah aK aa id kind sz [s,.fn g [] cap]=if kind=6 then none else(oO d aa sz s).bind fun(i,off,c,r,n) =>
   (((List.range n).map fun j=>kN kind (rowAt r sz j)).mapM fun x=>((List.range n).map fun j=>kN kind (rowAt r sz j)).mapM fun y=>Bv C d ah (aK.set i .gone) (aa.set i .gone) id g cap x y).bind fun tb =>
    if Cl n (nD n tb)=true then some (sD aa i off c ((sM (nD n tb) n).flatMap fun j=>rowAt r sz j))else none:=by
 cases s<;>first|rfl|exact absurd rfl h
theorem Te{id kind sz:Nat}{args:List IV}{e:eV}{v:IV}{bO:aU}(h:qW C d ah aK aa id kind sz args=some (e,v,bO)):e=.x:=by
 unfold qW at h;split at h
 ·split at h<;>cases h;rfl
 ·split at h<;>cases h;rfl
 ·split at h
  ·obtain⟨q,_,h⟩:=zma.1 h;obtain⟨z,_,h⟩:=map_some h;cases h;rfl
  ·cases h
 ·split at h
  ·cases h
  ·obtain⟨q,_,h⟩:=zma.1 h;obtain⟨tb,_,h⟩:=zma.1 h;split at h<;>cases h;rfl
 ·cases h
theorem NY(hC:mL P B W0 C){f:FuncId}{i:jy}{id:Nat}{args:List IV}{args':List Value}{e:eV}{v:IV}{bO:aU}(hs0:uA P f i)(h:qW C d ah aK aa id i.mode i.ntmps args=some (e,v,bO))(hb:nJ B W0 β W)(hs:Seen aK aa)
  (hR:RS β (look d ah aa) W) (ha:dV β W args args'):Calls P f args'.toArray W fun x W'=>∃ y β',x=.returned y/\VR β' W' v y/\RS β' (look d ah bO) W'/\Fr d β W β' W'/\(e=.r->Below W.heap.size W W'):=by
 obtain⟨_,_,ρ,hk⟩:=hs0
 have hsame:∀{x:Ending}{W':World},x=.returned (.tuple #[])/\W'=W->∃ y β',x=.returned y/\VR β' W' (.tuple []) y/\RS β' (look d ah aa) W'/\Fr d β W β' W'/\(eV.x=.r->Below W.heap.size W W'):=fun{x W'} hx=>by obtain⟨rfl,rfl⟩:=hx;exact⟨_,β,rfl,.tuple rfl (fun j a b ha=>by simp at ha),hR,Fr.refl _ _ _,fun h=>by cases h⟩
 unfold qW at h
 split at h
 ·split at h
  rotate_left
  ·simp at h
  rename_i hm
  cases h
  obtain⟨y,rfl,hy⟩:∃ y,args'=[y]/\VR β W .nilsl y:=by
   obtain⟨h1,h2⟩:=ha;match args',h1 with
   |[y],_=>exact⟨y,rfl,h2 0 _ _ rfl rfl⟩
  cases hy
  rcases hk with⟨h4,_⟩|⟨h5,_⟩|⟨_,_,rfl,L⟩
  ·omega
  ·omega
  ·exact(Any.slices_Sort_int_none L none 0 W).mono fun x W' hx=>hsame hx
 ·rename_i a
  split at h
  ·simp at h
  rename_i hm
  cases h
  obtain⟨y,y2,rfl,hy⟩:∃ y y2,args'=[y,y2]/\VR β W .nilsl y:=by
   obtain⟨h1,h2⟩:=ha;match args',h1 with
   |[y,y2],_=>exact⟨y,y2,rfl,h2 0 _ _ rfl rfl⟩
  cases hy
  rcases hk with⟨_,_,rfl,L⟩|⟨_,_,rfl,L,_⟩|⟨h6,_⟩
  ·exact(AnyF.slices_SortFunc_none { L with } none 0 y2 W).mono fun x W' hx=>hsame hx
  ·exact(AnyF.slices_SortFunc_none L none 0 y2 W).mono fun x W' hx=>hsame hx
  ·omega
 ·rename_i s _
  split at h
  rotate_left
  ·simp at h
  rename_i hm
  obtain⟨y,rfl,hy⟩:∃ y,args'=[y]/\VR β W s y:=by
   obtain⟨h1,h2⟩:=ha;match args',h1 with
   |[y],_=>exact⟨y,rfl,h2 0 _ _ rfl rfl⟩
  cases hrow:oO d aa i.ntmps s with
  |none=>rw[hrow]at h;simp at h
  |some q =>
   obtain⟨bi,off,c,r,n⟩:=q
   rw[hrow,jG]at h
   obtain⟨zs,hzs,hq⟩:=map_some h
   simp only[sD,zi,qN]at hq
   obtain⟨rfl,rfl,rfl⟩:=hq
   obtain⟨k,s1,cap',rfl,hg,hbk,h0,hbd,hrl,hfit,hsc,ys,DA,hvs,hH,nP,hroom⟩:=CF hR hrow hy
   rcases hk with⟨h4,_⟩|⟨h5,_⟩|⟨_,hn1,rfl,L⟩
   ·omega
   ·omega
   rw[hn1,zn8]at hrl hfit DA hroom
   obtain⟨z1,z2⟩:=zG hzs
   have hel:∀ j,j<zs.length->ys[j]! = .int .i64 zs[j]! := fun j hj=>by
    obtain⟨x,hx,Gs⟩:=z2 j _ (cK hj);obtain⟨y,hy,pT⟩:=hvs.get hx;unfold Ua at Gs;split at Gs
    ·cases Gs;rw[pP]at hy;rw[getElem!_def,hy,YD pT,znh,cK hj];rfl
    ·simp at Gs
   have hzn:zs.length=n:=Ω
   have hH2:Sort.Holds (Value.int .i64) W k (off+s1) zs.toArray:=fun j hj=>by
    have hj2:j<zs.length:=by simpa using hj
    obtain⟨g1,g2⟩:=hH j Ω;refine⟨?_,g2⟩;rw[g1];show some ys[j]! = _;rw[hel j hj2];simp
   have o8:=Any.slices_Sort_int L k (off+s1) cap' zs W hH2 nP (by rw[hzn];unfold bound at hbd;omega)
   rw[hzn,NZ]at o8
   refine o8.mono fun x W' hx=>?_
   obtain⟨rfl,m,os,rfl⟩:=hx
   have hpl:(lJ zs).length=n:=(ZB zs).length_eq.trans hzn
   obtain ⟨g1,g2⟩:=Ap (enc:=Value.int .i64) (xs:=(lJ zs).map (.int .i64)) (F:=(lJ zs).toArray) hR hg hbk (by rw [ig,hpl]; exact hfit) Ψ (fun j x hx=>by
    rw[k9]at hx;obtain⟨z,hz,rfl⟩:=zlj.1 hx;rw[getElem!_def,zk9,hz];exact .int _ _) (by simpa [hpl] using hroom) m os
   exact⟨_,β,rfl,.tuple rfl (fun j a b ha=>by simp at ha),g1,g2,fun h=>by cases h⟩
 ·rename_i s g cap _
  split at h
  ·simp at h
  rename_i hm
  obtain⟨y,y2,rfl,hy,hy2⟩:∃ y y2,args'=[y,y2]/\VR β W s y/\VR β W (.fn g [] cap) y2:=by
   obtain⟨h1,h2⟩:=ha;match args',h1 with
   |[y,y2],_=>exact⟨y,y2,rfl,h2 0 _ _ rfl rfl,h2 1 _ _ rfl rfl⟩
  cases hrow:oO d aa i.ntmps s with
  |none=>rw[hrow]at h;simp at h
  |some q =>
   obtain⟨bi,off,c,r,n⟩:=q
   rw[hrow,jG]at h
   obtain⟨tb,htb,hq⟩:=zma.1 h
   split at hq
   rotate_left
   ·simp at hq
   rename_i DD
   simp only[sD,zi,fZ,qN]at hq
   obtain⟨rfl,rfl,rfl⟩:=hq
   obtain⟨k,s1,cap',rfl,hg,hbk,h0,hbd,hrl,hfit,hsc,ys,DA,hvs,hH,nP,hroom⟩:=CF hR hrow hy
   obtain⟨qj,rfl,hcap⟩:∃ qj:Array Value,y2=.func (.func g) #[] qj/\dV β W cap qj.toList:=by
    cases hy2 with
    |@fn _ _ _ first' ahp n1 n2 _ q2 =>
     have:first'=#[]:=Array.size_eq_zero_iff.1 (by simpa using n1.symm)
     subst this
     exact⟨ahp,rfl,by simpa using n2,fun j a b ha hb=>q2 j a b ha (by simpa using hb)⟩
   rcases hk with⟨h4,hn1,rfl,L⟩|⟨h5,hz,rfl,L,aE,zE⟩|⟨h6,_⟩
   ·rw[h4,hn1]at htb
    rw[hn1,zn8]at hrl hfit DA hroom
    refine(age hC hs hb hR L htb DD hg hbk h0 hbd hrl hfit hsc DA hvs hH nP hroom hcap).mono fun x W' hx=>?_
    rw[hn1]
    obtain⟨rfl,h1,h2⟩:=hx
    exact⟨_,β,rfl,.tuple rfl (fun j a b ha=>by simp at ha),h1,h2,fun h=>by cases h⟩
   ·rw[h5]at htb
    refine(agd hC hs hb hR hz L aE zE htb DD hg hbk h0 hbd hrl hfit hsc DA hvs hH nP hroom hcap).mono fun x W' hx=>?_
    obtain⟨rfl,h1,h2⟩:=hx
    exact⟨_,β,rfl,.tuple rfl (fun j a b ha=>by simp at ha),h1,h2,fun h=>by cases h⟩
   ·omega
 ·simp at h
end
end
section
open Go Go.RowKit
def uz(P:Program)(B:Nat)(W0:World)(S:cZ):Prop:=∀(f:FuncId)(args:List IV)(v:IV),S f args=some v ->
 (∃ fn, P.funcs[f]? = some fn ∧ fn.name ≠ "runtime.NumGoroutine" ∧ fn.body.isSome = true) ∧
 ∀(β:Pl)(W:World)(args':List Value),nJ B W0 β W->dV β W args args'->Calls P f args'.toArray W fun x W'=>∃ y,x=.returned y/\Below W.heap.size W W'/\VR β W' v y
def Kc(P:Program)(F:FuncId->Option jy):Prop:=∀(f:FuncId)(i:jy),F f=some i->(i.mode<4/\∃ fn,P.funcs[f]?=some fn/\cFn P fn i.mode=some i)∨uA P f i
section
variable {P:Program} {B:Nat} {W0:World} {F:FuncId->Option jy} {S:cZ}
theorem ac0{d:Nat}{ah:bR}{aa aK:aU}{β:Pl}{W:World}(hR:RS β (look d ah aa) W)(hs:Seen aK aa):RS β (look (d+1) (fun l=>if l=d then aK else ah l) []) W:=by
 have lk:∀{l i o},look (d+1) (fun l=>if l=d then aK else ah l) [] l i=some o->look d ah aa l i=some o∨(o=.gone/\l=d):=fun{l i o} h=>by
  unfold look at h ⊢;split at h
  ·simp at h
  ·split at h
   ·dsimp only at h;by_cases hl:l=d
    ·rw[bt hl]at h;rw[bt hl];exact(hs.2 i o h).imp id fun h=>⟨h,hl⟩
    ·rw[bC hl]at h;rw[bC hl,bt Ω];exact .inl h
   ·simp at h
 have nl:∀{l:Nat}{o:aO},(o=.gone/\l=d)->o.live=true->False:=fun{l o} h hl=>by rw[h.1]at hl;simp[aO.live]at hl
 constructor
 ·intro l i k s o hb hg;rcases lk hg with h|h
  ·exact hR.obj _ _ _ _ _ hb h
  ·rw[h.1];trivial
 ·intro l i l' i' k s s' o o' hb hb' hg hg' hl hl';rcases lk hg with h|h
  ·rcases lk hg' with h'|h'
   ·exact hR.one _ _ _ _ _ _ _ _ _ hb hb' h h' hl hl'
   ·exact(nl h' hl').elim
  ·exact(nl h hl).elim
 ·exact hR.here
 ·intro l i o hg hl;rcases lk hg with h|h
  ·exact hR.has _ _ _ h hl
  ·exact(nl h hl).elim
 ·intro l i p hb;obtain⟨o,ho⟩:=hR.dom _ _ _ hb;unfold look at ho ⊢;dsimp only;by_cases hl:l=d
  ·subst hl;rw[bt rfl]at ho;rw[bC Ω,bt Ω,bt rfl];have:i<aK.length:=by rw[hs.1];exact(cU.1 ho).1
   exact⟨_,cK this⟩
  ·rw[bC hl]at ho;split at ho
   ·rename_i au;rw[bC Ω,bt Ω,bC hl];exact⟨o,ho⟩
   ·simp at ho
theorem Co{β:Pl}{W:World}{args:List IV}{args':List Value}(h:dV β W args args')(n:Nat):TR β W (args++List.replicate (n-args.length) (.tuple [])) (args'.toArray++Array.replicate (n-args'.toArray.size) undef):=by
 unfold TR;rw[Array.toList_append,Array.toList_replicate];refine h.append ⟨by simp[h.1],fun j x y hx hy=>?_⟩;rw[zn9]at hx hy;split at hx
 ·split at hy
  ·cases hx;cases hy;exact zax
  ·simp at hy
 ·simp at hx
theorem LI{d:Nat}{ah:bR}{aK qZ aa tM:aU}{β β1:Pl}{W W1:World}{n id mode:Nat}{v v':IV}{x:Value}{e:eV}(hR:RS β (look d ah qZ) W)(uL:RS β1 (look (d+1) (fun l=>if l=d then aK else ah l) aa) W1)
  (hF:Fr (d+1) β W β1 W1) (hv:VR β1 W1 v x) (hl:leave n d aa qZ id mode v=some (e,v',tM)):∃ β',VR β' W1 v' x/\RS β' (look d ah tM) W1/\Fr d β W β' W1:=by
 have hno:∀ i p,β (d+1) i≠some p:=fun i p hb=>by obtain⟨o,ho⟩:=hR.dom _ _ _ hb;unfold look at ho;rw[bC Ω,bC Ω]at ho;simp at ho
 have jQ:Below W.heap.size W W1:=hF.below hno
 have hnew:∀ i k s,β1 (d+1) i=some (k,s)->W.heap.size<=k:=fun i k s hb=>by
  rcases hF.fresh _ _ _ _ hb with h|⟨_,⟨i',s',h⟩|h⟩
  ·exact absurd h (hno _ _)
  ·exact absurd h (hno _ _)
  ·exact h
 have hold:∀ l i p,l≠d+1->β1 l i=some p->β l i=some p:=fun l i p hl hb=>by
  rcases hF.fresh l i p.1 p.2 hb with h|⟨h,_⟩
  ·exact h
  ·exact absurd h hl
 have hlk:∀ i,look (d+1) (fun l=>if l=d then aK else ah l) aa (d+1) i=aa[i]?:=fun i=>yf i
 unfold leave at hl
 split at hl
 ·rename_i i off len cap sz tight r hm
  unfold handed at hl
  split at hl
  ·rename_i c hc
   split at hl
   ·rename_i s hs
    split at hl
    ·rename_i c' ve
     have tX:∃(xs:Value),(VR β1 W1 (.slM (d+1) i off len cap sz tight) xs)/\((r=none/\xs=x/\dU qZ id (.cells c') (.slM d id 0 len cap sz tight)=some (e,v',tM))∨∃(rl r':List IV)(ws:List Value),r=some rl/\rl.mapM (freeze n (d+1) (aa.set i .gone))=some r'/\dV β1 W1 rl ws/\x=.tuple (xs::ws).toArray/\dU qZ id (.cells c') (.tuple (.slM d id 0 len cap sz tight::r'))=some (e,v',tM)):=by
      split at hm
      ·split at hm
       ·split at hm
        ·rename_i om;cases hm;subst om;exact⟨x,hv,.inl ⟨rfl,rfl,hl⟩⟩
        ·simp at hm
       ·rename_i l0 i0 aht ahu ahy sz0 aey r0;split at hm
        ·rename_i om;cases hm;subst om;obtain⟨ws,hw,rfl⟩:=FD hv;have h1:=hw.1;cases PE:ws.toList with
         |nil=>rw[PE]at h1;simp at h1
         |cons y ys =>
          rw[PE]at hw
          simp only at hl
          split at hl
          ·rename_i r' hr'
           refine⟨y,hw.2 0 _ _ rfl rfl,.inr ⟨_,r',ys,rfl,hr',⟨by have:=hw.1;simpa using this,fun j a b ha hb=>hw.2 (j+1) a b (by simpa using ha) (by simpa using hb)⟩,?_,hl⟩⟩
           rw[←PE]
          ·simp at hl
        ·simp at hm
       ·simp at hm
      ·simp at hm
     obtain⟨xs,hvs,hcs⟩:=tX
     obtain⟨k,s0,o',cap',hb,ho,om,jD,SF,hrm,rfl⟩:=XO hvs
     have hown:look (d+1) (fun l=>if l=d then aK else ah l) aa (d+1) i=some (.cells c):=by rw[hlk];exact hc
     have Jl:=uL.obj _ _ _ _ _ hb hown
     obtain⟨g1,g2⟩:=ZS hs
     obtain⟨m1,m2⟩:=zG ve
     have hfree:qZ[id]?=some .free:=by
      rcases hcs with⟨_,_,h⟩|⟨_,_,_,_,_,_,_,h⟩
      ·exact(yo h).1
      ·exact(yo h).1
     have hnone:β d id=none:=hR.free (by rw[yf];exact hfree)
     have hk1:k<W1.heap.size:=uL.here _ _ _ _ hb
     have frz:∀(z z':IV)(y:Value),VR β1 W1 z y->freeze n (d+1) (aa.set i .gone) z=some z'->VR (upd β d id (k,o')) W1 z' y:=by
      intro z z' y;refine yh (fun l j p hne sI=>?_) (fun k2 hk2=>⟨hk2.1,fun l j s2 sI=>?_⟩) (fun j k2 s2 o2 sI hg hlv=>?_) n z z' y
      ·have:=hold l j p hne sI;rw[y3]
       ·exact this
       ·rintro⟨rfl,rfl⟩;rw[hnone]at this;simp at this
      ·by_cases hq:l=d/\j=id
       ·rw[hq.1,hq.2,zU]at sI;cases sI;exact hk2.2 _ _ _ hb
       ·rw[y3 hq]at sI;exact hk2.2 _ _ _ (hF.keep _ _ _ sI)
      ·have hji:j≠i:=by rintro rfl;rw[oa (cU.1 hc).1]at hg;cases hg;simp[aO.live]at hlv
       rw[nr (uE hji)]at hg;have hg':look (d+1) (fun l=>if l=d then aK else ah l) aa (d+1) j=some o2:=by rw[hlk];exact hg
       refine⟨⟨uL.here _ _ _ _ sI,fun l j' s3 hbq=>?_⟩,uL.obj _ _ _ _ _ sI hg'⟩;by_cases hq:l=d/\j'=id
       ·rw[hq.1,hq.2,zU]at hbq;cases hbq;exact hji (uL.one _ _ _ _ _ _ _ _ _ sI hb hg' hown hlv rfl).2
       ·rw[y3 hq]at hbq;have h5:=hR.here _ _ _ _ hbq;have h6:=hnew _ _ _ sI;omega
     have hcells:OR (upd β d id (k,o')) W1 k o' (.cells c'):=by
      obtain⟨cc,ty,hh,qE⟩:=Jl;refine⟨cc,ty,hh,fun j z hz=>?_⟩;obtain⟨z0,hz0,hfz⟩:=m2 j z hz;obtain⟨y,hy,pT⟩:=qE _ _ (g2 j z0 hz0);have hne:cap≠0:=by intro h0;have hj:=(cU.1 hz).1;rw[m1,g1,h0,qw]at hj;omega
      refine⟨y,?_,frz _ _ _ pT hfz⟩;rw[←hy,ho.resolve_left hne];congr 1;omega
     obtain⟨hRn,hFn⟩:=zed (W':=W1) (k:=k) (s:=o') (o:=.cells c') hR hfree (fun l j s' o2 sI _ _=>by have h5:=hR.here _ _ _ _ sI;have h6:=hnew _ _ _ hb;omega) (.inl (hnew _ _ _ hb)) (fun k2 _ hk2=>jQ.block k2 hk2) jQ.size hk1
      (fun c2 t2 f2 mF=>absurd (Fb.1 mF).1 (by have:=hnew _ _ _ hb;omega)) jQ.os jQ.tape jQ.output (fun _=>hcells)
     have hsl:VR (upd β d id (k,o')) W1 (.slM d id 0 len cap sz tight) (.slice (some ⟨k,o',none⟩) len cap'):=.slM (zU _ _ _ _) (.inr Ω) om jD SF hrm
     rcases hcs with⟨rfl,DB,hmk⟩|⟨rl,r',ws,rfl,hr',hw,rfl,hmk⟩
     ·obtain⟨_,_,rfl,rfl⟩:=yo hmk
      subst DB
      exact⟨_,hsl,hRn,hFn⟩
     ·obtain⟨_,_,rfl,rfl⟩:=yo hmk
      refine⟨_,?_,hRn,hFn⟩
      obtain⟨r1,r2⟩:=zG hr'
      have hw':dV (upd β d id (k,o')) W1 r' ws:=⟨r1.trans hw.1,fun j a b ha hb'=>by
       obtain⟨a0,ha0,Gu⟩:=r2 j a ha;exact frz _ _ _ (hw.2 j a0 b ha0 hb') Gu⟩
      have hall:=hsl |> fun h=>dV.cons h hw'
      exact .tuple (by simpa using hall.1) (fun j a b ha hb'=>hall.2 j a b ha (by simpa using hb'))
    ·simp at hl
   ·simp at hl
  ·simp at hl
 ·obtain⟨v2,hv2,hq⟩:=map_some hl
  cases hq
  refine⟨β,?_,hR.old jQ.block jQ.size,Fr.q9 jQ⟩
  refine yh (fun l j p hne sI=>hold l j p hne sI) (fun k2 hk2=>⟨hk2.1,fun l j s2 sI=>hk2.2 _ _ _ (hF.keep _ _ _ sI)⟩) (fun j k2 s2 o2 sI hg hlv=>?_) n v v' x hv hv2
  refine⟨⟨uL.here _ _ _ _ sI,fun l j' s3 hbq=>?_⟩,uL.obj _ _ _ _ _ sI (by rw[hlk];exact hg)⟩
  have h5:=hR.here _ _ _ _ hbq
  have h6:=hnew _ _ _ sI
  omega
theorem LJ{d:Nat}{ah:bR}{aK qZ aa tM:aU}{n id mode:Nat}{v v':IV}{e:eV}(hl:leave n d aa qZ id mode v=some (e,v',tM)) :
  (e=.r/\tM=qZ/\∀ o,leave n d aa o id mode v=some (.r,v',o))∨∃ O,∀ o,leave n d aa o id mode v=dU o id O v':=by
 unfold leave at hl ⊢
 split at hl
 ·rename_i i off len cap sz tight r hm
  try simp only[hm]
  unfold handed at hl ⊢
  split at hl
  ·rename_i c hc
   try simp only[hc]
   split at hl
   ·rename_i s hs
    try simp only[hs]
    split at hl
    ·rename_i c' ve
     try simp only[ve]
     split at hl
     ·obtain⟨_,_,rfl,_⟩:=yo hl
      exact .inr ⟨_,fun o=>rfl⟩
     ·split at hl
      ·rename_i r' hr'
       obtain⟨_,_,rfl,_⟩:=yo hl
       refine .inr ⟨.cells c',fun o=>?_⟩
       try simp only[hr']
      ·simp at hl
    ·simp at hl
   ·simp at hl
  ·simp at hl
 ·rename_i hm
  obtain⟨v2,hv2,hq⟩:=map_some hl
  cases hq
  refine .inl ⟨rfl,rfl,fun o=>?_⟩
  simp only[hv2,gH]
theorem zci{α:Type}{x:Option (Out×St)}{k:St->Option α}{r:α}(h:ended x k=some r):∃ o st,x=some (o,st)/\(o=.normal∨o=.ret)/\k st=some r:=by
 unfold ended at h;split at h
 ·exact⟨_,_,rfl,.inl rfl,h⟩
 ·exact⟨_,_,rfl,.inr rfl,h⟩
 ·simp at h
theorem Mt:∀ n,sK (aM F S n)
 |0=>fun d ah aK aa id f args e v bO h=>by simp[aM]at h
 |n+1=>fun d ah aK aa id f args e v bO h=>by
  unfold aM at h ⊢;split at h
  ·rename_i w hw;cases h;try simp only[hw]
   exact⟨rfl,fun o=>rfl⟩
  ·rename_i hw;try simp only[hw]
   split at h
   ·simp at h
   ·rename_i fn hfn;try simp only[hfn]
    split at h
    ·obtain⟨o,st,_,_,hk⟩:=zci h;obtain⟨w,_,hq⟩:=map_some hk;cases hq;trivial
    ·rename_i P0;try simp only[bC P0]
     split at h
     ·rename_i h3;try simp only[bt h3]
      cases has:args.mapM (bA 12 d aK)with
      |none=>rw[has]at h;simp at h
      |some az =>
       rw[has]at h
       simp only[jG]at h
       obtain⟨o,st,hx,ho,hk⟩:=zci h
       cases hr:bP 0 (fun _=>[]) st fn.res with
       |none=>rw[hr]at hk;simp at hk
       |some w =>
        rw[hr]at hk
        simp only[jG]at hk
        have hfun:∀ o2,((some az).bind fun az=>ended (exec (aM F S n) 0 (fun _=>[]) n fn.body ⟨lit (az++List.replicate (fn.ntmps-az.length) (.tuple [])),[]⟩) fun st=>(bP 0 (fun _=>[]) st fn.res).bind fun v=>pR o2 v)=pR o2 w:=fun o2=>by simp only[jG];rw[hx];rcases ho with rfl|rfl<;>simp only[ended,hr,jG]
        cases w with
        |int k x =>
         cases hk
         refine⟨rfl,fun o2=>?_⟩
         simp only[has]
         exact hfun o2
        |bool b =>
         cases hk
         refine⟨rfl,fun o2=>?_⟩
         simp only[has]
         exact hfun o2
        |_=>simp[pR]at hk
     rename_i h3;try simp only[bC h3]
     split at h
     ·obtain rfl:=Te h;trivial
     rename_i h4;try simp only[bC h4]
     obtain⟨o,st,hx,ho,hk⟩:=zci h;cases hr:bP (d+1) (fun l=>if l=d then aK else ah l) st fn.res with
     |none=>rw[hr]at hk;simp at hk
     |some w =>
      rw[hr]at hk
      simp only[jG]at hk
      have hfun:∀ o2,ended (exec (aM F S n) (d+1) (fun l=>if l=d then aK else ah l) n fn.body ⟨lit (args++List.replicate (fn.ntmps-args.length) (.tuple [])),[]⟩) (fun st=>(bP (d+1) (fun l=>if l=d then aK else ah l) st fn.res).bind fun v=>leave n d st.aa o2 id fn.mode v)=leave n d st.aa o2 id fn.mode w:=fun o2=>by rw[hx];rcases ho with rfl|rfl<;>simp only[ended,hr,jG]
      rcases LJ (ah:=ah) (aK:=aK) hk with⟨rfl,rfl,hall⟩|⟨O,hall⟩
      ·exact⟨rfl,fun o2=>(hfun o2).trans (hall o2)⟩
      ·exact Yn (fun o2=>(hfun o2).trans (hall o2)) h
theorem Tw{W:World}:RS fK (look 0 (fun _=>[]) []) W:=by
 refine⟨fun l i k s o hb=>?_,fun l i l' i' k s s' o o' hb=>?_,fun l i k s hb=>?_,fun l i o hg hl=>?_,fun l i p hb=>?_⟩
 ·simp[fK]at hb
 ·simp[fK]at hb
 ·simp[fK]at hb
 ·unfold look at hg;split at hg
  ·simp at hg
  ·split at hg
   ·omega
   ·simp at hg
 ·simp[fK]at hb
theorem Am{β:Pl}{W:World}(h:nJ B W0 β W):nJ B W0 fK W:=by obtain⟨_,h2,h3⟩:=h;exact⟨fun l i k s hb=>by simp[fK]at hb,h2,h3⟩
theorem zey(hm:P.follows .mixedOrders=true)(hF:Kc P F)(hS:uz P B W0 S):∀ n,mL P B W0 (aM F S n)
 |0=>fun d ah aK aa id f args e v bO args' β W h=>by simp[aM]at h
 |n+1=>fun d ah aK aa id f args e v bO args' β W h hb hs hR hargs=>by
  have hC:=zey hm hF hS n;have hE:=Mt (F:=F) (S:=S) n;unfold aM at h;split at h
  ·rename_i w hw;cases h;obtain⟨h1,h2⟩:=hS f args v hw;refine⟨h1,(h2 β W args' hb hargs).mono fun x W' hx=>?_⟩;obtain⟨y,rfl,jQ,hv⟩:=hx;exact⟨y,β,rfl,hv,hR.old jQ.block jQ.size,Fr.q9 jQ,fun _=>jQ⟩
  ·split at h
   ·simp at h
   ·rename_i i hi;rcases hF f i hi with⟨au,fn,hfn,B9⟩|Gn;rotate_left
    ·have h4:=Gn.2.1;rw[bC Ω,bC Ω,bt h4]at h;exact⟨Gn.1,NY hC Gn h hb hs hR hargs⟩
    unfold cFn at B9;split at B9
    ·simp at B9
    ·rename_i hnm;split at B9
     ·simp at B9
     ·rename_i c hbody;split at B9
      ·rename_i ib ir hcb hcr;have hi2:i=⟨fn.ntmps,ir,ib,i.mode⟩:=(kT B9).symm;refine⟨⟨fn,hfn,hnm,by rw[hbody];rfl⟩,?_⟩;refine calls_of_wp hfn hbody ?_;rw[hi2]at h;simp only at h;have hst:=Co hargs fn.ntmps;split at h
       ·obtain⟨o,st,hx,ho,hk⟩:=zci h;obtain⟨w,hw,hq⟩:=map_some hk;cases hq;rw[zi]at hx;refine zet hC hE hm c hcb hx hb hst hR fun β1 W1 a1 g1 g2 g3 g4=>?_;obtain⟨y,hy,pT⟩:=zam hcr g1 g2 hw;have hgoal:a1.defers=[]/\∃ u,(results fn a1.tmps).run P W1=.ok u W1/\∃ y β',Ending.returned u=.returned y/\VR β' W1 v y/\RS β' (look d ah st.aa) W1/\Fr d β W β' W1/\(eV.x=.r->Below W.heap.size W W1) :=
         ⟨g4,y,hy,y,β1,rfl,pT,g2,g3,fun h=>by cases h⟩
        rcases ho with rfl|rfl
        ·exact hgoal
        ·exact hgoal
       ·split at h
        ·cases has:args.mapM (bA 12 d aK)with
         |none=>rw[has]at h;simp at h
         |some az =>
          rw[has]at h
          simp only[jG]at h
          obtain⟨o,st,hx,ho,hk⟩:=zci h
          rw[zi]at hx
          cases hr:bP 0 (fun _=>[]) st ir with
          |none=>rw[hr]at hk;simp at hk
          |some w =>
           rw[hr]at hk
           simp only[jG]at hk
           have abd:dV fK W az args':=Bc (fun i k s o sI hg hlv=>by
            have hg2:aa[i]?=some o:=by
             rcases hs.2 i o hg with h|h
             ·exact h
             ·rw[h]at hlv;simp[aO.live]at hlv
            exact ⟨hR.here _ _ _ _ sI,hR.obj _ _ _ _ _ sI (by rw [yf]; exact hg2)⟩) hargs has
           refine zet hC hE hm c hcb hx (Am hb) (Co abd fn.ntmps) Tw fun β1 W1 a1 g1 g2 g3 g4=>?_
           obtain⟨y,hy,pT⟩:=zam hcr g1 g2 hr
           have jQ:Below W.heap.size W W1:=g3.below fun i p hb=>by simp[fK]at hb
           have PG:bO=aa/\VR β W1 v y:=by
            cases w with
            |int k x=>cases hk;refine⟨rfl,?_⟩;rw[YD pT];exact .int k x
            |bool b=>cases hk;refine⟨rfl,?_⟩;rw[Z6 pT];exact .bool b
            |_=>simp[pR]at hk
           obtain⟨rfl,PG⟩:=PG
           have hgoal:a1.defers=[]/\∃ u,(results fn a1.tmps).run P W1=.ok u W1/\∃ y β',Ending.returned u=.returned y/\VR β' W1 v y/\RS β' (look d ah bO) W1/\Fr d β W β' W1/\(e=.r->Below W.heap.size W W1) :=
            ⟨g4,y,hy,y,β,rfl,PG,hR.old jQ.block jQ.size,Fr.q9 jQ,fun _=>jQ⟩
           rcases ho with rfl|rfl
           ·exact hgoal
           ·exact hgoal
        ·rw[bC Ω]at h;obtain⟨o,st,hx,ho,hk⟩:=zci h;rw[zi]at hx;cases hr:bP (d+1) (fun l=>if l=d then aK else ah l) st ir with
         |none=>rw[hr]at hk;simp at hk
         |some w =>
          rw[hr]at hk
          simp only[jG]at hk
          refine zet hC hE hm c hcb hx hb hst (ac0 hR hs) fun β1 W1 a1 g1 g2 g3 g4=>?_
          obtain⟨y,hy,pT⟩:=zam hcr g1 g2 hr
          obtain⟨β',q1,q2,q3⟩:=LI hR g2 g3 pT hk
          have hgoal:a1.defers=[]/\∃ u,(results fn a1.tmps).run P W1=.ok u W1/\∃ y β',Ending.returned u=.returned y/\VR β' W1 v y/\RS β' (look d ah bO) W1/\Fr d β W β' W1/\(e=.r->Below W.heap.size W W1) :=
           ⟨g4,y,hy,y,β',rfl,q1,q2,q3,fun _=>g3.below fun i p sI=>by
            obtain⟨o3,ho3⟩:=hR.dom _ _ _ sI;unfold look at ho3;rw[bC Ω,bC Ω]at ho3;cases ho3⟩
          rcases ho with rfl|rfl
          ·exact hgoal
          ·exact hgoal
      ·simp at B9
theorem K1(hm:P.follows .mixedOrders=true)(hF:Kc P F){W:World}(hS:uz P W.heap.size W S){n:Nat}{f:FuncId}{args:List IV}{e:eV}{v:IV}{bO:aU}(h:aM F S n 0 (fun _=>[]) [] [] 0 f args=some (e,v,bO)){args':List Value}(ha:dV fK W args args') :
  Calls P f args'.toArray W fun x W'=>∃ y β',x=.returned y/\VR β' W' v y/\Below W.heap.size W W':=by
 have hR:RS fK (look 0 (fun _=>[]) []) W:=by
  refine⟨fun l i k s o hb=>?_,fun l i l' i' k s s' o o' hb=>?_,fun l i k s hb=>?_,fun l i o hg hl=>?_,fun l i p hb=>?_⟩
  ·simp[fK]at hb
  ·simp[fK]at hb
  ·simp[fK]at hb
  ·unfold look at hg;split at hg
   ·simp at hg
   ·split at hg
    ·omega
    ·simp at hg
  ·simp[fK]at hb
 obtain⟨_,h2⟩:=zey hm hF hS n 0 (fun _=>[]) [] [] 0 f args e v bO args' fK W h ⟨fun l i k s hb=>by simp[fK]at hb,dz _,Below.refl _ _⟩ ⟨rfl,fun i o h=>.inl h⟩ hR ha
 refine h2.mono fun x W' hx=>?_
 obtain⟨y,β',h3,h4,_,h6,_⟩:=hx
 exact⟨y,β',h3,h4,h6.below fun i p hb=>by simp[fK]at hb⟩
end
section
variable {C:Call} {d:Nat} {ah:bR} {n n0:Nat} {st st':St} {K:fP}
def Ex(C:Call)(d:Nat)(ah:bR)(n:Nat)(ic:IC)(K:fP)(st:St):Prop:=∃ o st',exec C d ah n ic st=some (o,st')/\K o st'
theorem Ex.mono{ic:IC}{K':fP}(h:Ex C d ah n ic K st)(hk:∀ o st',K o st'->K' o st'):Ex C d ah n ic K' st:=let⟨o,st',h1,h2⟩:=h;⟨o,st',h1,hk o st' h2⟩
theorem UJ(h:K .normal st):Ex C d ah n .skip K st:=⟨_,_,rfl,h⟩
theorem abh(h:K .ret st):Ex C d ah n .ret K st:=⟨_,_,rfl,h⟩
theorem UL{id:Nat}(h:K (.exit id) st):Ex C d ah n (.exit id) K st:=⟨_,_,rfl,h⟩
def andThen(k:St->Prop)(K:fP):fP
 |.normal,st=>k st
 |o,st=>K o st
theorem abg{a b:IC}(h:Ex C d ah n a (andThen (Ex C d ah n b K) K) st):Ex C d ah n (.seq a b) K st:=by
 obtain⟨o,st1,h1,h2⟩:=h;cases o with
 |normal =>
  obtain⟨o2,st2,h3,h4⟩:=h2
  exact⟨o2,st2,by simp only[exec,h1,KT,h3],h4⟩
 |exit id=>exact⟨_,st1,by simp only[exec,h1,KT],h2⟩
 |ret=>exact⟨_,st1,by simp only[exec,h1,KT],h2⟩
def inBlock(id:Nat)(K:fP):fP
 |.exit j,st=>if j=id then K .normal st else K (.exit j) st
 |o,st=>K o st
theorem Qz{id:Nat}{a:IC}(h:Ex C d ah n a (inBlock id K) st):Ex C d ah n (.block id a) K st:=by
 obtain⟨o,st1,h1,h2⟩:=h;cases o with
 |normal=>exact⟨_,st1,by simp only[exec,h1,qI],h2⟩
 |ret=>exact⟨_,st1,by simp only[exec,h1,qI],h2⟩
 |exit j =>
  by_cases hj:j=id
  ·simp only[inBlock,bt hj]at h2
   exact⟨.normal,st1,by simp only[exec,h1,qI,bt hj],h2⟩
  ·simp only[inBlock,bC hj]at h2
   exact⟨.exit j,st1,by simp only[exec,h1,qI,bC hj],h2⟩
theorem UK{a:IC}(I:Nat->St->Prop)(j:Nat)(hn:j<n)(h0:I j st)(h:∀ j st,I j st->Ex C d ah n a (andThen (fun st'=>∃ j',j'<j/\I j' st') K) st):Ex C d ah n (.loop a) K st:=by
 have key:∀(m j:Nat)(st:St),j<m->I j st->∃ o st',iter (exec C d ah n a) m st=some (o,st')/\K o st':=by
  intro m;induction m with
  |zero=>intro j st hj;omega
  |succ m ih =>
   intro j st hj hI
   obtain⟨o,st1,h1,h2⟩:=h j st hI
   cases o with
   |normal =>
    obtain⟨j',hj',hI'⟩:=h2
    obtain⟨o2,st2,h3,h4⟩:=ih j' st1 Ω hI'
    exact⟨o2,st2,by simp only[iter,h1,h3],h4⟩
   |exit id=>exact⟨_,st1,by simp only[iter,h1],h2⟩
   |ret=>exact⟨_,st1,by simp only[iter,h1],h2⟩
 obtain⟨o,st',h1,h2⟩:=key n j st hn h0;exact⟨o,st',by simp only[exec,h1],h2⟩
def Rn(C:Call)(d:Nat)(ah:bR)(n0:Nat)(ops:List dc)(k:St->Prop)(t:List IV)(aa:aU):Prop:=∃ es st',kV C d ah false n0 ops ⟨t,aa⟩=some (es,st')/\k st'
theorem UI{slots:Nat}{ops:List dc}{fr:List (Nat×Nat)}(h:Rn C d ah st.aa.length ops (K .normal) st.t (st.aa++List.replicate slots .free)):Ex C d ah n (.region false slots ops fr) K st:=by obtain⟨es,st',h1,h2⟩:=h;refine⟨.normal,st',?_,h2⟩;simp only[exec,nw,zi,h1,BW,iY,if_true]
variable {t:List IV} {aa aX:aU} {k:St->Prop} {rest:List dc}
theorem aaj(h:k ⟨t,aa⟩):Rn C d ah n0 [] k t aa:=⟨_,_,rfl,h⟩
theorem Ty{dst:Option Nat}{op:kA}{vis:List Nat}{e:eV}{v:IV}(he:cH C d ah n0 aa aa t op=some (e,v,aX))(h:Rn C d ah n0 rest k (put t dst v) aX):Rn C d ah n0 (⟨dst,op,none,vis⟩::rest) k t aa:=by obtain⟨es,st',h1,h2⟩:=h;refine⟨e::es,st',?_,h2⟩;simp only[kV,iM,dB,if_true,l7,if_false,he,h1]
theorem ac1{dst:Option Nat}{op:kA}{vis:List Nat}{g:Nat×Bool}(hg:dB t (some g)=false)(h:Rn C d ah n0 rest k (put t dst (.tuple [])) aa):Rn C d ah n0 (⟨dst,op,some g,vis⟩::rest) k t aa:=by obtain⟨es,st',h1,h2⟩:=h;refine⟨.p::es,st',?_,h2⟩;simp only[kV,iM,hg,l7,if_false,h1]
def Rd(C:Call)(d:Nat)(ah:bR)(n0:Nat)(ops:List dc)(k:List eV->St->Prop)(t:List IV)(aa:aU):Prop:=∃ es st',kV C d ah true n0 ops ⟨t,aa⟩=some (es,st')/\k es st'
theorem Qy{slots:Nat}{ops:List dc}{fr:List (Nat×Nat)}(h:Rd C d ah st.aa.length ops (fun es st'=>fr.all (fun ji=>comm (es.getD ji.1 .x) (es.getD ji.2 .x))=true/\K .normal st') st.t (st.aa++List.replicate slots .free)):Ex C d ah n (.region true slots ops fr) K st:=by obtain⟨es,st',h1,h2,h3⟩:=h;refine⟨.normal,st',?_,h3⟩;simp only[exec,nw,zi,h1,vA,iS];rw[bt h2]
variable {kd:List eV->St->Prop}
theorem aam(h:kd [] ⟨t,aa⟩):Rd C d ah n0 [] kd t aa:=⟨_,_,rfl,h⟩
theorem TH{dst:Option Nat}{op:kA}{vis:List Nat}{e:eV}{v:IV}(he:cH C d ah n0 (b7 vis n0 aa) aa t op=some (e,v,aX))(h:Rd C d ah n0 rest (fun es st'=>kd (e::es) st') (put t dst v) aX):Rd C d ah n0 (⟨dst,op,none,vis⟩::rest) kd t aa:=by obtain⟨es,st',h1,h2⟩:=h;refine⟨e::es,st',?_,h2⟩;simp only[kV,iM,dB,if_true,he,h1]
theorem ac4{dst:Option Nat}{op:kA}{vis:List Nat}{g:Nat×Bool}(hg:dB t (some g)=false)(h:Rd C d ah n0 rest (fun es st'=>kd (.p::es) st') (put t dst (.tuple [])) aa):Rd C d ah n0 (⟨dst,op,some g,vis⟩::rest) kd t aa:=by obtain⟨es,st',h1,h2⟩:=h;refine⟨.p::es,st',?_,h2⟩;simp only[kV,iM,hg,l7,if_false,h1]
end
def Fz(k:Nat)(v:IV):Prop:=∀ m,k<=m->∀ lv aa,freeze m lv aa v=some v
theorem Fz.le{k k':Nat}{v:IV}(h:Fz k v)(hk:k<=k'):Fz k' v:=fun m hm=>h m (lW hk hm)
theorem zS{f:IV->Option IV}:∀{l:List IV},(∀ x∈l,f x=some x)->l.mapM f=some l
 |[],_=>rfl
 |x::l,h=>by rw[rO,h x (kB ..),zS (l:=l) fun y hy=>h y (nk _ hy)];rfl
theorem zj{b:Bool}:Fz 1 (.bool b):=fun m hm lv aa=>by obtain⟨m,rfl⟩:∃ q,m=q+1:=⟨m-1,Ω⟩;rfl
theorem zn{k:IntKind}{i:Int}:Fz 1 (.int k i):=fun m hm lv aa=>by obtain⟨m,rfl⟩:∃ q,m=q+1:=⟨m-1,Ω⟩;rfl
theorem Qm{s:ByteArray}:Fz 1 (.str s):=fun m hm lv aa=>by obtain⟨m,rfl⟩:∃ q,m=q+1:=⟨m-1,Ω⟩;rfl
theorem Zb:Fz 1 .nilsl:=fun m hm lv aa=>by obtain⟨m,rfl⟩:∃ q,m=q+1:=⟨m-1,Ω⟩;rfl
theorem Bb{k:Nat}{cs:List IV}{len sz:Nat}{tight:Bool}(h:∀ x∈cs,Fz k x):Fz (k+1) (.slC cs len sz tight):=fun m hm lv aa=>by obtain⟨m,rfl⟩:∃ q,m=q+1:=⟨m-1,Ω⟩;simp only[freeze,zS fun x hx=>h x hx m Ω lv aa,gH]
theorem Gz{k:Nat}{cs:List IV}(h:∀ x∈cs,Fz k x):Fz (k+1) (.agg cs):=fun m hm lv aa=>by obtain⟨m,rfl⟩:∃ q,m=q+1:=⟨m-1,Ω⟩;simp only[freeze,zS fun x hx=>h x hx m Ω lv aa,gH]
theorem zbc{k:Nat}{cs:List IV}(h:∀ x∈cs,Fz k x):Fz (k+1) (.tuple cs):=fun m hm lv aa=>by obtain⟨m,rfl⟩:∃ q,m=q+1:=⟨m-1,Ω⟩;simp only[freeze,zS fun x hx=>h x hx m Ω lv aa,gH]
def iA(F:FuncId->Option jy)(S:cZ)(f:FuncId)(args:List IV)(v:IV):Prop :=
 ∃ N,∀ m,N<=m->∀ d ah aK aa id,aM F S m d ah aK aa id f args=some (.r,v,aa)
section
variable {F:FuncId->Option jy} {S:cZ}
theorem Ql{f:FuncId}{i:jy}{args:List IV}{v w:IV}(hS:S f args=none)(hi:F f=some i)(hm:i.mode=0)(N:Nat)
  (h:∀ m,N<=m->∀ d ah,Ex (aM F S m) d ah m i.body (fun o st=>(o=.normal∨o=.ret)/\bP d ah st i.res=some v/\freeze m d st.aa v=some w) ⟨args++List.replicate (i.ntmps-args.length) (.tuple []),[]⟩):iA F S f args w:=by
 refine⟨N+1,fun m hN d ah aK aa id=>?_⟩
 obtain⟨m,rfl⟩:∃ q,m=q+1:=⟨m-1,Ω⟩
 obtain⟨o,st,h1,h2,h3,h4⟩:=h m Ω (d+1) (fun l=>if l=d then aK else ah l)
 have hm2:¬ i.mode=2:=Ω
 have Jn:¬ i.mode=3:=Ω
 have hm4:¬ 4<=i.mode:=Ω
 have hm1:¬ i.mode=1:=Ω
 simp only[aM,hS,hi,bC hm2,bC Jn,bC hm4,zi,h1]
 rcases h2 with rfl|rfl<;>simp only[ended,h3,jG,leave,bC hm1,h4,gH]
end
theorem zO{i:Nat}(h:i+1<9223372036854775808):aT .i64 ((i:Int)+1)=((i+1:Nat):Int):=by rw[zT,IntWalk.i64_in _ Ω];rfl
theorem zX{k:IntKind}{i:Nat}:mC (.int k (i:Int))=some i:=by
 show(if 0<=(i:Int)then some (i:Int).toNat else none)=some i
 rw[bt Ω];simp
theorem zd{α:Type}{g:α->List IV}{sz:Nat}(hg:∀ x,(g x).length=sz):∀{l:List α}{i:Nat}{x:α}(k n:Nat),l[i]?=some x->k+n<=sz->bM (l.flatMap g) (i*sz+k) n=bM (g x) k n
 |[],i,x,k,n,h,_=>by simp at h
 |y::l,0,x,k,n,h,hk=>by
  simp only[qU,fZ]at h;subst h;rw[fJ,qw,fO];have key:∀(n k:Nat),k+n<=sz->bM (g y++l.flatMap g) k n=bM (g y) k n:=by
   intro n;induction n with
   |zero=>intro k _;rfl
   |succ n ih =>
    intro k hk
    simp only[bM]
    rw[gT (by rw[hg];omega),ih (k+1) Ω]
  exact key n k hk
 |y::l,i+1,x,k,n,h,hk=>by
  simp only[jP]at h;rw[←zd hg k n h hk,fJ];have key:∀(n k:Nat),bM (g y++l.flatMap g) (sz+k) n=bM (l.flatMap g) k n:=by
   intro n;induction n with
   |zero=>intro k;rfl
   |succ n ih =>
    intro k
    simp only[bM]
    rw[jd (by rw[hg];omega),hg,show sz+k-sz=k by omega,show sz+k+1=sz+(k+1) by omega,ih (k+1)]
  rw[show(i+1)*sz+k=sz+(i*sz+k) by rw[NB];omega];exact key n _
inductive Sl(sz:Nat):List IV->Nat->IV->Prop where
 |nil:Sl sz [] 0 .nilsl
 |row (cs:List IV) (len:Nat) (tight:Bool) (h:cs.length=len*sz):Sl sz cs len (.slC cs len sz tight)
end
section
open Go Go.RowKit Go.ChangeShapes Go.WideShapes
structure aS(sz:Nat){α:Type}(g:α->List IV) where
 l:List α
 v:IV
 ok:Sl sz (l.flatMap g) l.length v
 gC:l.length<9223372036854775808
def Reads(P:Program)(W:World)(t:TypeId){α:Type}(g:α->List IV):Prop :=
 ∀(H:Type)(enc:TypeId×Value->H)(fuel:Nat)(cs:List Value)(x:DataW H×List MemPlace),DataW.trod enc P W 0 (fun _=>true) true fuel t cs=some x->∃ a:α,dV fK W (g a) cs
section
variable {P:Program} {W:World} {t:TypeId}
theorem Le{k:IntKind}(ht:P.underlying t=some (.int k)):Reads P W t (fun n:Int=>[IV.int k n]):=fun H enc fuel cs x h=>by obtain⟨n,rfl,_,_⟩:=znx ht h;exact⟨n,(dV.nil).cons (.int k n)⟩
theorem Ld(ht:P.underlying t=some .string):Reads P W t (fun s:{ s:ByteArray // s.size<=maxLen }=>[IV.str s.1]):=fun H enc fuel cs x h=>by obtain⟨s,rfl,_,hs⟩:=DataW.trod_string ht h;exact⟨⟨s,hs⟩,(dV.nil).cons (.str s)⟩
theorem Jc{α:Type}(Q:Nat->α->Prop):∀ n,(∀ i,i<n->∃ a,Q i a)->∃ l:List α,l.length=n/\∀ i a,l[i]?=some a->Q i a
 |0,_=>⟨[],rfl,fun i a h=>by simp at h⟩
 |n+1,hp=>by
  obtain⟨l,hl,hh⟩:=Jc Q n (fun i hi=>hp i Ω);obtain⟨a,ha⟩:=hp n Ω;refine⟨l++[a],by simp[hl],fun i b h=>?_⟩;by_cases hi:i<l.length
  ·rw[gT hi]at h;exact hh i b h
  ·rw[jd Ω]at h;have hi2:i-l.length=0:=by have:=(cU.1 h).1;simp at this;omega
   rw[hi2]at h;simp only[qU,fZ]at h;subst h;have:i=n:=Ω;subst this;exact ha
theorem D7{α:Type}{g:α->List IV}{sz:Nat}(hg:∀ x,(g x).length=sz):∀{l:List α}{j:Nat}{z:IV},(l.flatMap g)[j]?=some z->∃ i r x,l[i]?=some x/\r<sz/\(g x)[r]?=some z/\j=i*sz+r
 |[],j,z,h=>by simp at h
 |y::l,j,z,h=>by
  rw[fJ]at h;by_cases hj:j<(g y).length
  ·rw[gT hj]at h;exact⟨0,j,y,rfl,by rw[←hg y];exact hj,h,Ω⟩
  ·rw[jd Ω]at h;obtain⟨i,r,x,h1,h2,h3,h4⟩:=D7 hg h;refine⟨i+1,r,x,by simpa using h1,h2,h3,?_⟩;rw[hg]at h4 hj;rw[NB];omega
theorem zl{α:Type}{g:α->List IV}{sz:Nat}(hg:∀ x,(g x).length=sz):∀{l:List α},(l.flatMap g).length=l.length*sz
 |[]=>by simp
 |y::l=>by rw[fJ,eR,hg,zl hg,cu,NB];omega
theorem Zc{α:Type}{g:α->List IV}{e:TypeId}{sz:Nat}(ht:P.underlying t=some (.slice e))(hc:P.cellsOf e=sz)(hsz:0<sz)(hg:∀ a,(g a).length=sz)(he:Reads P W e g):Reads P W t (fun q:aS sz g=>[q.v]):=fun H enc fuel cs x h=>by
 have au:=fun p hp=>DataW.trod_lt _ _ _ _ h p hp;rcases Go.Deep.open_slice ht h with⟨rfl,_⟩|⟨a,len,cap,m,n,D,Pl,rfl,hb,hl,hm,Uk,hx,hel⟩
 ·exact⟨⟨[],.nilsl,.nil,Ψ⟩,(dV.nil).cons .nilsl⟩
 ·simp only[if_true]at Uk;subst Uk;rw[hc]at hel hx;obtain ⟨l,Nh,hls⟩:=Jc (fun i (q:α)=>∃ cs',W.cells? 0 (a.add (i*sz)) sz=some cs'/\dV fK W (g q) cs') len (fun i hi=>by
   obtain⟨cs',h1,h2⟩:=hel i Ω;obtain⟨q,hq⟩:=he _ _ _ _ _ h2;exact ⟨q,cs',h1,hq⟩)
  have hcell:∀(j:Nat)(z:IV),(l.flatMap g)[j]?=some z->∃ y,W.cell? (a.add j)=some y/\VR fK W z y:=fun j z hz=>by obtain⟨i,r,q,h1,h2,h3,rfl⟩:=D7 hg hz;obtain⟨cs',hcs,hv⟩:=hls i q h1;obtain⟨_,_,nh⟩:=World.cells?_some hcs;obtain⟨y,hy,pT⟩:=hv.get h3;refine⟨y,?_,pT⟩;have:=nh r h2;rw[Go.Deep.add_add]at this;rw[this,hy]
  have hfl:=zl (l:=l) hg;have Wv:len≠0->a.spot=none:=fun h0=>by
   have h1:0<(l.flatMap g).length:=by rw[hfl,Nh];exact Nat.mul_pos Ω hsz
   obtain⟨y,hy,_⟩:=hcell 0 _ (cK h1);cases hs:a.spot with
   |none=>rfl
   |some s =>
    simp only[World.cell?,Addr.add]at hy
    split at hy
    ·simp[hs]at hy
    ·simp at hy
  have hblk:len≠0->a.block<W.heap.size:=fun h0=>by
   have hrow:MemPlace.cell a.block (a.off+0)∈x.2:=by rw[hx];refine og.2 (Or.inl (MemPlace.mem_row.2 ⟨0,Nat.mul_pos Ω hsz,rfl⟩))
   exact au _ hrow
  subst Nh;refine⟨⟨l,.slC (l.flatMap g) l.length sz false,.row _ _ _ hfl,zn1 (lW hl hm) Δ⟩,(dV.nil).cons ?_⟩;refine za0 (k:=a.block) (s:=a.off) (fun h0=>⟨hblk h0,fun l i s hb=>by simp[fK]at hb⟩) (fun j z hz=>?_) hfl hl (fun h=>by simp at h) (fun h0=>?_)
  ·obtain⟨y,hy,pT⟩:=hcell j z hz;refine⟨y,?_,pT⟩;have h0:l.length≠0:=by intro h0;have:=(cU.1 hz).1;rw[hfl,h0]at this;simp at this
   rw[←hy,Zj (Wv h0)]
  ·have:=Wv h0;cases a;simp only at this;rw[this]
end
end
section
open Go Go.RowKit
def iv(n:Int):IV:=.int .i64 n
theorem zg(n:Int):iv n=.int .i64 n:=dO rfl rfl
def aL(n:Int):List IV:=[iv n]
structure Pt where
 x:Int
 y:Int
def Pt.c(p:Pt):List IV:=[iv p.x,iv p.y]
structure Nd where
 id:Int
 at':Pt
def Nd.c(n:Nd):List IV:=[iv n.id,iv n.at'.x,iv n.at'.y]
structure Ac where
 id:Int
 fr:Int
 to:Int
 via:aS 2 Pt.c
 l:Int
 r:Int
def Ac.c(a:Ac):List IV:=[iv a.id,iv a.fr,iv a.to,a.via.v,iv a.l,iv a.r]
structure Ft where
 id:Int
 kind:Int
 cls:Int
 name:{ s:ByteArray // s.size<=maxLen }
 parts:aS 1 aL
def Ft.c(f:Ft):List IV:=[iv f.id,iv f.kind,iv f.cls,.str f.name.1,f.parts.v]
structure Pn where
 ns:aS 3 Nd.c
 az:aS 6 Ac.c
 fs:aS 1 aL
def Pn.c(p:Pn):List IV:=[p.ns.v,p.az.v,p.fs.v]
structure Sv where
 pl:Pn
 ft:aS 5 Ft.c
def Sv.c(s:Sv):List IV:=[s.pl.ns.v,s.pl.az.v,s.pl.fs.v,s.ft.v]
theorem zf(n:Int):(aL n).length=1:=rfl
theorem Pt.aZ(p:Pt):p.c.length=2:=rfl
theorem Nd.aZ(p:Nd):p.c.length=3:=rfl
theorem Ac.aZ(p:Ac):p.c.length=6:=rfl
theorem Ft.aZ(p:Ft):p.c.length=5:=rfl
end
section
open Go Go.RowKit Go.ChangeShapes Go.WideShapes
theorem zbd:Tryz.prog.cellsOf 3=1:=by kernel_rfl
theorem TD:Tryz.prog.cellsOf 9=1:=by kernel_rfl
theorem F0:Tryz.prog.cellsOf 70=2:=by kernel_rfl
theorem CS:Tryz.prog.cellsOf 72=3:=by kernel_rfl
theorem Iv:Tryz.prog.cellsOf 65=6:=by kernel_rfl
theorem OH:Tryz.prog.cellsOf 36=5:=by kernel_rfl
theorem CR:Tryz.prog.cellsOf 26=3:=by kernel_rfl
theorem FZ:Tryz.prog.cellsOf 29=4:=by kernel_rfl
theorem CT:Tryz.prog.cellsOf 24=1:=by kernel_rfl
theorem F3:Tryz.prog.cellsOf 63=1:=by kernel_rfl
theorem Lh:Tryz.prog.cellsOf 22=1:=by kernel_rfl
theorem OJ:Tryz.prog.cellsOf 23=1:=by kernel_rfl
theorem TE:Tryz.prog.cellsOf 27=1:=by kernel_rfl
section
variable {W:World}
theorem Zk:Reads Tryz.prog W 3 aL:=Le Tryz.underlying3
theorem Iy:Reads Tryz.prog W 24 (fun q:aS 1 aL=>[q.v]):=Zc Tryz.underlying24 zbd Ω zf Zk
theorem aal:Reads Tryz.prog W 9 (fun s:{ s:ByteArray // s.size<=maxLen }=>[IV.str s.1]):=Ld Tryz.underlying9
theorem V7:Reads Tryz.prog W 70 Pt.c:=fun H enc fuel cs x h=>by
 obtain⟨xs,n,rfl,hx,hl,hxl,hall⟩:=XC Tryz.underlying70 h;rw[F0]at hl;match cs,hl,xs,hxl with
 |[v0,v1],_,[x0,x1],_ =>
  have h0:=hall 0 _ rfl
  have h1:=hall 1 _ rfl
  simp[zbd]at h0 h1
  obtain⟨a,ha⟩:=Zk _ _ _ _ _ h0
  obtain⟨b,hb⟩:=Zk _ _ _ _ _ h1
  exact⟨⟨a,b⟩,ha.append hb⟩
theorem Lj:Reads Tryz.prog W 63 (fun q:aS 2 Pt.c=>[q.v]):=Zc Tryz.underlying63 F0 Ω Pt.aZ V7
theorem TG:Reads Tryz.prog W 72 Nd.c:=fun H enc fuel cs x h=>by
 obtain⟨xs,n,rfl,hx,hl,hxl,hall⟩:=XC Tryz.underlying72 h;rw[CS]at hl;match cs,hl,xs,hxl with
 |[v0,v1,v2],_,[x0,x1],_ =>
  have h0:=hall 0 _ rfl
  have h1:=hall 1 _ rfl
  simp[zbd,F0]at h0 h1
  obtain⟨a,ha⟩:=Zk _ _ _ _ _ h0
  obtain⟨b,hb⟩:=V7 _ _ _ _ _ h1
  exact⟨⟨a,b⟩,ha.append hb⟩
theorem OK:Reads Tryz.prog W 22 (fun q:aS 3 Nd.c=>[q.v]):=Zc Tryz.underlying22 CS Ω Nd.aZ TG
theorem aao:Reads Tryz.prog W 65 Ac.c:=fun H enc fuel cs x h=>by
 obtain⟨xs,n,rfl,hx,hl,hxl,hall⟩:=XC Tryz.underlying65 h;rw[Iv]at hl;match cs,hl,xs,hxl with
 |[v0,v1,v2,v3,v4,v5],_,[x0,x1,x2,x3,x4,x5],_ =>
  have h0:=hall 0 _ rfl
  have h1:=hall 1 _ rfl
  have h2:=hall 2 _ rfl
  have h3:=hall 3 _ rfl
  have h4:=hall 4 _ rfl
  have h5:=hall 5 _ rfl
  simp[zbd,F3]at h0 h1 h2 h3 h4 h5
  obtain⟨a,ha⟩:=Zk _ _ _ _ _ h0
  obtain⟨b,hb⟩:=Zk _ _ _ _ _ h1
  obtain⟨c,hc⟩:=Zk _ _ _ _ _ h2
  obtain⟨q,hq⟩:=Lj _ _ _ _ _ h3
  obtain⟨e,he⟩:=Zk _ _ _ _ _ h4
  obtain⟨f,hf⟩:=Zk _ _ _ _ _ h5
  exact⟨⟨a,b,c,q,e,f⟩,((((ha.append hb).append hc).append hq).append he).append hf⟩
theorem TI:Reads Tryz.prog W 23 (fun q:aS 6 Ac.c=>[q.v]):=Zc Tryz.underlying23 Iv Ω Ac.aZ aao
theorem ac5:Reads Tryz.prog W 36 Ft.c:=fun H enc fuel cs x h=>by
 obtain⟨xs,n,rfl,hx,hl,hxl,hall⟩:=XC Tryz.underlying36 h;rw[OH]at hl;match cs,hl,xs,hxl with
 |[v0,v1,v2,v3,v4],_,[x0,x1,x2,x3,x4],_ =>
  have h0:=hall 0 _ rfl
  have h1:=hall 1 _ rfl
  have h2:=hall 2 _ rfl
  have h3:=hall 3 _ rfl
  have h4:=hall 4 _ rfl
  simp[zbd,TD,CT]at h0 h1 h2 h3 h4
  obtain⟨a,ha⟩:=Zk _ _ _ _ _ h0
  obtain⟨b,hb⟩:=Zk _ _ _ _ _ h1
  obtain⟨c,hc⟩:=Zk _ _ _ _ _ h2
  obtain⟨q,hq⟩:=aal _ _ _ _ _ h3
  obtain⟨e,he⟩:=Iy _ _ _ _ _ h4
  exact⟨⟨a,b,c,q,e⟩,(((ha.append hb).append hc).append hq).append he⟩
theorem aan:Reads Tryz.prog W 27 (fun q:aS 5 Ft.c=>[q.v]):=Zc Tryz.underlying27 OH Ω Ft.aZ ac5
theorem TF:Reads Tryz.prog W 26 Pn.c:=fun H enc fuel cs x h=>by
 obtain⟨xs,n,rfl,hx,hl,hxl,hall⟩:=XC Tryz.underlying26 h;rw[CR]at hl;match cs,hl,xs,hxl with
 |[v0,v1,v2],_,[x0,x1,x2],_ =>
  have h0:=hall 0 _ rfl
  have h1:=hall 1 _ rfl
  have h2:=hall 2 _ rfl
  simp[Lh,OJ,CT]at h0 h1 h2
  obtain⟨a,ha⟩:=OK _ _ _ _ _ h0
  obtain⟨b,hb⟩:=TI _ _ _ _ _ h1
  obtain⟨c,hc⟩:=Iy _ _ _ _ _ h2
  exact⟨⟨a,b,c⟩,(ha.append hb).append hc⟩
theorem Li:Reads Tryz.prog W 29 Sv.c:=fun H enc fuel cs x h=>by
 obtain⟨xs,n,rfl,hx,hl,hxl,hall⟩:=XC Tryz.underlying29 h;rw[FZ]at hl;match cs,hl,xs,hxl with
 |[v0,v1,v2,v3],_,[x0,x1],_ =>
  have h0:=hall 0 _ rfl
  have h1:=hall 1 _ rfl
  simp[CR,TE]at h0 h1
  obtain⟨a,ha⟩:=TF _ _ _ _ _ h0
  obtain⟨b,hb⟩:=aan _ _ _ _ _ h1
  exact⟨⟨a,b⟩,ha.append hb⟩
theorem open_survey{r:Reach}{b0:Nat}{v:Value}{H:Type}{enc:TypeId×Value->H}{d:DataW H}{ps:List MemPlace}(hval:Value.okWide Tryz.prog W r b0 29 v)(hd:DataW.Trod enc Tryz.prog W 0 (fun _=>true) true 29 v d ps):∃ s:Sv,VR fK W (.agg s.c) v:=by obtain⟨cs,rfl,_⟩:=okWide_struct Tryz.underlying29 hval;obtain⟨fuel,hf⟩:=hd;obtain⟨s,hs⟩:=Li _ _ _ _ _ hf;refine⟨s,?_⟩;simp only[Value.cells]at hs;exact .agg (by simpa using hs.1) (fun j x y hx hy=>hs.2 j x y hx (by simpa using hy))
end
end
section
open Go.ChangeShapes Go.WideShapes Go.ChangeAt Go.RowKit
theorem Pm:laidOutB Tryz.prog=true:=by kernel_rfl
section
variable {H:Type} {enc:TypeId×Value->H}
theorem shut_any{t:TypeId}(hr:Tryz.prog.readableRec t=true)(hrow:t<Tryz.prog.types.size){W W':World}{v:Value}{d:DataW H}{ps:List MemPlace}{sp:Nat->Bool}
  (h:DataW.Trod enc Tryz.prog W 0 (fun _=>true) true t v d ps) (hb:Below W.heap.size W W') (hsp:∀ p∈ps,sp p.block=true):DataW.Trod enc Tryz.prog W' 0 sp true t v d ps:=by
 obtain⟨fuel,hf⟩:=h
 exact WideElems.Trod_stays Pm hr hrow ⟨fuel,hf⟩ (fun x hx=>hb.same (DataW.trod_lt _ _ _ _ hf x hx)) hsp
end
end
section
open Go Go.RowKit
section
variable {C:Call} {d:Nat} {ah:bR} {n n0:Nat} {st st':St} {K:fP}
theorem Kj:Ex C d ah n .skip K st=K .normal st:=propext ⟨fun⟨o,st',h,hk⟩=>by simp only[exec,fZ,qN]at h;obtain⟨rfl,rfl⟩:=h;exact hk,UJ⟩
theorem Sn:Ex C d ah n .ret K st=K .ret st:=propext ⟨fun⟨o,st',h,hk⟩=>by simp only[exec,fZ,qN]at h;obtain⟨rfl,rfl⟩:=h;exact hk,abh⟩
theorem Kl{id:Nat}:Ex C d ah n (.exit id) K st=K (.exit id) st:=propext ⟨fun⟨o,st',h,hk⟩=>by simp only[exec,fZ,qN]at h;obtain⟨rfl,rfl⟩:=h;exact hk,UL⟩
theorem zez{a b:IC}:Ex C d ah n (.seq a b) K st=Ex C d ah n a (andThen (Ex C d ah n b K) K) st:=by
 refine propext ⟨fun⟨o,st',h,hk⟩=>?_,abg⟩;simp only[exec]at h;unfold KT at h;split at h
 ·rename_i st1 he;exact⟨.normal,st1,he,o,st',h,hk⟩
 ·rename_i hne;refine⟨o,st',h,?_⟩;cases o with
  |normal=>exact absurd h (hne _)
  |exit id=>exact hk
  |ret=>exact hk
theorem E3{id:Nat}{a:IC}:Ex C d ah n (.block id a) K st=Ex C d ah n a (inBlock id K) st:=by
 refine propext ⟨fun⟨o,st',h,hk⟩=>?_,Qz⟩;simp only[exec]at h;unfold qI at h;split at h
 ·rename_i j st1 he;split at h
  ·rename_i hj;cases h;refine⟨.exit j,st',he,?_⟩;simp only[inBlock,bt hj];exact hk
  ·rename_i hj;cases h;refine⟨.exit j,st',he,?_⟩;simp only[inBlock,bC hj];exact hk
 ·rename_i hne;refine⟨o,st',h,?_⟩;cases o with
  |normal=>exact hk
  |exit id=>exact absurd h (hne _ _)
  |ret=>exact hk
def ExC(C:Call)(d:Nat)(ah:bR)(n:Nat)(v:IV)(a b:IC)(K:fP)(st:St):Prop:=match v with
 |.bool true=>Ex C d ah n a K st
 |.bool false=>Ex C d ah n b K st
 |_=>False
theorem Km{c:bG}{a b:IC}{t:List IV}{aa:aU}:Ex C d ah n (.cond c a b) K ⟨t,aa⟩=ExC C d ah n (ρ t c) a b K ⟨t,aa⟩:=by
 unfold Ex;simp only[exec];generalize ρ t c=v;cases v with
 |bool b=>cases b<;>rfl
 |_=>simp[Q6,ExC]
theorem E4{a b:IC}:ExC C d ah n (.bool true) a b K st=Ex C d ah n a K st:=dO rfl rfl
theorem xG{a b:IC}:ExC C d ah n (.bool false) a b K st=Ex C d ah n b K st:=dO rfl rfl
theorem Ki{slots:Nat}{ops:List dc}{fr:List (Nat×Nat)}{t:List IV}{aa:aU}:Ex C d ah n (.region false slots ops fr) K ⟨t,aa⟩=Rn C d ah aa.length ops (K .normal) t (aa++List.replicate slots .free):=by
 refine propext ⟨fun⟨o,st',h,hk⟩=>?_,fun h=>UI (st:=⟨t,aa⟩) h⟩;simp only[exec,nw,zi]at h;split at h
 ·rename_i es st1 hr;simp only[BW,iY,if_true,fZ,qN]at h;obtain⟨rfl,rfl⟩:=h;exact⟨es,st1,hr,hk⟩
 ·simp at h
theorem MY{slots:Nat}{ops:List dc}{fr:List (Nat×Nat)}{t:List IV}{aa:aU}:Ex C d ah n (.region true slots ops fr) K ⟨t,aa⟩=Rd C d ah aa.length ops (fun es st'=>fr.all (fun ji=>comm (es.getD ji.1 .x) (es.getD ji.2 .x))=true/\K .normal st') t (aa++List.replicate slots .free):=by
 refine propext ⟨fun⟨o,st',h,hk⟩=>?_,fun h=>Qy (st:=⟨t,aa⟩) h⟩;simp only[exec,nw,zi]at h;split at h
 ·rename_i es st1 hr;simp only[vA,iS]at h;split at h
  ·rename_i hc;cases h;exact⟨es,st',hr,hc,hk⟩
  ·simp at h
 ·simp at h
variable {t t':List IV} {aa aX:aU} {k:St->Prop} {rest:List dc} {kd:List eV->St->Prop} {acc:List eV}
def RnP(C:Call)(d:Nat)(ah:bR)(n0:Nat)(rest:List dc)(k:St->Prop)(dst:Option Nat)(t:List IV)(r:ko):Prop:=match r with
 |some (_,v,aX)=>Rn C d ah n0 rest k (put t dst v) aX
 |none=>False
def Ra(C:Call)(d:Nat)(ah:bR)(n0:Nat)(ops:List dc)(kd:List eV->St->Prop)(acc:List eV)(t:List IV)(aa:aU):Prop:=Rd C d ah n0 ops (fun es st'=>kd (acc++es) st') t aa
def RaP(C:Call)(d:Nat)(ah:bR)(n0:Nat)(rest:List dc)(kd:List eV->St->Prop)(acc:List eV)(dst:Option Nat)(t:List IV)(r:ko):Prop:=match r with
 |some (e,v,aX)=>Ra C d ah n0 rest kd (acc++[e]) (put t dst v) aX
 |none=>False
def MW(fr:List (Nat×Nat))(K:fP)(es:List eV)(st:St):Prop:=fr.all (fun ji=>comm (es.getD ji.1 .x) (es.getD ji.2 .x))=true/\K .normal st
theorem E2{slots:Nat}{ops:List dc}{fr:List (Nat×Nat)}{t:List IV}{aa:aU}:Ex C d ah n (.region true slots ops fr) K ⟨t,aa⟩=Ra C d ah aa.length ops (MW fr K) [] t (aa++List.replicate slots .free):=by rw[MY];rfl
theorem EV{e:eV}{v:IV}{dst:Option Nat}:RnP C d ah n0 rest k dst t (some (e,v,aX))=Rn C d ah n0 rest k (put t dst v) aX:=dO rfl rfl
theorem EY{e:eV}{v:IV}{dst:Option Nat}:RaP C d ah n0 rest kd acc dst t (some (e,v,aX))=Ra C d ah n0 rest kd (acc++[e]) (put t dst v) aX:=dO rfl rfl
theorem R6:Rn C d ah n0 [] k t aa=k ⟨t,aa⟩:=propext ⟨fun⟨es,st',h,hk⟩=>by simp only[kV,fZ,qN]at h;obtain⟨rfl,rfl⟩:=h;exact hk,aaj⟩
theorem Sd:Ra C d ah n0 [] kd acc t aa=kd acc ⟨t,aa⟩:=by unfold Ra;refine propext ⟨fun⟨es,st',h,hk⟩=>?_,fun h=>aam (by simpa using h)⟩;simp only[kV,fZ,qN]at h;obtain⟨rfl,rfl⟩:=h;simpa using hk
theorem BP{dst:Option Nat}{op:kA}{vis:List Nat}:Rn C d ah n0 (⟨dst,op,none,vis⟩::rest) k t aa=RnP C d ah n0 rest k dst t (cH C d ah n0 aa aa t op):=by
 refine propext ⟨fun⟨es,st',h,hk⟩=>?_,fun h=>?_⟩
 ·simp only[kV,iM,dB,if_true,l7,if_false]at h;cases he:cH C d ah n0 aa aa t op with
  |none=>rw[he]at h;simp at h
  |some r =>
   obtain⟨e,v,o⟩:=r
   rw[he]at h
   simp only at h
   split at h
   ·rename_i QJ st2 hr
    cases h
    exact⟨QJ,st',hr,hk⟩
   ·simp at h
 ·cases he:cH C d ah n0 aa aa t op with
  |none=>rw[he]at h;exact h.elim
  |some r =>
   obtain⟨e,v,o⟩:=r
   rw[he]at h
   exact Ty he h
theorem ab5{dst:Option Nat}{op:kA}{vis:List Nat}{g:Nat×Bool}(hg:dB t (some g)=true):Rn C d ah n0 (⟨dst,op,some g,vis⟩::rest) k t aa=RnP C d ah n0 rest k dst t (cH C d ah n0 aa aa t op):=by rw[←BP (vis:=vis)];have h0:dB t none=true:=dO rfl rfl;unfold Rn;simp only[kV,iM,hg,h0]
theorem Xq{dst:Option Nat}{op:kA}{vis:List Nat}{g:Nat×Bool}(hg:dB t (some g)=false):Rn C d ah n0 (⟨dst,op,some g,vis⟩::rest) k t aa=Rn C d ah n0 rest k (put t dst (.tuple [])) aa:=by
 refine propext ⟨fun⟨es,st',h,hk⟩=>?_,ac1 hg⟩;simp only[kV,iM,hg,l7,if_false]at h;split at h
 ·rename_i QJ st2 hr;cases h;exact⟨QJ,st',hr,hk⟩
 ·simp at h
def Nt(C:Call)(d:Nat)(ah:bR)(n0:Nat)(op:kA)(v:Option IV)(b:Bool)(rest:List dc)(k:St->Prop)(dst:Option Nat)(t:List IV)(aa:aU):Prop:=match v with
 |some (.bool c)=>if c=b then RnP C d ah n0 rest k dst t (cH C d ah n0 aa aa t op)else Rn C d ah n0 rest k (put t dst (.tuple [])) aa
 |_=>Rn C d ah n0 rest k (put t dst (.tuple [])) aa
theorem EU{dst:Option Nat}{op:kA}{vis:List Nat}{j:Nat}{b:Bool}:Rn C d ah n0 (⟨dst,op,some (j,b),vis⟩::rest) k t aa=Nt C d ah n0 op t[j]? b rest k dst t aa:=by
 unfold Nt;split
 ·rename_i c hc;split
  ·rename_i hcb;exact ab5 (by simp[dB,hc,hcb])
  ·rename_i hcb;exact Xq (by simp[dB,hc,hcb])
 ·rename_i hne;refine Xq ?_;cases hv:t[j]? with
  |none=>simp[dB,hv]
  |some v=>cases v with
   |bool c=>exact absurd hv (hne c)
   |_=>simp[dB,hv]
def Nu(C:Call)(d:Nat)(ah:bR)(n0:Nat)(op:kA)(vis:List Nat)(v:Option IV)(b:Bool)(rest:List dc)(kd:List eV->St->Prop)(acc:List eV)(dst:Option Nat)(t:List IV)(aa:aU):Prop:=match v with
 |some (.bool c)=>if c=b then RaP C d ah n0 rest kd acc dst t (cH C d ah n0 (b7 vis n0 aa) aa t op)else Ra C d ah n0 rest kd (acc++[.p]) (put t dst (.tuple [])) aa
 |_=>Ra C d ah n0 rest kd (acc++[.p]) (put t dst (.tuple [])) aa
theorem R8{op:kA}{dst:Option Nat}:Nt C d ah n0 op (some (.bool true)) true rest k dst t aa=RnP C d ah n0 rest k dst t (cH C d ah n0 aa aa t op):=by simp[Nt]
theorem Sb{op:kA}{dst:Option Nat}:Nt C d ah n0 op (some (.bool false)) false rest k dst t aa=RnP C d ah n0 rest k dst t (cH C d ah n0 aa aa t op):=by simp[Nt]
theorem R9{op:kA}{dst:Option Nat}:Nt C d ah n0 op (some (.bool true)) false rest k dst t aa=Rn C d ah n0 rest k (put t dst (.tuple [])) aa:=by simp[Nt]
theorem Sa{op:kA}{dst:Option Nat}:Nt C d ah n0 op (some (.bool false)) true rest k dst t aa=Rn C d ah n0 rest k (put t dst (.tuple [])) aa:=by simp[Nt]
theorem R7{op:kA}{dst:Option Nat}{b:Bool}:Nt C d ah n0 op (some (.tuple [])) b rest k dst t aa=Rn C d ah n0 rest k (put t dst (.tuple [])) aa:=by simp[Nt]
theorem BQ{dst:Option Nat}{op:kA}{vis:List Nat}:Ra C d ah n0 (⟨dst,op,none,vis⟩::rest) kd acc t aa=RaP C d ah n0 rest kd acc dst t (cH C d ah n0 (b7 vis n0 aa) aa t op):=by
 refine propext ⟨fun⟨es,st',h,hk⟩=>?_,fun h=>?_⟩
 ·simp only[kV,iM,dB,if_true]at h;cases he:cH C d ah n0 (b7 vis n0 aa) aa t op with
  |none=>rw[he]at h;simp at h
  |some r =>
   obtain⟨e,v,o⟩:=r
   rw[he]at h
   simp only at h
   split at h
   ·rename_i QJ st2 hr
    cases h
    exact⟨QJ,st',hr,by simpa using hk⟩
   ·simp at h
 ·cases he:cH C d ah n0 (b7 vis n0 aa) aa t op with
  |none=>rw[he]at h;exact h.elim
  |some r =>
   obtain⟨e,v,o⟩:=r
   rw[he]at h
   obtain⟨es,st',h1,h2⟩:=h
   exact TH he ⟨es,st',h1,by simpa using h2⟩
theorem ab6{dst:Option Nat}{op:kA}{vis:List Nat}{g:Nat×Bool}(hg:dB t (some g)=true):Ra C d ah n0 (⟨dst,op,some g,vis⟩::rest) kd acc t aa=RaP C d ah n0 rest kd acc dst t (cH C d ah n0 (b7 vis n0 aa) aa t op):=by rw[←BQ];have h0:dB t none=true:=dO rfl rfl;unfold Ra Rd;simp only[kV,iM,hg,h0]
theorem Xs{dst:Option Nat}{op:kA}{vis:List Nat}{g:Nat×Bool}(hg:dB t (some g)=false):Ra C d ah n0 (⟨dst,op,some g,vis⟩::rest) kd acc t aa=Ra C d ah n0 rest kd (acc++[.p]) (put t dst (.tuple [])) aa:=by
 unfold Ra;refine propext ⟨fun⟨es,st',h,hk⟩=>?_,fun⟨es,st',h,hk⟩=>ac4 hg ⟨es,st',h,by simpa using hk⟩⟩;simp only[kV,iM,hg,l7,if_false]at h;split at h
 ·rename_i QJ st2 hr;cases h;exact⟨QJ,st',hr,by simpa using hk⟩
 ·simp at h
theorem EX{dst:Option Nat}{op:kA}{vis:List Nat}{j:Nat}{b:Bool}:Ra C d ah n0 (⟨dst,op,some (j,b),vis⟩::rest) kd acc t aa=Nu C d ah n0 op vis t[j]? b rest kd acc dst t aa:=by
 unfold Nu;split
 ·rename_i c hc;split
  ·rename_i hcb;exact ab6 (by simp[dB,hc,hcb])
  ·rename_i hcb;exact Xs (by simp[dB,hc,hcb])
 ·rename_i hne;refine Xs ?_;cases hv:t[j]? with
  |none=>simp[dB,hv]
  |some v=>cases v with
   |bool c=>exact absurd hv (hne c)
   |_=>simp[dB,hv]
theorem Sf{op:kA}{vis:List Nat}{dst:Option Nat}:Nu C d ah n0 op vis (some (.bool true)) true rest kd acc dst t aa=RaP C d ah n0 rest kd acc dst t (cH C d ah n0 (b7 vis n0 aa) aa t op):=by simp[Nu]
theorem Sj{op:kA}{vis:List Nat}{dst:Option Nat}:Nu C d ah n0 op vis (some (.bool false)) false rest kd acc dst t aa=RaP C d ah n0 rest kd acc dst t (cH C d ah n0 (b7 vis n0 aa) aa t op):=by simp[Nu]
theorem Sh{op:kA}{vis:List Nat}{dst:Option Nat}:Nu C d ah n0 op vis (some (.bool true)) false rest kd acc dst t aa=Ra C d ah n0 rest kd (acc++[.p]) (put t dst (.tuple [])) aa:=by simp[Nu]
theorem Si{op:kA}{vis:List Nat}{dst:Option Nat}:Nu C d ah n0 op vis (some (.bool false)) true rest kd acc dst t aa=Ra C d ah n0 rest kd (acc++[.p]) (put t dst (.tuple [])) aa:=by simp[Nu]
theorem Se{op:kA}{vis:List Nat}{dst:Option Nat}{b:Bool}:Nu C d ah n0 op vis (some (.tuple [])) b rest kd acc dst t aa=Ra C d ah n0 rest kd (acc++[.p]) (put t dst (.tuple [])) aa:=by simp[Nu]
theorem yt{k:St->Prop}:andThen k K .normal st=k st:=dO rfl rfl
theorem zc8{k:St->Prop}:andThen k K .ret st=K .ret st:=dO rfl rfl
theorem zbe{k:St->Prop}{j:Nat}:andThen k K (.exit j) st=K (.exit j) st:=dO rfl rfl
theorem YI{id:Nat}:inBlock id K .normal st=K .normal st:=dO rfl rfl
theorem zc9{id:Nat}:inBlock id K .ret st=K .ret st:=dO rfl rfl
theorem zbf{id j:Nat}:inBlock id K (.exit j) st=if j=id then K .normal st else K (.exit j) st:=dO rfl rfl
theorem ρ_at{i:Nat}:ρ t (.tmp i)=bH (.tuple []) t i:=dO rfl rfl
theorem wL{α:Type}{z x:α}{l:List α}:bH z (x::l) 0=x:=dO rfl rfl
theorem wM{α:Type}{z x:α}{l:List α}{i:Nat}:bH z (x::l) (i+1)=bH z l i:=dO rfl rfl
theorem Ct{α:Type}{x v:α}{l:List α}:(x::l).set 0 v=v::l:=dO rfl rfl
theorem Cu{α:Type}{x v:α}{l:List α}{i:Nat}:(x::l).set (i+1) v=x::l.set i v:=dO rfl rfl
end
section
variable {C:Call} {d:Nat} {ah:bR} {n0:Nat} {aa aK:aU} {t:List IV}
theorem QB(x:bG):cH C d ah n0 aK aa t (.mov x)=some (.p,ρ t x,aa):=dO rfl rfl
theorem wS(x:bG):cH C d ah n0 aK aa t (.nilchk x)=b8 aa t x:=dO rfl rfl
theorem JC(c a b:bG):cH C d ah n0 aK aa t (.pick c a b)=dK aa t c a b:=dO rfl rfl
theorem JD(cs:List IV)(slot:Nat):cH C d ah n0 aK aa t (.newv cs slot)=dU aa (n0+slot) (.cells cs) (.ptrM d (n0+slot) 0):=dO rfl rfl
theorem QH(x:bG)(slot:Nat):cH C d ah n0 aK aa t (.box x slot)=ff d n0 aa t x slot:=dO rfl rfl
theorem Eo(z:List IV)(ps:List (Nat×Nat×bG)):cH C d ah n0 aK aa t (.build z ps)=(dh t z ps).map fun c=>(.p,.agg c,aa):=dO rfl rfl
theorem wU(z:List IV)(sz len:Nat)(ps:List (Nat×Nat×bG)):cH C d ah n0 aK aa t (.bslice z sz len ps)=cA aa t z sz len ps:=dO rfl rfl
theorem Y3(z:List IV)(sz len:Nat)(ps:List (Nat×Nat×bG))(slot:Nat):cH C d ah n0 aK aa t (.mslice z sz len ps slot)=gW d n0 aa t z sz len ps slot:=dO rfl rfl
theorem JF(agg:Bool)(n:Nat)(x:bG):cH C d ah n0 aK aa t (.load agg n x)=dL d ah aK aa t agg n x:=dO rfl rfl
theorem Eg(n:Nat)(x v:bG):cH C d ah n0 aK aa t (.store n x v)=cL d aa t n x v:=dO rfl rfl
theorem QI(op:BinOp)(x y:bG):cH C d ah n0 aK aa t (.bin op x y)=(iq op (ρ t x) (ρ t y)).map fun v=>(.p,v,aa):=dO rfl rfl
theorem En(neg:Bool)(ks:List Nat)(x y:bG):cH C d ah n0 aK aa t (.eqagg neg ks x y)=cO aa t neg ks x y:=dO rfl rfl
theorem QG(neg:Bool)(x y:bG):cH C d ah n0 aK aa t (.eqb neg x y)=eP aa t neg x y:=dO rfl rfl
theorem QF(neg:Bool)(x y:bG):cH C d ah n0 aK aa t (.eqp neg x y)=fI aa t neg x y:=dO rfl rfl
theorem QE(neg:Bool)(x y:bG):cH C d ah n0 aK aa t (.eqs neg x y)=fH aa t neg x y:=dO rfl rfl
theorem WX(op:UnOp)(x:bG):cH C d ah n0 aK aa t (.un op x)=(pZ op (ρ t x)).map fun v=>(.p,v,aa):=dO rfl rfl
theorem JH(k:IntKind)(x:bG):cH C d ah n0 aK aa t (.conv k x)=dM aa t k x:=dO rfl rfl
theorem JG(x:bG):cH C d ah n0 aK aa t (.cstr x)=pF aa t x:=dO rfl rfl
theorem JE(f:FuncId)(a b:List bG):cH C d ah n0 aK aa t (.mkfn f a b)=some (.p,.fn f (a.map (ρ t)) (b.map (ρ t)),aa):=dO rfl rfl
theorem Eh(slot:Nat):cH C d ah n0 aK aa t (.mkmap slot)=dU aa (n0+slot) (.map [] [] [] 0) (.mapM d (n0+slot)):=dO rfl rfl
theorem ZC(sz:Nat)(x:bG)(lo hi mx:Option bG):cH C d ah n0 aK aa t (.slice sz x lo hi mx)=(eS sz t (ρ t x) lo hi mx).map fun v=>(.p,v,aa):=dO rfl rfl
theorem Em(off:Nat)(x:bG):cH C d ah n0 aK aa t (.faddr off x)=cN aa t off x:=dO rfl rfl
theorem El(agg:Bool)(off n:Nat)(x:bG):cH C d ah n0 aK aa t (.field agg off n x)=cM aa t agg off n x:=dO rfl rfl
theorem wT(sz len:Nat)(x ix:bG):cH C d ah n0 aK aa t (.iaddrA sz len x ix)=kO aa t sz len x ix:=dO rfl rfl
theorem Ej(agg:Bool)(sz len:Nat)(x ix:bG):cH C d ah n0 aK aa t (.index agg sz len x ix)=dy aa t agg sz len x ix:=dO rfl rfl
theorem Zu(z:IV)(kt:Bool×List Nat)(ok:Bool)(x ix:bG):cH C d ah n0 aK aa t (.lookup z kt ok x ix)=fV d ah aK aa t z kt ok x ix:=dO rfl rfl
theorem Ya(kt:Bool×List Nat)(m k v:bG):cH C d ah n0 aK aa t (.mapupd kt m k v)=gF d aa t kt m k v:=dO rfl rfl
theorem ze0(x:bG)(i:Nat):cH C d ah n0 aK aa t (.extract x i)=bg aa t x i:=dO rfl rfl
theorem JI(f:bG)(xs:List bG)(slot:Nat):cH C d ah n0 aK aa t (.call f xs slot)=dY C d ah n0 aK aa t f xs slot:=dO rfl rfl
theorem zh(z:List IV)(sz:Nat)(fq:Bool)(s x:bG)(slot:Nat):cH C d ah n0 aK aa t (.append z sz fq s x slot)=iX d ah n0 aK aa t z sz fq s x slot:=dO rfl rfl
theorem WY(m:Bool)(x y:bG):cH C d ah n0 aK aa t (.mx m x y)=iW aa t m x y:=dO rfl rfl
theorem abj(x:bG):cH C d ah n0 aK aa t (.cap x)=rE aa t x:=dO rfl rfl
end
theorem zdr{x:IV}{l:List IV}{k:Nat}:∀{n:Nat},bM (x::l) (k+1) n=bM l k n
 |0=>rfl
 |n+1=>by simp only[bM,jP];rw[zdr (k:=k+1)]
theorem Iz{x:IV}{l:List IV}{n:Nat}:bM (x::l) 0 (n+1)=(bM l 0 n).map (x::·):=by simp only[bM,qU,fO];rw[zdr]
theorem Iw{l:List IV}{k:Nat}:bM l k 0=some []:=dO rfl rfl
theorem zds{x:IV}{l:List IV}{k:Nat}:∀{vs:List IV},gV (x::l) (k+1) vs=x::gV l k vs
 |[]=>rfl
 |v::vs=>by simp only[gV,HI];rw[zds (k:=k+1)]
theorem HV{x v:IV}{l vs:List IV}:gV (x::l) 0 (v::vs)=v::gV l 0 vs:=by simp only[gV,SP,fO];rw[zds]
theorem HU{l:List IV}{k:Nat}:gV l k []=l:=dO rfl rfl
section
variable {α:Type} {g:α->List IV} {sz:Nat} {C:Call} {d:Nat} {ah:bR} {n0:Nat} {aa aK:aU} {t:List IV}
noncomputable def jL(d:Nat)(ah:bR)(aK aa:aU)(k:Nat)(v:IV):ko :=
 match v with
  |.nilsl=>if k=1 then some (.p,.int .i64 0,aa)else none
  |.slM _ _ _ n _ _ _=>if k=1 then some (.p,.int .i64 n,aa)else none
  |.slC _ n _ _=>if k=1 then some (.p,.int .i64 n,aa)else none
  |.str s=>if k=0 then some (.p,.int .i64 s.size,aa)else none
  |.eT=>if k=2 then some (.p,.int .i64 0,aa)else none
  |.eF ks _=>if k=2 then some (.p,.int .i64 ks.length,aa)else none
  |.mapM l i=>if k=2 then match look d ah aK l i with
   |some (.map ks _ _ _)=>some (.r,.int .i64 ks.length,aa)
   |_=>none
   else none
  |_=>none
theorem QD{k:Nat}{x:bG}:cH C d ah n0 aK aa t (.len k x)=jL d ah aK aa k (ρ t x):=dO rfl rfl
theorem yp(q:aS sz g):jL d ah aK aa 1 q.v=some (.p,.int .i64 (q.l.length:Nat),aa):=by
 obtain⟨l,v,ok,gC⟩:=q;have hh:∀(cs:List IV)(n:Nat)(v:IV),Sl sz cs n v->jL d ah aK aa 1 v=some (.p,.int .i64 (n:Nat),aa):=fun cs n v h=>by cases h<;>rfl
 exact hh _ _ _ ok
theorem Zd{l i off n cap z:Nat}{tight:Bool}:jL d ah aK aa 1 (.slM l i off n cap z tight)=some (.p,.int .i64 n,aa):=dO rfl rfl
theorem ze1{cs:List IV}{n z:Nat}{tight:Bool}:jL d ah aK aa 1 (.slC cs n z tight)=some (.p,.int .i64 n,aa):=dO rfl rfl
theorem zbg:jL d ah aK aa 1 .nilsl=some (.p,.int .i64 0,aa):=dO rfl rfl
noncomputable def dD(aa:aU)(sz:Nat)(v ix:IV):ko :=
 match v,mC ix with
  |.slM l i off len _ _ _,some j=>if j<len then some (.p,.ptrM l i (off+j*sz),aa)else none
  |.slC cs len _ _,some j=>if j<len then some (.p,.ptrC cs (j*sz),aa)else none
  |_,_=>none
theorem Ek{z:Nat}{x ix:bG}:cH C d ah n0 aK aa t (.iaddr z x ix)=dD aa z (ρ t x) (ρ t ix):=dO rfl rfl
theorem za(q:aS sz g){k:IntKind}{i:Nat}(h:i<q.l.length):dD aa sz q.v (.int k i)=some (.p,.ptrC (q.l.flatMap g) (i*sz),aa):=by
 obtain⟨l,v,ok,gC⟩:=q;have hh:∀(cs:List IV)(n:Nat)(v:IV),Sl sz cs n v->i<n->dD aa sz v (.int k i)=some (.p,.ptrC cs (i*sz),aa):=fun cs n v h hi=>by
  cases h
  ·omega
  ·unfold dD;rw[zX];exact bt hi
 exact hh _ _ _ ok h
theorem zA{cs:List IV}{n z:Nat}{tight:Bool}{k:IntKind}{i:Nat}(h:i<n):dD aa z (.slC cs n sz tight) (.int k i)=some (.p,.ptrC cs (i*z),aa):=by unfold dD;rw[zX];exact bt h
theorem zm{l b off n cap z z':Nat}{tight:Bool}{k:IntKind}{i:Nat}(h:i<n):dD aa z (.slM l b off n cap z' tight) (.int k i)=some (.p,.ptrM l b (off+i*z),aa):=by unfold dD;rw[zX];exact bt h
theorem Zp(q:aS sz g):q.v.scalar=true:=by
 obtain⟨l,v,ok,gC⟩:=q;have hh:∀(cs:List IV)(n:Nat)(v:IV),Sl sz cs n v->v.scalar=true:=fun cs n v h=>by cases h<;>rfl
 exact hh _ _ _ ok
theorem Cr(q:aS sz g):q.v.cells=[q.v]:=by
 obtain⟨l,v,ok,gC⟩:=q;have hh:∀(cs:List IV)(n:Nat)(v:IV),Sl sz cs n v->v.cells=[v]:=fun cs n v h=>by cases h<;>rfl
 exact hh _ _ _ ok
theorem zw(q:aS sz g){lk:Nat->Nat->Option aO}:cB lk sz q.v=some (q.l.flatMap g,q.l.length):=by
 obtain⟨l,v,ok,gC⟩:=q;have hh:∀(cs:List IV)(n:Nat)(v:IV),Sl sz cs n v->cB lk sz v=some (cs,n):=fun cs n v h=>by
  cases h
  ·rfl
  ·rename_i h;simp only[cB,seg,zi,fO,h,dz,if_true,BV,gH];rw[gj Ω]
 exact hh _ _ _ ok
end
theorem xy{cs:List IV}:(IV.agg cs).cells=cs:=dO rfl rfl
theorem xx{k:IntKind}{n:Int}:(IV.int k n).cells=[.int k n]:=dO rfl rfl
theorem ze2{b:Bool}:(IV.bool b).cells=[.bool b]:=dO rfl rfl
theorem xm{s:ByteArray}:(IV.str s).cells=[.str s]:=dO rfl rfl
theorem zda:IV.nilsl.cells=[.nilsl]:=dO rfl rfl
theorem zbh:IV.eo.cells=[.eo]:=dO rfl rfl
theorem zbi{k:IntKind}{n:Int}:(IV.int k n).scalar=true:=dO rfl rfl
theorem vO{b:Bool}:(IV.bool b).scalar=true:=dO rfl rfl
theorem Cy{s:ByteArray}:(IV.str s).scalar=true:=dO rfl rfl
theorem Yo:IV.nilsl.scalar=true:=dO rfl rfl
theorem vN{l i o:Nat}:(IV.ptrM l i o).scalar=true:=dO rfl rfl
theorem Cz{l i o n c z:Nat}{tight:Bool}:(IV.slM l i o n c z tight).scalar=true:=dO rfl rfl
theorem CA{cs:List IV}{n z:Nat}{tight:Bool}:(IV.slC cs n z tight).scalar=true:=dO rfl rfl
theorem xq{l i o n c z:Nat}{tight:Bool}:(IV.slM l i o n c z tight).cells=[.slM l i o n c z tight]:=dO rfl rfl
theorem xw{cs:List IV}{n z:Nat}{tight:Bool}:(IV.slC cs n z tight).cells=[.slC cs n z tight]:=dO rfl rfl
theorem Ik{f:FuncId}{a b:List IV}:(IV.fn f a b).scalar=true:=dO rfl rfl
section
variable {vis:List Nat} {n:Nat} {x y z w:aO} {l:aU}
theorem Ju:(b7 vis (n+1) (x::l))[0]?=some x:=by rw[zp];simp
theorem Jt:(b7 vis (n+1+1) (x::y::l))[1]?=some y:=by rw[zp];simp
theorem Js:(b7 vis (n+1+1+1) (x::y::z::l))[2]?=some z:=by rw[zp];simp
variable {a b c e:aO}
theorem Jq:(b7 vis (n+1+1+1+1+1) (x::y::z::w::a::l))[4]?=some a:=by rw[zp];simp
theorem Jp:(b7 vis (n+1+1+1+1+1+1) (x::y::z::w::a::b::l))[5]?=some b:=by rw[zp];simp
theorem Jo:(b7 vis (n+1+1+1+1+1+1+1) (x::y::z::w::a::b::c::l))[6]?=some c:=by rw[zp];simp
theorem DN{J:aU}:(b7 vis (J.length+1+1) (x::(J++[y])))[J.length+1]?=some y:=by rw[zp];simp
theorem Jr:(b7 vis (n+1+1+1+1) (x::y::z::w::l))[3]?=some w:=by rw[zp];simp
end
section
variable {α:Type} {l r:List α} {x y v:α}
theorem zdt:(l++x::r)[l.length]?=some x:=by simp
theorem ze3:(l++x::y::r)[l.length+1]?=some y:=by simp
variable {z w:α}
theorem ze4:(l++x::y::z::r)[l.length+2]?=some z:=by simp
theorem DT:(l++x::y::z::w::r)[l.length+3]?=some w:=by simp
theorem zdu:(l++x::r).set l.length v=l++v::r:=by simp
theorem Cv:(l++x::y::r).set (l.length+1) v=l++x::v::r:=by simp
end
section
variable {C:Call} {d:Nat} {ah:bR} {n:Nat} {st:St} {K:fP}
theorem ze{a:IC}(I:Nat->St->Prop)(j:Nat)(hn:j<n)(h0:I j st)
  (h:∀(j:Nat)(st:St)(K':fP),I j st->(∀ st' j',j'<j->I j' st'->K' .normal st')->(∀ id st',K (.exit id) st'->K' (.exit id) st')->(∀ st',K .ret st'->K' .ret st')->Ex C d ah n a K' st):Ex C d ah n (.loop a) K st :=
 UK I j hn h0 fun j st hI=>h j st _ hI (fun st' j' h1 h2=>⟨j',h1,h2⟩) (fun id st' hk=>hk) (fun st' hk=>hk)
end
section
variable {F:FuncId->Option jy} {S:cZ} {d:Nat} {ah:bR} {rs:List nZ} {v:IV} {st:St}
def Fin(d:Nat)(ah:bR)(rs:List nZ)(v:IV)(o:Out)(st:St):Prop:=(o=.normal∨o=.ret)/\bP d ah st rs=some v
theorem Kh:Fin d ah rs v .ret st=(bP d ah st rs=some v):=propext ⟨fun h=>h.2,fun h=>⟨.inr rfl,h⟩⟩
theorem ze5:Fin d ah rs v .normal st=(bP d ah st rs=some v):=propext ⟨fun h=>h.2,fun h=>⟨.inl rfl,h⟩⟩
theorem ae4{r:nZ}:bP d ah st [r]=p7 d ah st r:=by unfold bP;cases h:p7 d ah st r<;>simp[h]
theorem res2{r r':nZ}:bP d ah st [r,r']=(p7 d ah st r).bind fun v=>(p7 d ah st r').map fun w=>.tuple [v,w]:=by
 unfold bP;cases h:p7 d ah st r with
 |none=>simp[h]
 |some v=>cases h':p7 d ah st r'<;>simp[h,h']
noncomputable def gY(d:Nat)(ah:bR)(aa:aU)(agg:Bool)(n:Nat)(v:IV):Option IV:=match v with
 |.ptrM l i off=>match look d ah aa l i with
  |some (.cells c)=>(bM c off n).bind (mg agg)
  |_=>none
 |_=>none
theorem YJ{t:List IV}{aa:aU}{i:Nat}:p7 d ah ⟨t,aa⟩ (.tmp i)=some (bH (.tuple []) t i):=by simp only[p7];rw[z6]
theorem vU{t:List IV}{aa:aU}{agg:Bool}{n a:Nat}:p7 d ah ⟨t,aa⟩ (.cell agg n a)=gY d ah aa agg n (bH (.tuple []) t a):=by simp only[p7];rw[z6];rfl
theorem zy{f:FuncId}{i:jy}{args:List IV}{k:Nat}(hS:S f args=none)(hi:F f=some i)(hm:i.mode=0)(hv:Fz k v)(N:Nat)(hN:k<=N)
  (h:∀ m,N<=m->∀ d ah,Ex (aM F S m) d ah m i.body (Fin d ah i.res v) ⟨args++List.replicate (i.ntmps-args.length) (.tuple []),[]⟩):iA F S f args v :=
 Ql hS hi hm N fun m hm2 d ah=>(h m hm2 d ah).mono fun o st' hk=>⟨hk.1,hk.2,hv m Ω _ _⟩
end
section
variable {F:FuncId->Option jy} {S:cZ}
def MX(d:Nat)(ah:bR)(rs:List nZ)(m:Nat)(w:IV)(o:Out)(st:St):Prop:=(o=.normal∨o=.ret)/\∃ v,bP d ah st rs=some v/\freeze m d st.aa v=some w
variable {d m:Nat} {ah:bR} {rs:List nZ} {w:IV} {st:St}
theorem E0:MX d ah rs m w .ret st=∃ v,bP d ah st rs=some v/\freeze m d st.aa v=some w:=propext ⟨fun h=>h.2,fun h=>⟨.inr rfl,h⟩⟩
theorem zdb:MX d ah rs m w .normal st=∃ v,bP d ah st rs=some v/\freeze m d st.aa v=some w:=propext ⟨fun h=>h.2,fun h=>⟨.inl rfl,h⟩⟩
theorem Yb{f:FuncId}{i:jy}{args:List IV}{w:IV}(hS:S f args=none)(hi:F f=some i)(hm:i.mode=0)(N:Nat)
  (h:∀ m,N<=m->∀ d ah,Ex (aM F S m) d ah m i.body (MX d ah i.res m w) ⟨args++List.replicate (i.ntmps-args.length) (.tuple []),[]⟩):iA F S f args w:=by
 refine⟨N+1,fun m hN d ah aK aa id=>?_⟩
 obtain⟨m,rfl⟩:∃ q,m=q+1:=⟨m-1,Ω⟩
 obtain⟨o,st,h1,h2,v,h3,h4⟩:=h m Ω (d+1) (fun l=>if l=d then aK else ah l)
 have hm2:¬ i.mode=2:=Ω
 have Jn:¬ i.mode=3:=Ω
 have hm4:¬ 4<=i.mode:=Ω
 have hm1:¬ i.mode=1:=Ω
 simp only[aM,hS,hi,bC hm2,bC Jn,bC hm4,zi,h1]
 rcases h2 with rfl|rfl<;>simp only[ended,h3,jG,leave,bC hm1,h4,gH]
end
section
variable {α:Type} {g:α->List IV} {sz:Nat}
theorem acm{k:Nat}(hg:∀ a,∀ x∈g a,Fz k x){l:List α}{len:Nat}{tight:Bool}:Fz (k+1) (.slC (l.flatMap g) len sz tight):=Bb fun x hx=>by obtain⟨a,_,h⟩:=qS.1 hx;exact hg a x h
theorem yi{k m d i n:Nat}(hg:∀ a,∀ x∈g a,Fz k x)(hk:k+1<=m){l:List α}{aa:aU}{tight:Bool}(hl:l.length=n)(hs:∀ a,(g a).length=sz)(ho:aa[i]?=some (.cells (l.flatMap g))):freeze m d aa (.slM d i 0 n n sz tight)=some (.slC (l.flatMap g) n sz (tight&&true)):=by
 obtain⟨m,rfl⟩:∃ q,m=q+1:=⟨m-1,Ω⟩;have iP:seg (l.flatMap g) 0 (n*sz)=some (l.flatMap g):=by unfold seg;rw[zi,zl hs,hl,bt Ω,BV,gj (by rw[zl hs,hl];exact dz _)]
 simp only[freeze,if_true,ho,iP,jG];rw [zS fun x hx=>by
  obtain⟨a,_,h⟩:=qS.1 hx;exact hg a x h m Ω d aa]
 simp
end
def Wc:=aj @zez<|aj @Ki<|aj @E2<|aj @E3<|aj @Kj<|aj @Sn<|aj @Kl<|aj @yt<|aj @zc8<|aj @zbe<|aj @YI<|aj @zc9<|aj @zbf<|aj @BP<|aj @R6<|aj @EV<|aj @BQ<|aj @Sd<|aj @EY<|aj @QD<|aj @Ek<|aj @QB<|aj @wS<|aj @JC<|aj @JD<|aj @QH<|aj @Eo<|aj @wU<|aj @JF<|aj @Eg<|aj @QI<|aj @En<|aj @QG<|aj @QF<|aj @QE<|aj @WX<|aj @JH<|aj @JG<|aj @JE<|aj @Eh<|aj @Em<|aj @El<|aj @wT<|aj @Ej<|aj @ze0<|aj @JI<|aj @WY<|aj @yp<|aj @Zd<|aj @ze1<|aj @zbg<|aj @zi<|aj @ρ_at<|aj @ρR3<|aj @C2<|aj @Ct<|aj @Cu<|aj @xy<|aj @xx<|aj @ze2<|aj @xm<|aj @zda<|aj @zbh<|aj @Cr<|aj @zbi<|aj @vO<|aj @Cy<|aj @Yo<|aj @vN<|aj @Ik<|aj @Zp<|aj @zdr<|aj @Iz<|aj @Iw<|aj @zds<|aj @HV<|aj @HU<|aj @zdt<|aj @ze3<|aj @zdu<|aj @Cv<|aj @Kh<|aj @ze5<|aj @Km<|aj @E4<|aj @xG<|aj @EU<|aj @R8<|aj @Sb<|aj @R9<|aj @Sa<|aj @R7<|aj @zg<|aj @ae4<|aj @res2<|aj @YJ<|aj @vU<|aj @E0<|aj @zdb<|aj @Cz<|aj @CA<|aj @xq<|aj @xw<|aj @Ju<|aj @Jt<|aj @Js<|aj @Jr<|aj @Jq<|aj @Jp<|aj @Jo<|aj @EX<|aj @Sf<|aj @Sj<|aj @Sh<|aj @Si<|aj @Se<|aj @ze4<|aj @DT<|@DN
def af5:=aj @Wc<|aj @wL<|aj @wM<|@yd
end
section
open Go Go.Proofs.Tryz
abbrev oR(d:Nat)(o:kA):dc:=⟨some d,o,none,[]⟩
abbrev oM(d a:Nat):dc:=⟨some d,.mov (.tmp a),none,[]⟩
abbrev oG(d:Nat)(o:kA)(j:Nat)(b:Bool):dc:=⟨some d,o,some (j,b),[]⟩
abbrev oN(o:kA):dc:=⟨none,o,none,[]⟩
abbrev oL(d a:Nat):dc:=⟨some d,.load false 1 (.tmp a),none,[]⟩
abbrev oA(d n a:Nat):dc:=⟨some d,.load true n (.tmp a),none,[]⟩
abbrev oD(d n a b:Nat):dc:=⟨some d,.iaddr n (.tmp a) (.tmp b),none,[]⟩
abbrev oF(d k a:Nat):dc:=⟨some d,.faddr k (.tmp a),none,[]⟩
abbrev oK(d:Nat)(x:Int):dc:=⟨some d,.mov (.const (.int .i64 x)),none,[]⟩
abbrev oJ(d:Nat)(o:BinOp)(a:Nat)(x:Int):dc:=⟨some d,.bin o (.tmp a) (.const (.int .i64 x)),none,[]⟩
abbrev oB(d:Nat)(o:BinOp)(a b:Nat):dc:=⟨some d,.bin o (.tmp a) (.tmp b),none,[]⟩
abbrev oE(d n a:Nat):dc:=⟨some d,.len n (.tmp a),none,[]⟩
abbrev oX(d a i:Nat):dc:=⟨some d,.extract (.tmp a) i,none,[]⟩
abbrev oH(d a s:Nat):dc:=⟨some d,.box (.tmp a) s,none,[]⟩
abbrev oZ(s:Nat)(l:List dc):IC:=.region false s l []
abbrev oC(a e:Nat):IC:=.cond (.tmp a) .skip (.exit e)
abbrev oT(a:Nat):bG:=.tmp a
abbrev oI(x:Int):bG:=.const (.int .i64 x)
def upL:Nat->List Nat->List Nat
 |0,a=>a
 |n+1,a=>upL n (n::a)
def Tj:List dc->Nat->List Nat->List (Nat×Nat)->List dc
 |[],_,_,_=>[]
 |o::l,i,cur,[]=>{ o with vis:=cur }::Tj l (i+1) cur []
 |o::l,i,cur,(k,n)::vs=>match Nat.beq i k with
  |true=>{ o with vis:=upL n [] }::Tj l (i+1) (upL n []) vs
  |false=>{ o with vis:=cur }::Tj l (i+1) cur ((k,n)::vs)
abbrev Ann:Type:=List (List (Nat×Nat)×List (Nat×Nat))
def uK(P:Program):Nat->TypeId->Option (List Nat)
 |0,_=>none
 |D+1,t=>match P.underlying t with
  |some .bool=>some [0]
  |some (.int _)=>some [1]
  |some .string=>some [2]
  |some (.struct fs)=>Bw (uK P D) fs.toList 0
  |some (.array len e)=>(uK P D e).map fun l=>p8 l len
  |_=>none
def uOp(P:Program)(o:Op)(slot:Nat):Option kA :=
 match o with
 |.binOp op t x y z=>match P.underlying t,bI x,bI y with
  |some (.struct _),some x,some y=>(uK P 40 t).map fun ks=>.eqagg (match op with|.neq=>true|_=>false) ks x y
  |some (.array _ _),some x,some y=>(uK P 40 t).map fun ks=>.eqagg (match op with|.neq=>true|_=>false) ks x y
  |_,_,_=>Rj P (.binOp op t x y z) slot
 |.lookup t x ix ok=>match P.underlying t,bI x,bI ix with
  |some (.map k e),some y,some j=>match uK P 40 k,P.underlying k with
   |some kt,some u=>(jl P e).map fun z=>.lookup z (iH u,kt) ok y j
   |_,_=>none
  |_,_,_=>none
 |.mapUpdate t m k v=>match P.underlying t,bI m,bI k,bI v with
  |some (.map kt _),some a,some b,some c=>match uK P 40 kt,P.underlying kt with
   |some l,some u=>some (.mapupd (iH u,l) a b c)
   |_,_=>none
  |_,_,_,_=>none
 |o=>Rj P o slot
def aew(P:Program)(ops:Array Oper):List Oper->Nat->Option (List dc×Nat)
 |[],s=>some ([],s)
 |o::rest,s=>match uOp P o.op s,qH ops o.guard with
  |some op,some g=>match aew P ops rest (if op.makes then s+1 else s)with
   |some (l,s')=>some (⟨o.dst,op,g,[]⟩::l,s')
   |none=>none
  |_,_=>none
def tG(P:Program):Code->Ann->Option (IC×Ann)
 |.skip,an=>some (.skip,an)
 |.region _ ops draw,an=>match aew P ops ops.toList 0 with
  |none=>none
  |some (l,s)=>match draw,an with
   |false,an=>some (.region false s l [],an)
   |true,(vs,fr)::an=>some (.region true s (Tj l 0 [] vs) fr,an)
   |true,[]=>none
 |.seq a b,an=>match tG P a an with
  |some (x,an)=>match tG P b an with
   |some (y,an)=>some (.seq x y,an)
   |none=>none
  |none=>none
 |.cond c a b,an=>match bI c,tG P a an with
  |some z,some (x,an)=>match tG P b an with
   |some (y,an)=>some (.cond z x y,an)
   |none=>none
  |_,_=>none
 |.block id a,an=>match tG P a an with
  |some (x,an)=>some (.block id x,an)
  |none=>none
 |.loop a,an=>match tG P a an with
  |some (x,an)=>some (.loop x,an)
  |none=>none
 |.exit id,an=>some (.exit id,an)
 |.ret,an=>some (.ret,an)
 |_,_=>none
def uCF(P:Program)(fn:Func)(an:Ann)(mode:Nat):Option jy:=match fn.body with
 |none=>none
 |some c=>match tG P c an,allM (Mu P) fn.results.toList with
  |some (b,_),some r=>some ⟨fn.ntmps,r,b,mode⟩
  |_,_=>none
abbrev cG(mode:Nat)(fn:Func)(an:Ann){i:jy}(_:uCF Tryz.prog fn an mode=some i:=by conv=>lhs;reduce;simp only[Int.reduceOfNat,Int.reduceNegSucc]):jy:=i
noncomputable section
def i3:=cG 0 f3 [([(3,1),(4,2),(7,3)],[(0,2),(1,2)])]
def i5:=cG 0 f5 []
def i6:=cG 0 f6 [([(2,1),(3,2),(7,3),(8,4),(13,5),(14,6),(19,7),(20,8),(25,9),(26,10),(30,11),(31,12),(35,13),(41,14),(42,15),(47,16),(48,17)],[(38,40),(44,46)])]
def i7:=cG 3 f7 []
def i8:=cG 0 f8 [([(6,1),(15,2)],[(0,4)])]
def i10:jy:=⟨105,[(.tmp 4)],(.seq (oZ 1 [oH 2 0 0,oK 4 0]) (.seq (oZ 2 [oA 16 4 2,oM 17 1,oR 18 (.call (.const (.fn 16 [] [])) [(oT 16),(oT 17)] 0),oM 15 18,oX 19 15 0,oX 20 15 1,oR 5 (.newv [(.int .i64 0),(.int .i64 0),(.int .i64 0),(.str (bs [])),.nilsl] 1),oN (.store 5 (oT 5) (oT 19)),oM 6 20]) (.seq (.seq (oZ 2 [oM 21 6,oR 22 (.un .not (oT 21)),oM 23 22,oG 24 (.faddr 1 (oT 5)) 23 false,oG 25 (.load false 1 (oT 24)) 23 false,oG 26 (.call (.const (.fn 11 [] [])) [(oT 25)] 0) 23 false,oG 27 (.bin .neq (oT 26) (oI 3)) 23 false,oR 28 (.pick (oT 23) (.const (.bool true)) (oT 27)),oM 29 28,oG 30 (.faddr 0 (oT 2)) 29 false,oG 31 (.load true 3 (oT 30)) 29 false,oG 32 (.call (.const (.fn 36 [] [])) [(oT 31)] 1) 29 false,oG 33 (.bin .neq (oT 32) (oI 0)) 29 false,oR 34 (.pick (oT 29) (.const (.bool true)) (oT 33))]) (.cond (oT 34) (.seq (oZ 0 [oK 4 0]) .ret) .skip)) (.seq (.seq (oZ 0 [oF 35 0 2,oF 36 1 35,oL 37 36,oE 38 1 37,oK 39 0]) (.block 0 (.loop (.seq (oZ 0 [oB 40 .lss 39 38]) (.seq (oC 40 0) (.seq (.block 1 (.seq (oZ 1 [oD 41 6 37 39,oA 42 6 41,oR 8 (.newv [(.int .i64 0),(.int .i64 0),(.int .i64 0),.nilsl,(.int .i64 0),(.int .i64 0)] 0),oN (.store 6 (oT 8) (oT 42))]) (.seq (.region true 2 [oF 43 4 5,oL 44 43,oF 45 4 8,oL 46 45,oR 47 (.call (.const (.fn 37 [] [])) [(oT 44),(oT 46)] 0),oF 48 4 5,oL 49 48,oF 50 5 8,oL 51 50,⟨(.some 52),(.call (.const (.fn 37 [] [])) [(oT 49),(oT 51)] 1),.none,[0]⟩,⟨(.some 9),(.mov (oT 47)),.none,[0,1]⟩,⟨(.some 10),(.mov (oT 52)),.none,[0,1]⟩] [(1,3),(1,6),(3,6),(4,6),(1,8),(3,8),(4,8),(6,8)]) (.seq (.seq (oZ 0 [oM 53 9,oM 54 10,oR 55 (.eqb false (oT 53) (oT 54))]) (.cond (oT 55) (.exit 1) .skip)) (.seq (oZ 0 [oK 11 0]) (.seq (oZ 1 [oF 57 0 2,oA 58 3 57,oF 59 0 8,oL 60 59,oR 61 (.call (.const (.fn 38 [] [])) [(oT 58),(oT 60)] 0),oM 56 61,oX 62 56 0,oX 63 56 1,oM 12 62,oM 13 63]) (.seq (.seq (oZ 0 [oK 14 1]) (.block 2 (.loop (.seq (.seq (oZ 0 [oM 64 14,oM 65 12,oE 66 1 65,oB 67 .lss 64 66]) (oC 67 2)) (.seq (.block 3 (.region true 0 [oM 70 11,oM 71 12,oM 72 14,oJ 73 .sub 72 1,oD 74 2 71 73,oF 75 0 74,oL 76 75,oM 77 12,oM 78 14,oD 79 2 77 78,oF 80 1 79,oL 81 80,oB 82 .mul 76 81,oM 83 12,oM 84 14,oD 85 2 83 84,oF 86 0 85,oL 87 86,oM 88 12,oM 89 14,oJ 90 .sub 89 1,oD 91 2 88 90,oF 92 1 91,oL 93 92,oB 94 .mul 87 93,oB 95 .sub 82 94,oB 96 .add 70 95,oM 11 96] [(6,11),(6,17),(11,17),(6,23),(11,23),(17,23)])) (oZ 0 [oM 68 14,oJ 69 .add 68 1,oM 14 69])))))) (.seq (.seq (oZ 0 [oM 97 10]) (.cond (oT 97) (oZ 0 [oM 98 11,oR 99 (.un .neg (oT 98)),oM 11 99]) .skip)) (oZ 0 [oM 100 4,oM 101 11,oB 102 .add 100 101,oM 4 102]))))))))) (oZ 0 [oJ 103 .add 39 1,oM 39 103]))))))) (.seq (oZ 0 [oM 104 4,oM 4 104]) .ret))))),0⟩
def i11:=cG 0 f11 []
def i13:=cG 0 f13 []
def i14:jy:=⟨28,[(.cell true 4 8)],(.seq (oZ 1 [oR 8 (.newv [.nilsl,.nilsl,.nilsl,.nilsl] 0)]) (.seq (oZ 1 [oR 10 (.build [(.int .i64 0),(.int .i64 0),(.int .i64 0)] [(0,(1,(oI 1)))]),oR 11 (.bslice [(.int .i64 0),(.int .i64 0),(.int .i64 0)] 3 1 [(0,(3,(oT 10)))]),oR 12 (.build [(.int .i64 0),(.int .i64 0)] [(0,(1,(oI 10)))]),oR 13 (.build [(.int .i64 0),(.int .i64 0)] [(0,(1,(oI 10))),(1,(1,(oI 10)))]),oR 14 (.build [(.int .i64 0),(.int .i64 0)] [(1,(1,(oI 10)))]),oR 15 (.bslice [(.int .i64 0),(.int .i64 0)] 2 3 [(0,(2,(oT 12))),(2,(2,(oT 13))),(4,(2,(oT 14)))]),oR 16 (.build [(.int .i64 0),(.int .i64 0),(.int .i64 0),.nilsl,(.int .i64 0),(.int .i64 0)] [(0,(1,(oI 1))),(1,(1,(oI 1))),(2,(1,(oI 1))),(3,(1,(oT 15))),(4,(1,(oI 1)))]),oR 17 (.bslice [(.int .i64 0),(.int .i64 0),(.int .i64 0),.nilsl,(.int .i64 0),(.int .i64 0)] 6 1 [(0,(6,(oT 16)))]),oR 18 (.bslice [(.int .i64 0)] 1 1 [(0,(1,(oI 1)))]),oR 19 (.build [.nilsl,.nilsl,.nilsl] [(0,(1,(oT 11))),(1,(1,(oT 17))),(2,(1,(oT 18)))]),oR 9 (.newv [.nilsl,.nilsl,.nilsl] 0),oN (.store 3 (oT 9) (oT 19))]) (.seq (oZ 0 [oA 20 3 9,oM 21 0,oM 22 1,oM 23 2,oM 24 3,oR 25 (.build [(.int .i64 0),(.int .i64 0),(.int .i64 0),(.str (bs [])),.nilsl] [(0,(1,(oI 5))),(1,(1,(oT 21))),(2,(1,(oT 22))),(3,(1,(oT 23))),(4,(1,(oT 24)))]),oR 26 (.bslice [(.int .i64 0),(.int .i64 0),(.int .i64 0),(.str (bs [])),.nilsl] 5 1 [(0,(5,(oT 25)))]),oR 27 (.build [.nilsl,.nilsl,.nilsl,.nilsl] [(0,(3,(oT 20))),(3,(1,(oT 26)))]),oN (.store 4 (oT 8) (oT 27))]) .ret))),0⟩
def i15:jy:=⟨99,[(.cell true 4 4),(.tmp 5)],(.seq (oZ 2 [oH 2 0 0,oR 4 (.newv [(.int .i64 0),(.int .i64 0),(.int .i64 0),(.int .i64 0)] 1),oR 5 (.mov (.const (.bool false)))]) (.seq (oZ 2 [oA 18 4 2,oM 19 1,oR 20 (.call (.const (.fn 16 [] [])) [(oT 18),(oT 19)] 0),oM 17 20,oX 21 17 0,oX 22 17 1,oR 6 (.newv [(.int .i64 0),(.int .i64 0),(.int .i64 0),(.str (bs [])),.nilsl] 1),oN (.store 5 (oT 6) (oT 21)),oM 5 22]) (.seq (.seq (oZ 0 [oM 23 5,oR 24 (.un .not (oT 23))]) (.cond (oT 24) (.seq (oZ 0 [oA 25 4 4,oN (.store 4 (oT 4) (oT 25)),oR 5 (.mov (.const (.bool false)))]) .ret) .skip)) (.seq (oZ 1 [oR 7 (.newv [.nilsl] 0)]) (.seq (oZ 0 [oR 26 (.mkfn 39 [] [(oT 2),(oT 7)]),oM 8 26]) (.seq (.seq (oZ 1 [oF 27 1 6,oL 28 27,oR 29 (.call (.const (.fn 11 [] [])) [(oT 28)] 0)]) (.block 0 (.seq (oZ 0 [oJ 31 .eql 29 1,oM 30 31]) (.cond (oT 30) (.seq (oZ 0 [oF 32 4 6,oL 33 32,oE 34 1 33,oK 35 0]) (.block 1 (.loop (.seq (oZ 0 [oB 36 .lss 35 34]) (.seq (oC 36 1) (.seq (.block 2 (.seq (oZ 0 [oD 37 1 33 35,oL 38 37,oM 10 38]) (.seq (oZ 2 [oF 40 0 2,oA 41 3 40,oM 42 10,oR 43 (.call (.const (.fn 40 [] [])) [(oT 41),(oT 42)] 0),oM 39 43,oX 44 39 0,oX 45 39 1,oR 11 (.newv [(.int .i64 0),(.int .i64 0),(.int .i64 0)] 1),oN (.store 3 (oT 11) (oT 44)),oM 12 45]) (.seq (oZ 0 [oM 46 12]) (.cond (oT 46) (oZ 1 [oL 47 7,oF 48 1 11,oA 49 2 48,oR 50 (.bslice [(.int .i64 0),(.int .i64 0)] 2 1 [(0,(2,(oT 49)))]),oR 51 (.append [(.int .i64 0),(.int .i64 0)] 2 false (oT 47) (oT 50) 0),oN (.store 1 (oT 7) (oT 51))]) .skip))))) (oZ 0 [oJ 52 .add 35 1,oM 35 52]))))))) (.seq (oZ 0 [oJ 54 .eql 29 2,oM 53 54]) (.cond (oT 53) (.seq (oZ 0 [oF 55 4 6,oL 56 55,oE 57 1 56,oK 58 0]) (.block 3 (.loop (.seq (oZ 0 [oB 59 .lss 58 57]) (.seq (oC 59 3) (.seq (.block 4 (.seq (oZ 0 [oD 60 1 56 58,oL 61 60,oM 14 61]) (oZ 1 [oM 62 8,oM 63 14,oR 64 (.call (oT 62) [(oT 63)] 0)]))) (oZ 0 [oJ 65 .add 58 1,oM 58 65]))))))) (.seq (oZ 0 [oJ 67 .eql 29 3,oM 66 67]) (.cond (oT 66) (.seq (oZ 0 [oF 68 0 2,oF 69 1 68,oL 70 69,oE 71 1 70,oK 72 0]) (.block 5 (.loop (.seq (oZ 0 [oB 73 .lss 72 71]) (.seq (oC 73 5) (.seq (.block 6 (.seq (oZ 1 [oD 74 6 70 72,oA 75 6 74,oR 16 (.newv [(.int .i64 0),(.int .i64 0),(.int .i64 0),.nilsl,(.int .i64 0),(.int .i64 0)] 0),oN (.store 6 (oT 16) (oT 75))]) (.seq (oZ 2 [oF 76 4 6,oL 77 76,oF 78 4 16,oL 79 78,oR 80 (.call (.const (.fn 37 [] [])) [(oT 77),(oT 79)] 0),oM 81 80,oG 82 (.faddr 4 (oT 6)) 81 false,oG 83 (.load false 1 (oT 82)) 81 false,oG 84 (.faddr 5 (oT 16)) 81 false,oG 85 (.load false 1 (oT 84)) 81 false,oG 86 (.call (.const (.fn 37 [] [])) [(oT 83),(oT 85)] 1) 81 false,oR 87 (.pick (oT 81) (.const (.bool true)) (oT 86))]) (.cond (oT 87) (oZ 1 [oM 88 8,oF 89 0 16,oL 90 89,oR 91 (.call (oT 88) [(oT 90)] 0)]) .skip)))) (oZ 0 [oJ 92 .add 72 1,oM 72 92]))))))) .skip)))))))) (.seq (.seq (oZ 0 [oL 93 7,oE 94 1 93,oJ 95 .eql 94 0]) (.cond (oT 95) (.seq (oZ 0 [oA 96 4 4,oN (.store 4 (oT 4) (oT 96)),oR 5 (.mov (.const (.bool false)))]) .ret) .skip)) (.seq (oZ 1 [oL 97 7,oR 98 (.call (.const (.fn 41 [] [])) [(oT 97)] 0),oN (.store 4 (oT 4) (oT 98)),oR 5 (.mov (.const (.bool true)))]) .ret)))))))),0⟩
def i16:jy:=⟨26,[(.cell true 5 4),(.tmp 5)],(.seq (oZ 2 [oH 2 0 0,oR 4 (.newv [(.int .i64 0),(.int .i64 0),(.int .i64 0),(.str (bs [])),.nilsl] 1),oR 5 (.mov (.const (.bool false)))]) (.seq (.seq (oZ 0 [oF 8 3 2,oL 9 8,oE 10 1 9,oK 11 0]) (.block 0 (.loop (.seq (oZ 0 [oB 12 .lss 11 10]) (.seq (oC 12 0) (.seq (.block 1 (.seq (oZ 1 [oD 13 5 9 11,oA 14 5 13,oR 7 (.newv [(.int .i64 0),(.int .i64 0),(.int .i64 0),(.str (bs [])),.nilsl] 0),oN (.store 5 (oT 7) (oT 14))]) (.seq (oZ 0 [oF 15 0 7,oL 16 15,oM 17 1,oB 18 .eql 16 17]) (.cond (oT 18) (.seq (oZ 1 [oF 19 4 7,oL 20 19,oR 21 (.call (.const (.fn 42 [] [])) [(oT 20)] 0),oF 22 4 7,oN (.store 1 (oT 22) (oT 21))]) (.seq (oZ 0 [oA 23 5 7,oN (.store 5 (oT 4) (oT 23)),oR 5 (.mov (.const (.bool true)))]) .ret)) .skip)))) (oZ 0 [oJ 24 .add 11 1,oM 11 24]))))))) (.seq (oZ 0 [oA 25 5 4,oN (.store 5 (oT 4) (oT 25)),oR 5 (.mov (.const (.bool false)))]) .ret))),0⟩
def i17:=cG 0 f17 [([],[(3,7)])]
def i18:jy:=⟨40,[(.tmp 6)],(.seq (oZ 1 [oH 3 0 0,oR 6 (.mov (.const .nilsl))]) (.seq (.seq (oZ 0 [oM 9 1,oJ 10 .lss 9 1,oM 11 10,oG 12 (.mov (oT 1)) 11 false,oG 13 (.bin .gtr (oT 12) (oI 3)) 11 false,oR 14 (.pick (oT 11) (.const (.bool true)) (oT 13))]) (.cond (oT 14) (.seq (oZ 0 [oR 6 (.mov (.const .nilsl))]) .ret) .skip)) (.seq (.seq (oZ 0 [oF 15 3 3,oL 16 15,oE 17 1 16,oK 18 0]) (.block 0 (.loop (.seq (oZ 0 [oB 19 .lss 18 17]) (.seq (oC 19 0) (.seq (.block 1 (.seq (oZ 1 [oD 20 5 16 18,oA 21 5 20,oR 8 (.newv [(.int .i64 0),(.int .i64 0),(.int .i64 0),(.str (bs [])),.nilsl] 0),oN (.store 5 (oT 8) (oT 21))]) (.seq (oZ 2 [oF 22 1 8,oL 23 22,oR 24 (.call (.const (.fn 11 [] [])) [(oT 23)] 0),oM 25 1,oB 26 .eql 24 25,oM 27 26,oG 28 (.faddr 4 (oT 8)) 27 true,oG 29 (.load false 1 (oT 28)) 27 true,oG 30 (.mov (oT 2)) 27 true,oG 31 (.call (.const (.fn 37 [] [])) [(oT 29),(oT 30)] 1) 27 true,oR 32 (.pick (oT 27) (oT 31) (.const (.bool false)))]) (.cond (oT 32) (oZ 1 [oM 33 6,oF 34 0 8,oL 35 34,oR 36 (.bslice [(.int .i64 0)] 1 1 [(0,(1,(oT 35)))]),oR 37 (.append [(.int .i64 0)] 1 false (oT 33) (oT 36) 0),oM 6 37]) .skip)))) (oZ 0 [oJ 38 .add 18 1,oM 18 38]))))))) (.seq (oZ 0 [oM 39 6,oM 6 39]) .ret)))),0⟩
def i19:=cG 0 f19 []
def i20:=cG 0 f20 []
def i21:=cG 0 f21 []
def i22:=cG 2 f22 []
def i23:=cG 0 f23 []
def i24:=cG 0 f24 []
def i25:jy:=⟨12,[(.tmp 2)],(.seq (oZ 1 [oH 1 0 0,oR 2 (.mov (.const (.bool false)))]) (.seq (oZ 1 [oF 3 3 1,oL 4 3,oR 5 (.bin .neq (oT 4) (.const (.str (bs [])))),oM 6 5,oG 7 (.faddr 3 (oT 1)) 6 true,oG 8 (.load false 1 (oT 7)) 6 true,oG 9 (.call (.const (.fn 26 [] [])) [(oT 8)] 0) 6 true,oG 10 (.bin .neq (oT 9) (oI 0)) 6 true,oR 11 (.pick (oT 6) (oT 10) (.const (.bool false))),oM 2 11]) .ret)),0⟩
def i26:=cG 0 f26 []
def i27:=cG 0 f27 []
def i28:=cG 0 f28 []
def i29:=cG 0 f29 []
def i30:=cG 2 f30 []
def i31:=cG 2 f31 []
def i32:=cG 0 f32 []
def i33:=cG 0 f33 [([],[(0,2),(0,5)])]
def i34:=cG 0 f34 [([],[(4,8)])]
def i35:=cG 0 f35 [([],[(1,6),(4,6),(1,9),(4,9)])]
def i36:=cG 0 f36 []
def i37:=cG 0 f37 []
def i38:=cG 0 f38 []
def i39:=cG 2 f39 []
def i40:=cG 0 f40 []
def i41:=cG 0 f41 [([],[(3,7),(3,11),(7,11),(3,15),(7,15),(11,15)]),([],[(1,3),(1,6),(3,6),(1,8),(3,8),(6,8),(8,11)]),([],[(1,3),(1,6),(3,6),(1,8),(3,8),(6,8),(8,11)])]
def i42:=cG 0 f42 []
def i43:=cG 0 f43 []
def i44:jy:=⟨32,[(.tmp 6)],(.seq (oZ 0 [oR 6 (.mov (.const (.bool false)))]) (.seq (.seq (oZ 0 [oM 10 0,oE 11 1 10,oM 12 1,oE 13 1 12,oB 14 .neq 11 13]) (.cond (oT 14) (.seq (oZ 0 [oR 6 (.mov (.const (.bool false)))]) .ret) .skip)) (.seq (.seq (oZ 0 [oM 15 0,oE 16 1 15,oK 17 0]) (.block 0 (.loop (.seq (oZ 0 [oB 18 .lss 17 16]) (.seq (oC 18 0) (.seq (.block 1 (.seq (oZ 1 [oM 19 17,oD 20 5 15 17,oA 21 5 20,oR 8 (.newv [(.int .i64 0),(.int .i64 0),(.int .i64 0),(.str (bs [])),.nilsl] 0),oM 7 19,oN (.store 5 (oT 8) (oT 21))]) (.seq (oZ 1 [oM 22 1,oM 23 7,oD 24 5 22 23,oA 25 5 24,oR 9 (.newv [(.int .i64 0),(.int .i64 0),(.int .i64 0),(.str (bs [])),.nilsl] 0),oN (.store 5 (oT 9) (oT 25))]) (.seq (oZ 1 [oM 26 2,oA 27 5 8,oA 28 5 9,oR 29 (.call (oT 26) [(oT 27),(oT 28)] 0),oR 30 (.un .not (oT 29))]) (.cond (oT 30) (.seq (oZ 0 [oR 6 (.mov (.const (.bool false)))]) .ret) .skip))))) (oZ 0 [oJ 31 .add 17 1,oM 17 31]))))))) (.seq (oZ 0 [oR 6 (.mov (.const (.bool true)))]) .ret)))),0⟩
def i45:=cG 0 f45 []
def i46:=cG 0 f46 [([],[(3,7)])]
def i47:=cG 0 f47 []
def i48:=cG 2 f48 [([(18,1)],[(4,5),(4,11),(5,11),(9,11)])]
def i49:=cG 0 f49 [([],[(4,8)])]
def i50:jy:=⟨45,[(.tmp 2),(.tmp 3)],(.seq (oZ 0 [oR 2 (.mov (.const .nilsl)),oK 3 0]) (.seq (.seq (oZ 0 [oM 6 0,oR 7 (.bin .eql (oT 6) (.const (.str (bs []))))]) (.cond (oT 7) (.seq (oZ 0 [oR 2 (.mov (.const .nilsl)),oK 3 14]) .ret) .skip)) (.seq (.seq (oZ 0 [oM 8 0,oE 9 0 8,oJ 10 .gtr 9 40]) (.cond (oT 10) (.seq (oZ 0 [oR 2 (.mov (.const .nilsl)),oK 3 3]) .ret) .skip)) (.seq (oZ 1 [oM 12 0,oR 13 (.call (.const (.fn 77 [] [])) [(oT 12)] 0),oM 11 13,oX 14 11 0,oX 15 11 1,oM 2 14,oM 3 15]) (.seq (.seq (oZ 0 [oM 16 3,oJ 17 .neq 16 0]) (.cond (oT 17) (.seq (oZ 0 [oM 18 3,oR 2 (.mov (.const .nilsl)),oM 3 18]) .ret) .skip)) (.seq (.seq (oZ 1 [oM 19 0,oR 20 (.indexS (oT 19) (oI 0)),oR 21 (.bin .eql (oT 20) (.const (.int .u8 32))),oM 22 21,oG 23 (.mov (oT 0)) 22 false,oG 24 (.mov (oT 0)) 22 false,oG 25 (.len 0 (oT 24)) 22 false,oG 26 (.bin .sub (oT 25) (oI 1)) 22 false,oG 27 (.indexS (oT 23) (oT 26)) 22 false,oG 28 (.bin .eql (oT 27) (.const (.int .u8 32))) 22 false,oR 29 (.pick (oT 22) (.const (.bool true)) (oT 28)),oM 30 29,oG 31 (.mov (oT 0)) 30 false,oG 32 (.call (.const (.fn 78 [] [])) [(oT 31),(.const (.str (bs [32,32])))] 0) 30 false,oR 33 (.pick (oT 30) (.const (.bool true)) (oT 32))]) (.cond (oT 33) (.seq (oZ 0 [oR 2 (.mov (.const .nilsl)),oK 3 14]) .ret) .skip)) (.seq (.seq (oZ 0 [oM 34 2,oE 35 1 34,oK 36 0]) (.block 0 (.loop (.seq (oZ 0 [oB 37 .lss 36 35]) (.seq (oC 37 0) (.seq (.block 1 (.seq (oZ 0 [oD 38 1 34 36,oL 39 38,oM 5 39]) (.seq (oZ 1 [oM 40 5,oR 41 (.call (.const (.fn 79 [] [])) [(oT 40)] 0),oJ 42 .neq 41 0]) (.cond (oT 42) (.seq (oZ 0 [oM 43 2,oM 2 43,oK 3 0]) .ret) .skip)))) (oZ 0 [oJ 44 .add 36 1,oM 36 44]))))))) (.seq (oZ 0 [oR 2 (.mov (.const .nilsl)),oK 3 14]) .ret)))))))),0⟩
def i51:=cG 0 f51 []
def i52:=cG 0 f52 []
def i53:=cG 0 f53 []
def i54:=cG 0 f54 []
def i55:=cG 2 f55 []
def i56:=cG 2 f56 []
def i57:=cG 0 f57 [([(7,1)],[(0,2),(0,5)]),([(8,1),(18,2)],[(0,2),(0,6),(10,12),(10,16)])]
def i58:=cG 0 f58 [([(11,1)],[(2,7),(2,9)]),([(12,1)],[(0,5),(0,10),(5,10)]),([(15,1)],[(0,5),(0,8),(0,13),(5,13),(8,13)]),([(5,1),(6,2)],[(2,4)])]
def i59:jy:=⟨80,[(.tmp 6)],(.seq (oZ 2 [oH 3 0 0,oH 4 1 1,oR 6 (.mov (.const (.bool false)))]) (.seq (.seq (oZ 0 [oM 7 2]) (.block 0 (.seq (oZ 0 [oJ 9 .eql 7 3,oM 8 9]) (.cond (oT 8) (.seq (oZ 0 [oF 10 4 4,oL 11 10,oE 12 1 11,oJ 13 .gtr 12 64,oM 6 13]) .ret) (.seq (oZ 0 [oJ 15 .eql 7 10,oM 14 15]) (.cond (oT 14) (.seq (oZ 1 [oF 16 4 4,oL 17 16,oR 18 (.call (.const (.fn 34 [] [])) [(oT 17)] 0),oR 19 (.un .not (oT 18)),oM 6 19]) .ret) (.seq (oZ 0 [oJ 21 .eql 7 2,oM 20 21]) (.cond (oT 20) (.seq (oZ 0 [oF 22 0 4,oL 23 22,oJ 24 .lss 23 1,oM 25 24,oG 26 (.faddr 0 (oT 4)) 25 false,oG 27 (.load false 1 (oT 26)) 25 false,oG 28 (.bin .gtr (oT 27) (oI 1073741824)) 25 false,oR 29 (.pick (oT 25) (.const (.bool true)) (oT 28)),oM 30 29,oG 31 (.faddr 2 (oT 4)) 30 false,oG 32 (.load false 1 (oT 31)) 30 false,oG 33 (.bin .lss (oT 32) (oI 1)) 30 false,oR 34 (.pick (oT 30) (.const (.bool true)) (oT 33)),oM 35 34,oG 36 (.faddr 2 (oT 4)) 35 false,oG 37 (.load false 1 (oT 36)) 35 false,oG 38 (.bin .gtr (oT 37) (oI 9)) 35 false,oR 39 (.pick (oT 35) (.const (.bool true)) (oT 38)),oM 6 39]) .ret) (.seq (oZ 0 [oJ 41 .eql 7 9,oM 40 41]) (.cond (oT 40) (.seq (oZ 1 [oF 42 1 4,oL 43 42,oR 44 (.call (.const (.fn 96 [] [])) [(oT 43)] 0),oJ 45 .eql 44 0,oM 6 45]) .ret) (.seq (oZ 0 [oJ 47 .eql 7 14,oM 46 47]) (.cond (oT 46) (.seq (oZ 1 [oF 48 3 4,oL 49 48,oR 50 (.bin .neq (oT 49) (.const (.str (bs [])))),oM 51 50,oG 52 (.faddr 3 (oT 4)) 51 true,oG 53 (.load false 1 (oT 52)) 51 true,oG 54 (.call (.const (.fn 97 [] [])) [(oT 53)] 0) 51 true,oG 55 (.bin .neq (oT 54) (oI 0)) 51 true,oR 56 (.pick (oT 51) (oT 55) (.const (.bool false))),oM 6 56]) .ret) (.seq (oZ 0 [oJ 58 .eql 7 1,oM 57 58]) (.cond (oT 57) (.seq (oZ 1 [oF 59 4 4,oL 60 59,oE 61 1 60,oJ 62 .eql 61 0,oM 63 62,oG 64 (.faddr 1 (oT 4)) 63 false,oG 65 (.load false 1 (oT 64)) 63 false,oG 66 (.call (.const (.fn 96 [] [])) [(oT 65)] 0) 63 false,oG 67 (.bin .eql (oT 66) (oI 1)) 63 false,oG 68 (.mov (oT 67)) 63 false,oG 69 (.faddr 4 (oT 4)) 68 true,oG 70 (.load false 1 (oT 69)) 68 true,oG 71 (.len 1 (oT 70)) 68 true,oG 72 (.bin .gtr (oT 71) (oI 1)) 68 true,oG 73 (.pick (oT 68) (oT 72) (.const (.bool false))) 63 false,oR 74 (.pick (oT 63) (.const (.bool true)) (oT 73)),oM 6 74]) .ret) .skip)))))))))))))) (.seq (oZ 1 [oF 75 0 3,oA 76 3 75,oA 77 5 4,oR 78 (.call (.const (.fn 98 [] [])) [(oT 76),(oT 77)] 0),oR 79 (.un .not (oT 78)),oM 6 79]) .ret))),0⟩
def i60:=cG 0 f60 [([(3,1),(10,2),(11,3),(17,4)],[(6,9),(7,9),(20,22)]),([],[(1,3),(1,6)])]
def i61:=cG 0 f61 []
def i62:=cG 0 f62 [([],[(4,8)])]
def i63:=cG 0 f63 []
def i64:=cG 0 f64 []
def i65:=cG 0 f65 []
def i66:=cG 0 f66 [([(3,1),(4,2)],[(0,2),(1,2)]),([(5,1),(8,2),(24,3)],[(0,1),(0,3),(1,3),(10,16),(14,16),(26,32),(30,32)])]
def i67:=cG 0 f67 []
def i68:=cG 0 f68 []
def i69:=cG 0 f69 []
def i70:=cG 0 f70 [([],[(3,7)])]
def i71:=cG 0 f71 [([],[(3,7)])]
def i72:=cG 0 f72 []
def i73:=cG 0 f73 [([(6,1)],[(0,5)])]
def i74:=cG 0 f74 []
def i75:=cG 0 f75 [([],[(3,6)]),([(11,1)],[(6,8)])]
def i76:=cG 0 f76 [([(6,1)],[(0,2),(0,4)]),([],[(2,4),(2,5)])]
def i78:=cG 0 f78 []
def i80:=cG 0 f80 []
def i81:=cG 0 f81 []
def i82:=cG 0 f82 []
def i83:=cG 3 f83 [([],[(4,8)])]
def i84:=cG 1 f84 []
def i85:=cG 0 f85 [([(3,1),(4,2),(5,0),(7,3),(8,4)],[(0,2),(1,2),(0,6),(1,6),(2,6),(3,6),(4,6)])]
def i86:=cG 0 f86 [([],[(1,7),(5,7),(1,11),(5,11)])]
def i87:=cG 0 f87 [([(9,1),(10,0),(11,2)],[(1,4),(1,7),(4,7),(5,7)])]
def i88:=cG 0 f88 []
def i89:=cG 0 f89 [([(6,1)],[(0,4)]),([(23,1),(50,2)],[(5,11),(17,21),(31,37),(40,44),(40,48),(44,48)])]
def i90:=cG 1 f90 [([(6,1)],[(0,4)]),([(10,1),(13,2)],[(0,2),(0,6),(2,6),(0,8),(2,8),(0,9),(0,11)]),([(13,1)],[(6,10)]),([(8,1)],[(0,2),(0,6)]),([(9,1)],[(0,3),(0,7)]),([(15,1)],[(6,8),(6,12)])]
def i91:=cG 0 f91 []
def i92:=cG 0 f92 []
def i93:=cG 0 f93 [([(7,1)],[(0,4)])]
def i94:=cG 0 f94 [([],[(3,7)])]
def i95:=cG 0 f95 []
def i96:=cG 0 f96 []
def i97:jy:=⟨29,[(.tmp 2)],(.seq (oZ 0 [oK 2 0]) (.seq (.seq (oZ 0 [oM 5 0,oR 6 (.bin .eql (oT 5) (.const (.str (bs []))))]) (.cond (oT 6) (.seq (oZ 0 [oK 2 14]) .ret) .skip)) (.seq (.seq (oZ 0 [oM 7 0,oE 8 0 7,oJ 9 .gtr 8 40]) (.cond (oT 9) (.seq (oZ 0 [oK 2 3]) .ret) .skip)) (.seq (oZ 1 [oM 11 0,oR 12 (.call (.const (.fn 140 [] [])) [(oT 11)] 0),oM 10 12,oX 13 10 0,oX 14 10 1,oM 3 13,oM 4 14]) (.seq (.seq (oZ 0 [oM 15 4,oJ 16 .neq 15 0]) (.cond (oT 16) (.seq (oZ 0 [oM 17 4,oM 2 17]) .ret) .skip)) (.seq (.seq (oZ 2 [oM 18 3,oE 19 1 18,oJ 20 .eql 19 0,oM 21 20,oG 22 (.mov (oT 3)) 21 false,oG 23 (.call (.const (.fn 141 [] [])) [(oT 22)] 0) 21 false,oR 24 (.pick (oT 21) (.const (.bool true)) (oT 23)),oM 25 24,oG 26 (.mov (oT 3)) 25 false,oG 27 (.call (.const (.fn 142 [] [])) [(oT 26)] 1) 25 false,oR 28 (.pick (oT 25) (.const (.bool true)) (oT 27))]) (.cond (oT 28) (.seq (oZ 0 [oK 2 14]) .ret) .skip)) (.seq (oZ 0 [oK 2 0]) .ret))))))),0⟩
def i98:=cG 0 f98 [([(9,1),(10,2)],[(0,2),(0,3),(0,5),(2,5),(3,5),(0,8),(2,8),(3,8)])]
def i99:=cG 0 f99 []
def i100:=cG 0 f100 []
def i101:=cG 0 f101 []
def i102:=cG 0 f102 []
def i103:=cG 1 f103 [([],[(3,8)])]
def i104:jy:=⟨2,[],.skip,5⟩
def i105:=cG 0 f105 [([(3,1),(4,2),(5,3)],[(0,2),(1,2)])]
def i106:=cG 0 f106 []
def i107:=cG 0 f107 []
def i108:=cG 0 f108 []
def i109:=cG 0 f109 [([],[(1,7),(5,7),(1,11),(5,11)]),([(23,1),(27,2)],[(1,4),(8,14),(12,14),(8,18),(12,18)]),([],[(1,7),(5,7),(1,11),(5,11)])]
def i110:=cG 0 f110 [([],[(1,6),(4,6),(1,10),(4,10),(6,10),(8,10),(1,13),(4,13),(6,13),(8,13),(1,15),(4,15),(6,15),(8,15),(10,15),(13,15),(1,18),(4,18),(6,18),(8,18),(10,19),(13,19),(15,19),(18,19)])]
def i111:=cG 0 f111 []
def i112:=cG 0 f112 []
def i113:=cG 0 f113 [([],[(1,3),(1,6),(1,7)])]
def i114:=cG 1 f114 []
def i115:=cG 0 f115 [([],[(2,5)]),([],[(2,6),(2,9)])]
def i116:=cG 0 f116 []
def i117:jy:=⟨1,[],.skip,6⟩
def i118:=cG 2 f118 []
def i119:=cG 0 f119 [([],[(5,11),(5,18),(11,18),(5,23),(11,23),(18,23)])]
def i120:=cG 0 f120 [([(24,1)],[(7,12),(21,22)])]
def i121:=cG 0 f121 []
def i122:=cG 0 f122 []
def i123:=cG 0 f123 []
def i124:=cG 0 f124 []
def i125:=cG 0 f125 []
def i126:=cG 0 f126 []
def i127:=cG 0 f127 []
def i128:=cG 0 f128 [([(7,1)],[(0,2),(0,5)]),([(22,1)],[(2,8),(5,8),(2,13),(5,13),(8,13),(2,18),(5,18),(8,18),(13,18)])]
def i129:=cG 0 f129 []
def i130:=cG 0 f130 []
def i131:=cG 0 f131 []
def i132:=cG 0 f132 [([(6,1)],[(0,4)]),([(13,1),(14,2),(15,3)],[(6,12),(7,12)])]
def i133:=cG 0 f133 []
def i134:=cG 0 f134 [([(6,1)],[(0,4)]),([(6,1)],[(0,4)]),([],[(6,11),(6,18),(11,18),(6,24),(11,24),(18,24)])]
def i135:=cG 0 f135 [([(7,1),(22,2),(23,3)],[(0,4),(0,5),(4,5),(11,15),(11,17),(15,17),(16,17),(11,21),(15,21),(16,21),(17,21)])]
def i136:=cG 0 f136 [([(3,1),(4,2)],[(0,2)])]
def i137:=cG 0 f137 []
def i138:=cG 0 f138 []
def i139:=cG 0 f139 [([(7,1),(8,2)],[])]
def i140:=cG 0 f140 [([(2,1),(12,2)],[])]
def i141:=cG 0 f141 []
def i142:=cG 0 f142 []
def i143:=cG 0 f143 []
def i144:=cG 0 f144 []
def i147:=cG 0 f147 []
def i148:=cG 0 f148 [([(7,1),(8,2),(18,3),(19,4)],[(0,1),(0,2),(1,2),(0,4),(1,4),(2,4),(3,4),(0,5),(1,5),(2,5),(3,5),(4,5),(0,6),(1,6),(2,6),(3,6),(4,6),(5,6),(11,12),(11,13),(12,13),(11,15),(12,15),(13,15),(14,15),(11,16),(12,16),(13,16),(14,16),(15,16),(11,17),(12,17),(13,17),(14,17),(15,17),(16,17)])]
def i149:=cG 0 f149 []
def i150:=cG 0 f150 []
def i151:=cG 2 f151 []
def i152:jy:=⟨1,[],.skip,4⟩
def i153:=cG 0 f153 []
def i154:=cG 0 f154 [([(5,1),(6,2)],[(0,1),(0,3),(1,3),(2,3),(0,4),(1,4),(2,4),(3,4)])]
def i156:=cG 0 f156 []
def i157:=cG 0 f157 []
def i159:=cG 0 f159 []
def i160:=cG 0 f160 [([(9,1),(10,2)],[(0,1),(0,2),(1,2),(0,3),(1,3),(2,3),(0,5),(1,5),(2,5),(3,5),(4,5),(0,6),(1,6),(2,6),(3,6),(4,6),(5,6),(0,7),(1,7),(2,7),(3,7),(4,7),(5,7),(6,7),(0,8),(1,8),(2,8),(3,8),(4,8),(5,8),(6,8),(7,8)])]
def i161:=cG 0 f161 []
def i162:=cG 0 f162 []
def i163:=cG 0 f163 []
def i164:=cG 0 f164 [([(8,1)],[(0,2),(0,6)])]
def i165:=cG 0 f165 []
def i166:=cG 0 f166 []
def i167:=cG 0 f167 [([],[(3,6),(3,9)])]
def i168:=cG 0 f168 []
def i169:=cG 0 f169 []
def i170:=cG 0 f170 [([(6,1)],[(0,4)]),([(11,2)],[(4,8),(4,9),(8,9),(4,10),(8,10),(9,10),(8,11)])]
def i171:=cG 0 f171 []
def i172:=cG 0 f172 []
def i173:=cG 0 f173 [([],[]),([],[])]
def i174:=cG 0 f174 []
def i186:=cG 0 f186 []
def i187:=cG 0 f187 [([(4,2)],[(0,1),(0,2),(1,2),(0,3),(1,3),(2,3),(1,4)])]
def i189:=cG 0 f189 []
def i199:=cG 2 f199 [([],[(5,9)])]
def i200:=cG 2 f200 []
def i205:=cG 0 f205 []
def i206:=cG 0 f206 []
def i207:=cG 0 f207 []
def i208:=cG 0 f208 []
def i209:=cG 0 f209 [([(7,1),(9,2)],[(1,5)]),([],[(1,5),(1,9),(5,9)])]
def i210:=cG 0 f210 []
def i211:=cG 0 f211 []
def i212:=cG 0 f212 []
def i213:=cG 0 f213 []
def i219:=cG 0 f219 []
def i220:=cG 0 f220 []
def i234:=cG 0 f234 []
def i235:=cG 0 f235 []
def i236:=cG 0 f236 [([(5,1),(6,2)],[(0,1),(0,3),(1,3),(2,3),(0,4),(1,4),(2,4),(3,4)])]
def i242:=cG 0 f242 [([],[(1,3),(1,6),(3,6),(1,8),(3,8),(6,8)])]
inductive FT where
 |nil
 |one (f:FuncId) (i:jy)
 |two (k:FuncId) (l r:FT)
def FT.get(t:FT):FuncId->Option jy:=FT.rec (motive:=fun _=>FuncId->Option jy) (fun _=>none) (fun g i f=>bif Nat.beq f g then some i else none) (fun k _ _ a b f=>bif Nat.blt f k then a f else b f) t
def FT.all(t:FT):List (FuncId×jy):=FT.rec (motive:=fun _=>List (FuncId×jy)) [] (fun g i=>[(g,i)]) (fun _ _ _ a b=>a++b) t
theorem FT.mem{f:FuncId}{i:jy}:∀{t:FT},t.get f=some i->(f,i)∈t.all
 |.nil,h=>by cases h
 |.one g j,h=>by
  have h2:(bif Nat.beq f g then some j else none)=some i:=h
  clear h;cases hc:Nat.beq f g
  ·rw[hc]at h2;cases h2
  ·rw[hc]at h2;rw[Kr hc,←kT (show some j=some i from h2)];exact kB ..
 |.two k l r,h=>by
  have h:(bif Nat.blt f k then l.get f else r.get f)=some i:=h
  have e:(FT.two k l r).all=l.all++r.all:=rfl;rw[e];cases hc:Nat.blt f k
  ·rw[hc]at h;exact XI _ (FT.mem h)
  ·rw[hc]at h;exact SA _ (FT.mem h)
def tab0:FT:=.two 28 (.two 17 (.two 10 (.two 6 (.two 5 (.one 3 i3) (.one 5 i5)) (.two 7 (.one 6 i6) (.two 8 (.one 7 i7) (.one 8 i8)))) (.two 14 (.two 11 (.one 10 i10) (.two 13 (.one 11 i11) (.one 13 i13))) (.two 15 (.one 14 i14) (.two 16 (.one 15 i15) (.one 16 i16))))) (.two 22 (.two 19 (.two 18 (.one 17 i17) (.one 18 i18)) (.two 20 (.one 19 i19) (.two 21 (.one 20 i20) (.one 21 i21)))) (.two 25 (.two 23 (.one 22 i22) (.two 24 (.one 23 i23) (.one 24 i24))) (.two 26 (.one 25 i25) (.two 27 (.one 26 i26) (.one 27 i27)))))) (.two 39 (.two 33 (.two 30 (.two 29 (.one 28 i28) (.one 29 i29)) (.two 31 (.one 30 i30) (.two 32 (.one 31 i31) (.one 32 i32)))) (.two 36 (.two 34 (.one 33 i33) (.two 35 (.one 34 i34) (.one 35 i35))) (.two 37 (.one 36 i36) (.two 38 (.one 37 i37) (.one 38 i38))))) (.two 45 (.two 42 (.two 40 (.one 39 i39) (.two 41 (.one 40 i40) (.one 41 i41))) (.two 43 (.one 42 i42) (.two 44 (.one 43 i43) (.one 44 i44)))) (.two 48 (.two 46 (.one 45 i45) (.two 47 (.one 46 i46) (.one 47 i47))) (.two 49 (.one 48 i48) (.two 50 (.one 49 i49) (.one 50 i50))))))
def tab1:FT:=.two 74 (.two 62 (.two 56 (.two 53 (.two 52 (.one 51 i51) (.one 52 i52)) (.two 54 (.one 53 i53) (.two 55 (.one 54 i54) (.one 55 i55)))) (.two 59 (.two 57 (.one 56 i56) (.two 58 (.one 57 i57) (.one 58 i58))) (.two 60 (.one 59 i59) (.two 61 (.one 60 i60) (.one 61 i61))))) (.two 68 (.two 65 (.two 63 (.one 62 i62) (.two 64 (.one 63 i63) (.one 64 i64))) (.two 66 (.one 65 i65) (.two 67 (.one 66 i66) (.one 67 i67)))) (.two 71 (.two 69 (.one 68 i68) (.two 70 (.one 69 i69) (.one 70 i70))) (.two 72 (.one 71 i71) (.two 73 (.one 72 i72) (.one 73 i73)))))) (.two 87 (.two 81 (.two 76 (.two 75 (.one 74 i74) (.one 75 i75)) (.two 78 (.one 76 i76) (.two 80 (.one 78 i78) (.one 80 i80)))) (.two 84 (.two 82 (.one 81 i81) (.two 83 (.one 82 i82) (.one 83 i83))) (.two 85 (.one 84 i84) (.two 86 (.one 85 i85) (.one 86 i86))))) (.two 93 (.two 90 (.two 88 (.one 87 i87) (.two 89 (.one 88 i88) (.one 89 i89))) (.two 91 (.one 90 i90) (.two 92 (.one 91 i91) (.one 92 i92)))) (.two 96 (.two 94 (.one 93 i93) (.two 95 (.one 94 i94) (.one 95 i95))) (.two 97 (.one 96 i96) (.two 98 (.one 97 i97) (.one 98 i98))))))
def tab2:FT:=.two 122 (.two 110 (.two 104 (.two 101 (.two 100 (.one 99 i99) (.one 100 i100)) (.two 102 (.one 101 i101) (.two 103 (.one 102 i102) (.one 103 i103)))) (.two 107 (.two 105 (.one 104 i104) (.two 106 (.one 105 i105) (.one 106 i106))) (.two 108 (.one 107 i107) (.two 109 (.one 108 i108) (.one 109 i109))))) (.two 116 (.two 113 (.two 111 (.one 110 i110) (.two 112 (.one 111 i111) (.one 112 i112))) (.two 114 (.one 113 i113) (.two 115 (.one 114 i114) (.one 115 i115)))) (.two 119 (.two 117 (.one 116 i116) (.two 118 (.one 117 i117) (.one 118 i118))) (.two 120 (.one 119 i119) (.two 121 (.one 120 i120) (.one 121 i121)))))) (.two 133 (.two 127 (.two 124 (.two 123 (.one 122 i122) (.one 123 i123)) (.two 125 (.one 124 i124) (.two 126 (.one 125 i125) (.one 126 i126)))) (.two 130 (.two 128 (.one 127 i127) (.two 129 (.one 128 i128) (.one 129 i129))) (.two 131 (.one 130 i130) (.two 132 (.one 131 i131) (.one 132 i132))))) (.two 139 (.two 136 (.two 134 (.one 133 i133) (.two 135 (.one 134 i134) (.one 135 i135))) (.two 137 (.one 136 i136) (.two 138 (.one 137 i137) (.one 138 i138)))) (.two 142 (.two 140 (.one 139 i139) (.two 141 (.one 140 i140) (.one 141 i141))) (.two 143 (.one 142 i142) (.two 144 (.one 143 i143) (.one 144 i144))))))
def tab3:FT:=.two 172 (.two 160 (.two 152 (.two 149 (.two 148 (.one 147 i147) (.one 148 i148)) (.two 150 (.one 149 i149) (.two 151 (.one 150 i150) (.one 151 i151)))) (.two 156 (.two 153 (.one 152 i152) (.two 154 (.one 153 i153) (.one 154 i154))) (.two 157 (.one 156 i156) (.two 159 (.one 157 i157) (.one 159 i159))))) (.two 166 (.two 163 (.two 161 (.one 160 i160) (.two 162 (.one 161 i161) (.one 162 i162))) (.two 164 (.one 163 i163) (.two 165 (.one 164 i164) (.one 165 i165)))) (.two 169 (.two 167 (.one 166 i166) (.two 168 (.one 167 i167) (.one 168 i168))) (.two 170 (.one 169 i169) (.two 171 (.one 170 i170) (.one 171 i171)))))) (.two 208 (.two 189 (.two 174 (.two 173 (.one 172 i172) (.one 173 i173)) (.two 186 (.one 174 i174) (.two 187 (.one 186 i186) (.one 187 i187)))) (.two 205 (.two 199 (.one 189 i189) (.two 200 (.one 199 i199) (.one 200 i200))) (.two 206 (.one 205 i205) (.two 207 (.one 206 i206) (.one 207 i207))))) (.two 219 (.two 211 (.two 209 (.one 208 i208) (.two 210 (.one 209 i209) (.one 210 i210))) (.two 212 (.one 211 i211) (.two 213 (.one 212 i212) (.one 213 i213)))) (.two 235 (.two 220 (.one 219 i219) (.two 234 (.one 220 i220) (.one 234 i234))) (.two 236 (.one 235 i235) (.two 242 (.one 236 i236) (.one 242 i242))))))
def KJ:FT:=.two 99 (.two 51 tab0 tab1) (.two 147 tab2 tab3)
def aR(f:FuncId):Option jy:=KJ.get f
end
end
section
open Go Go.RowKit
def bN(S:cZ):Prop:=∀ f args,(f≠26/\f≠97)->f≠6->f≠36->f≠20->S f args=none
def sf(f:FuncId):Bool:=!(Nat.beq f 26)&&!(Nat.beq f 97)&&!(Nat.beq f 6)&&!(Nat.beq f 36)&&!(Nat.beq f 20)
theorem ns{S:cZ}(hS:bN S){f:FuncId}{args:List IV}(h:sf f=true:=by rfl):S f args=none:=by simp only[sf,gJ,tB]at h;obtain⟨⟨⟨⟨h1,h5⟩,h2⟩,h3⟩,h4⟩:=h;exact hS f args ⟨fun e=>by subst e;simp at h1,fun e=>by subst e;simp at h5⟩ (fun e=>by subst e;simp at h2) (fun e=>by subst e;simp at h3) (fun e=>by subst e;simp at h4)
theorem lb{a b:Nat}(h:Nat.ble a b=true):a<=b:=M6 h
theorem yS{l:List Int}{x n:Int}:(l++[x]).contains n=(l.contains n||x==n):=by rw[nU];simp only[nM,og,qx,nu,n9];exact⟨fun h=>h.imp id Eq.symm,fun h=>h.imp id Eq.symm⟩
theorem yu{l:List Int}{x n:Int}{i:Nat}(hx:l[i]?=some x)(hb:(x==n)=true):l.contains n=true:=by
 have:=j5 hx;have h2:x=n:=by simpa using hb
 subst h2;exact nM.2 this
section
variable {S:cZ}
theorem AR{x:IV}:mg false [x]=some x:=dO rfl rfl
theorem AQ{l:List IV}:mg true l=some (.agg l):=by cases l with
 |nil=>rfl
 |cons x l=>cases l<;>rfl
theorem x7:bX .shl=true:=dO rfl rfl
theorem xZ:bX .shr=true:=dO rfl rfl
theorem Aj:bX .add=false:=dO rfl rfl
theorem xY:bX .sub=false:=dO rfl rfl
theorem Ab:bX .mul=false:=dO rfl rfl
theorem x9:bX .quo=false:=dO rfl rfl
theorem x8:bX .rem=false:=dO rfl rfl
theorem Ai:bX .and=false:=dO rfl rfl
theorem Ih:bX .or=false:=dO rfl rfl
theorem xX:bX .xor=false:=dO rfl rfl
theorem Ah:bX .eql=false:=dO rfl rfl
theorem Aa:bX .neq=false:=dO rfl rfl
theorem Ad:bX .lss=false:=dO rfl rfl
theorem Ae:bX .leq=false:=dO rfl rfl
theorem Af:bX .gtr=false:=dO rfl rfl
theorem Ag:bX .geq=false:=dO rfl rfl
theorem AE{x:aO}:List.replicate 0 x=[]:=dO rfl rfl
theorem AD{x:aO}:List.replicate 1 x=[x]:=dO rfl rfl
theorem AB{x:aO}:List.replicate 2 x=[x,x]:=dO rfl rfl
theorem AA{x:aO}:List.replicate 3 x=[x,x,x]:=dO rfl rfl
theorem Az{x:aO}:List.replicate 4 x=[x,x,x,x]:=dO rfl rfl
theorem Ay{x:aO}:List.replicate 5 x=[x,x,x,x,x]:=dO rfl rfl
theorem Aw{x:aO}:List.replicate 6 x=[x,x,x,x,x,x]:=dO rfl rfl
def W0:=aj @af5<|aj @gQ.{0}<|aj @gM.{0}<|aj @iL.{0}<|aj @qt.{0}<|aj @VK.{0}<|aj @HH<|aj @Kn<|aj @pX<|aj @if_true.{1}<|aj @dw.{0}<|aj @cu.{0}<|aj @fO<|aj @sY<|aj @dz<|aj @Nx<|aj @Nz<|aj @Ny<|aj @qU.{0}<|aj @jP.{0}<|aj @gH.{0,0}<|aj @NC.{0,0}<|aj @jG.{0,0}<|aj @l7<|aj @if_false.{1}<|aj @nK.{0,0}<|aj @BY.{0,0}<|aj @zog<|aj @decide_true<|aj @decide_false<|aj @n9.{0}<|aj @kR.{0}<|aj @eR.{0}<|aj @vA<|aj @BW<|aj @dU.eq_1<|aj @Go.Proofs.YtdacpmgnhkmnkaaGreatDoor.look.eq_1<|aj @AR<|aj @AQ<|aj @iq.eq_1<|aj @iq.eq_2<|aj @bq.eq_1<|aj @bq.eq_2<|aj @bq.eq_3<|aj @bq.eq_4<|aj @bq.eq_5<|aj @bq.eq_6<|aj @bq.eq_7<|aj @bq.eq_8<|aj @bq.eq_9<|aj @bq.eq_10<|aj @bq.eq_11<|aj @bq.eq_12<|aj @bq.eq_13<|aj @bq.eq_14<|aj @x7<|aj @xZ<|aj @Aj<|aj @xY<|aj @Ab<|aj @x9<|aj @x8<|aj @Ai<|aj @Ih<|aj @xX<|aj @Ah<|aj @Aa<|aj @Ad<|aj @Ae<|aj @Af<|aj @Ag<|aj @pZ.eq_1<|aj @pZ.eq_2<|aj @dh.eq_1<|aj @dh.eq_2<|aj @gY.eq_1<|aj @b8.eq_1<|aj @dK.eq_1<|aj @ff.eq_1<|aj @cA.eq_1<|aj @dL.eq_1<|aj @cL.eq_1<|aj @eP.eq_1<|aj @fI.eq_1<|aj @fH.eq_1<|aj @cO.eq_1<|aj @dM.eq_1<|aj @cN.eq_1<|aj @cM.eq_1<|aj @bg.eq_1<|aj @dY.eq_1<|aj @iW.eq_1<|aj @AE<|aj @AD<|aj @AB<|aj @AA<|aj @Az<|aj @Ay<|@Aw
theorem wK(hS:bN S)(l:aS 1 aL)(n:Int):iA aR S 99 [l.v,iv n] (.bool (l.l.contains n)):=by
 refine zy (i:=i99) (k:=1) (hS _ _ Δ Δ Δ Δ) rfl rfl zj (l.l.length+2) Ω fun m hm d ah=>?_;simp only[i99,W0,seval];refine ze (fun j st=>∃ i,j=l.l.length-i/\i<=l.l.length/\(l.l.take i).contains n=false/\∃ a2 a3 a6 a7 a8 a9 vv vu a12 nT nS nR nQ a17,st=⟨[l.v,iv n,a2,a3,.bool false,iv i,a6,a7,a8,a9,vv,vu,a12,nT,nS,nR,nQ,a17],[]⟩) l.l.length Ω ⟨0,Ω,Ω,Ψ,_,_,_,_,_,_,_,_,_,_,_,_,_,_,rfl⟩ ?_;rintro j st K ⟨i,rfl,hi,hc,a2,a3,a6,a7,a8,a9,vv,vu,a12,nT,nS,nR,nQ,a17,rfl⟩ hn he hr;by_cases h:i<l.l.length
 ·have hx:l.l[i]?=some l.l[i]:=cK h;generalize l.l[i]=x at hx;have hrd:bM (l.l.flatMap aL) (i*1) 1=some [iv x]:=zd zf 0 1 hx Ω;have hw:aT .i64 ((i:Int)+1)=((i+1:Nat):Int):=zO (by have:=l.gC;omega);cases hb:x==n
  ·simp only[W0,seval,h,za l h,hrd,hb,hw];refine hn _ (l.l.length-(i+1)) Ω ⟨i+1,rfl,Ω,?_,_,_,_,_,_,_,_,_,_,_,_,_,_,_,rfl⟩;rw[lH,hx,rP,yS,hc,hb];rfl
  ·simp only[W0,seval,h,za l h,hrd,hb];refine hr _ ?_;simp only[W0,seval];rw[yu hx hb]
 ·simp only[W0,seval,h];refine he _ _ ?_;simp only[W0,seval];rw[←hc,gj Ω]
end
section
variable {S:cZ}
theorem DS(hS:bN S)(l:aS 1 aL)(n:Int):∃ r:Int,iA aR S 67 [l.v,iv n] (iv r)/\decide (r≥0)=l.l.contains n:=by
 have key:∀ r:Int,(∀ i:Nat,(i<l.l.length->(l.l.take i).contains n=false->∀ x,l.l[i]?=some x->(n==x)=true->r=i))->(l.l.contains n=false->r=-1)->iA aR S 67 [l.v,iv n] (iv r):=by
  intro r h1 h2;refine zy (i:=i67) (k:=1) (ns hS) rfl rfl zn (l.l.length+2) Ω fun m hm d ah=>?_;simp only[i67,W0,seval];refine ze (fun j st=>∃ i,j=l.l.length-i/\i<=l.l.length/\(l.l.take i).contains n=false/\∃ a2 a3 a4 a5 a9 vv vu a12 nT nS nR nQ a17 pL,st=⟨[l.v,iv n,a2,a3,a4,a5,l.v,iv (l.l.length:Nat),iv i,a9,vv,vu,a12,nT,nS,nR,nQ,a17,pL],[]⟩) l.l.length Ω ⟨0,Ω,Ω,Ψ,_,_,_,_,_,_,_,_,_,_,_,_,_,_,rfl⟩ ?_;rintro j st K ⟨i,rfl,hi,hc,a2,a3,a4,a5,a9,vv,vu,a12,nT,nS,nR,nQ,a17,pL,rfl⟩ hn he hr;by_cases h:i<l.l.length
  ·have hx:l.l[i]?=some l.l[i]:=cK h;generalize l.l[i]=x at hx;have hrd:bM (l.l.flatMap aL) (i*1) 1=some [iv x]:=zd zf 0 1 hx Ω;have hw:aT .i64 ((i:Int)+1)=((i+1:Nat):Int):=zO (by have:=l.gC;omega);cases hb:n==x
   ·simp only[W0,seval,h,za l h,hrd,hb,hw];refine hn _ (l.l.length-(i+1)) Ω ⟨i+1,rfl,Ω,?_,_,_,_,_,_,_,_,_,_,_,_,_,_,_,rfl⟩;rw[lH,hx,rP,yS,hc,Bool.beq_comm,hb];rfl
   ·simp only[W0,seval,h,za l h,hrd,hb];refine hr _ ?_;simp only[W0,seval];rw[h1 i h hc x hx hb]
  ·simp only[W0,seval,h];refine he _ _ ?_;simp only[W0,seval];rw[h2 (by rw[←hc,gj Ω])]
 cases hc:l.l.contains n
 ·refine⟨-1,key _ (fun i hi _ x hx hb=>?_) (fun _=>rfl),Ψ⟩;rw[yu hx (by rw[Bool.beq_comm];exact hb)]at hc;simp at hc
 ·have hm:n∈l.l:=nM.1 hc;refine⟨(l.l.idxOf n:Nat),key _ (fun i hi ht x hx hb=>?_) (fun h=>by rw[h]at hc;simp at hc),Ψ⟩;have hxn:n=x:=by simpa using hb
  subst hxn;have h1:l.l=l.l.take i++n::l.l.drop (i+1):=by
   conv=>lhs;rw[←Fu i l.l]
   congr 1;rw[HM hi];congr 1;have:=cK hi;rw[hx]at this;exact(kT this).symm
  have h2:n ∉ l.l.take i:=fun h=>by rw[nM.2 h]at ht;simp at ht
  rw[h1,List.idxOf_append,bC h2,List.idxOf_cons_self,k8,fO,qu Ω]
theorem ze6(hS:bN S)(l:aS 1 aL)(n:Int):iA aR S 37 [l.v,iv n] (.bool (l.l.contains n)):=by obtain⟨r,⟨N,hN⟩,hr⟩:=DS hS l n;refine zy (i:=i37) (k:=1) (ns hS) rfl rfl zj (N+1) Ω fun m hm d ah=>?_;have lR:=hN m Ω;simp only[zg]at lR;simp only[i37,W0,seval,lR];rw[hr]
end
def bF(k:Int):Int:=bif k==1||k==2||k==8 then 1 else bif k==3||k==4 then 2 else bif k==5||k==6||k==7 then 3 else 0
theorem yF:∀ a,∀ x∈aL a,Fz 1 x:=fun a x hx=>by simp only[aL,qx]at hx;subst hx;exact zn
theorem ZD:∀ a:Pt,∀ x∈a.c,Fz 1 x:=fun a x hx=>by simp only[Pt.c,fF,j4,k7]at hx;rcases hx with rfl|rfl<;>exact zn
section
variable {C:Call} {d:Nat} {ah:bR} {n0:Nat} {aa aK:aU} {t:List IV}
noncomputable def aes(d n0:Nat)(lk:Nat->Nat->Option aO)(aa:aU)(sz:Nat)(s:IV)(slot:Nat)(r:Option (List IV×Nat)):ko:=match r with
 |some (new,n)=>bh d n0 lk aa sz s new n slot
 |none=>none
theorem zk{z:List IV}{sz:Nat}{s x:bG}{slot:Nat}:iX d ah n0 aK aa t z sz false s x slot=aes d n0 (look d ah aK) aa sz (ρ t s) slot (cB (look d ah aK) sz (ρ t x)):=dO rfl rfl
theorem zo{lk:Nat->Nat->Option aO}{sz slot n:Nat}{s:IV}{new:List IV}:aes d n0 lk aa sz s slot (some (new,n))=bh d n0 lk aa sz s new n slot:=dO rfl rfl
theorem zbj{lk:Nat->Nat->Option aO}{sz slot n:Nat}{new:List IV}(h:n≠0)(hb:0+n<=1073741824):bh d n0 lk aa sz (.slC [] 0 sz true) new n slot=dU aa (n0+slot) (.cells new) (.slM d (n0+slot) 0 n n sz false):=by unfold bh;rw[bC h];simp only;rw[bt ⟨by unfold bound;omega,trivial⟩];simp[seg,zi]
theorem QM:(false != true)=true:=dO rfl rfl
theorem Bi:(false != false)=false:=dO rfl rfl
end
section
variable {S:cZ}
theorem WU(hS:bN S)(k:Int):iA aR S 11 [iv k] (iv (bF k)):=by
 refine zy (i:=i11) (k:=1) (ns hS) rfl rfl zn 1 Ω fun m hm d ah=>?_;cases h1:k==1;rotate_left
 ·simp only[i11,W0,seval,h1];simp only[bF,h1,W0,seval];rfl
 cases h2:k==2;rotate_left
 ·simp only[i11,W0,seval,h1,h2];simp only[bF,h1,h2,W0,seval];rfl
 cases h8:k==8;rotate_left
 ·simp only[i11,W0,seval,h1,h2,h8];simp only[bF,h1,h2,h8,W0,seval];rfl
 cases h3:k==3;rotate_left
 ·simp only[i11,W0,seval,h1,h2,h8,h3];simp only[bF,h1,h2,h8,h3,W0,seval];rfl
 cases h4:k==4;rotate_left
 ·simp only[i11,W0,seval,h1,h2,h8,h3,h4];simp only[bF,h1,h2,h8,h3,h4,W0,seval];rfl
 cases h5:k==5;rotate_left
 ·simp only[i11,W0,seval,h1,h2,h8,h3,h4,h5];simp only[bF,h1,h2,h8,h3,h4,h5,W0,seval];rfl
 cases h6:k==6;rotate_left
 ·simp only[i11,W0,seval,h1,h2,h8,h3,h4,h5,h6];simp only[bF,h1,h2,h8,h3,h4,h5,h6,W0,seval];rfl
 cases h7:k==7;rotate_left
 ·simp only[i11,W0,seval,h1,h2,h8,h3,h4,h5,h6,h7];simp only[bF,h1,h2,h8,h3,h4,h5,h6,h7,W0,seval];rfl
 ·simp only[i11,W0,seval,h1,h2,h8,h3,h4,h5,h6,h7];simp only[bF,h1,h2,h8,h3,h4,h5,h6,h7,W0,seval];rfl
theorem Zq(hS:bN S)(k:Int):iA aR S 96 [iv k] (iv (bF k)):=by
 refine zy (i:=i96) (k:=1) (ns hS) rfl rfl zn 1 Ω fun m hm d ah=>?_;cases h1:k==1;rotate_left
 ·simp only[i96,W0,seval,h1];simp only[bF,h1,W0,seval];rfl
 cases h2:k==2;rotate_left
 ·simp only[i96,W0,seval,h1,h2];simp only[bF,h1,h2,W0,seval];rfl
 cases h8:k==8;rotate_left
 ·simp only[i96,W0,seval,h1,h2,h8];simp only[bF,h1,h2,h8,W0,seval];rfl
 cases h3:k==3;rotate_left
 ·simp only[i96,W0,seval,h1,h2,h8,h3];simp only[bF,h1,h2,h8,h3,W0,seval];rfl
 cases h4:k==4;rotate_left
 ·simp only[i96,W0,seval,h1,h2,h8,h3,h4];simp only[bF,h1,h2,h8,h3,h4,W0,seval];rfl
 cases h5:k==5;rotate_left
 ·simp only[i96,W0,seval,h1,h2,h8,h3,h4,h5];simp only[bF,h1,h2,h8,h3,h4,h5,W0,seval];rfl
 cases h6:k==6;rotate_left
 ·simp only[i96,W0,seval,h1,h2,h8,h3,h4,h5,h6];simp only[bF,h1,h2,h8,h3,h4,h5,h6,W0,seval];rfl
 cases h7:k==7;rotate_left
 ·simp only[i96,W0,seval,h1,h2,h8,h3,h4,h5,h6,h7];simp only[bF,h1,h2,h8,h3,h4,h5,h6,h7,W0,seval];rfl
 ·simp only[i96,W0,seval,h1,h2,h8,h3,h4,h5,h6,h7];simp only[bF,h1,h2,h8,h3,h4,h5,h6,h7,W0,seval];rfl
theorem Ba(hS:bN S)(q:aS 1 aL)(hq:q.l.length<=1073741824):∃ q':aS 1 aL,q'.l=q.l/\iA aR S 42 [q.v] q'.v:=by
 obtain⟨l,v,ok,gC⟩:=q;dsimp only at hq ⊢;have key:∀(cs:List IV)(n:Nat),Sl 1 cs n v->cs=l.flatMap aL->n=l.length->∃ q':aS 1 aL,q'.l=l/\iA aR S 42 [v] q'.v:=by
  intro cs n h hcs hn;cases h with
  |nil =>
   have hl:l=[]:=sr.1 hn.symm
   refine⟨⟨[],.nilsl,.nil,Ψ⟩,hl.symm,?_⟩
   refine zy (i:=i42) (k:=1) (ns hS) rfl rfl Zb 1 Ω fun m hm d ah=>?_
   simp only[i42,W0,seval,Bj,QM]
  |row _ _ tight h =>
   subst hcs hn
   by_cases h0:l.length=0
   ·have hl:l=[]:=sr.1 h0
    subst hl
    refine⟨⟨[],.slC [] 0 1 true,.row _ _ _ rfl,Ψ⟩,rfl,?_⟩
    refine zy (i:=i42) (k:=1+1) (ns hS) rfl rfl (Bb fun x hx=>by simp at hx) 2 Ω fun m hm d ah=>?_
    have hc:cB (fun l i=>if l=d then(([]++[aO.free]:aU))[i]? else if l<d then(ah l)[i]? else none) 1 (IV.slC [] 0 1 tight)=some ([],0):=by simp[cB,seg,zi]
    simp only[i42,W0,seval,Bj,Bi,zh,zk,rep,lz,dw]
    simp only[cB,seg,zi,qw,sY,dw,dz,if_true,BV,xI,gH,zo,bh,W0,seval]
   ·refine⟨⟨l,.slC (l.flatMap aL) l.length 1 (false&&true),.row _ _ _ h,gC⟩,rfl,?_⟩
    refine Yb (i:=i42) (ns hS) rfl rfl 3 fun m hm d ah=>?_
    have hc:∀ lk,cB lk 1 (IV.slC (l.flatMap aL) l.length 1 tight)=some (l.flatMap aL,l.length):=fun lk=>zw ⟨l,_,.row _ _ tight h,gC⟩
    simp only[i42,W0,seval,Bj,Bi,zh,zk,rep,hc,zo]
    simp only[zbj h0 (show 0+l.length<=1073741824 by omega),W0,seval]
    refine⟨_,rfl,?_⟩
    exact yi (k:=1) yF Ω rfl zf rfl
 exact key _ _ ok rfl rfl
theorem A9(hS:bN S)(q:aS 2 Pt.c)(hq:q.l.length<=1073741824):∃ q':aS 2 Pt.c,q'.l=q.l/\iA aR S 81 [q.v] q'.v:=by
 obtain⟨l,v,ok,gC⟩:=q;dsimp only at hq ⊢;have key:∀(cs:List IV)(n:Nat),Sl 2 cs n v->cs=l.flatMap Pt.c->n=l.length->∃ q':aS 2 Pt.c,q'.l=l/\iA aR S 81 [v] q'.v:=by
  intro cs n h hcs hn;cases h with
  |nil =>
   have hl:l=[]:=sr.1 hn.symm
   refine⟨⟨[],.nilsl,.nil,Ψ⟩,hl.symm,?_⟩
   refine zy (i:=i81) (k:=1) (ns hS) rfl rfl Zb 1 Ω fun m hm d ah=>?_
   simp only[i81,W0,seval,Bj,QM]
  |row _ _ tight h =>
   subst hcs hn
   by_cases h0:l.length=0
   ·have hl:l=[]:=sr.1 h0
    subst hl
    refine⟨⟨[],.slC [] 0 2 true,.row _ _ _ rfl,Ψ⟩,rfl,?_⟩
    refine zy (i:=i81) (k:=1+1) (ns hS) rfl rfl (Bb fun x hx=>by simp at hx) 2 Ω fun m hm d ah=>?_
    have hc:cB (fun l i=>if l=d then(([]++[aO.free]:aU))[i]? else if l<d then(ah l)[i]? else none) 2 (IV.slC [] 0 2 tight)=some ([],0):=by simp[cB,seg,zi]
    simp only[i81,W0,seval,Bj,Bi,zh,zk,rep,lz,dw]
    simp only[cB,seg,zi,qw,sY,dw,dz,if_true,BV,xI,gH,zo,bh,W0,seval]
   ·refine⟨⟨l,.slC (l.flatMap Pt.c) l.length 2 (false&&true),.row _ _ _ h,gC⟩,rfl,?_⟩
    refine Yb (i:=i81) (ns hS) rfl rfl 3 fun m hm d ah=>?_
    have hc:∀ lk,cB lk 2 (IV.slC (l.flatMap Pt.c) l.length 2 tight)=some (l.flatMap Pt.c,l.length):=fun lk=>zw ⟨l,_,.row _ _ tight h,gC⟩
    simp only[i81,W0,seval,Bj,Bi,zh,zk,rep,hc,zo]
    simp only[zbj h0 (show 0+l.length<=1073741824 by omega),W0,seval]
    refine⟨_,rfl,?_⟩
    exact yi (k:=1) ZD Ω rfl Pt.aZ rfl
 exact key _ _ ok rfl rfl
end
theorem yl{α:Type}{p:α->Bool}{l:List α}{i:Nat}{x:α}(h:(l.take i).find? p=none)(hx:l[i]?=some x)(hp:p x=true):l.find? p=some x:=by
 have hi:=(cU.1 hx).1;have h1:l=l.take i++x::l.drop (i+1):=by
  conv=>lhs;rw[←Fu i l]
  congr 1;rw[HM hi];congr 1;rw[cK hi]at hx;exact kT hx
 rw[h1,zmn,h,Option.none_or,Ca,hp]
theorem yc{α:Type}{p:α->Bool}{l:List α}{i:Nat}{x:α}(h:(l.take i).find? p=none)(hx:l[i]?=some x)(hp:p x=false):(l.take (i+1)).find? p=none:=by rw[lH,hx,rP,zmn,h,Option.none_or,Ca,hp];rfl
theorem yv{α:Type}{p:α->Bool}{l:List α}{i:Nat}(h:(l.take i).find? p=none)(hi:¬ i<l.length):l.find? p=none:=by rwa [gj Ω]at h
def lP(sz:Nat){α:Type}(g:α->List IV):aS sz g:=⟨[],.nilsl,.nil,Ψ⟩
def XU:Ft:=⟨0,0,0,⟨bs [],Δ⟩,lP 1 aL⟩
def tF:Ac:=⟨0,0,0,lP 2 Pt.c,0,0⟩
def M7:Nd:=⟨0,⟨0,0⟩⟩
theorem ab7:XU.c=[.int .i64 0,.int .i64 0,.int .i64 0,.str (bs []),.nilsl]:=rfl
theorem VW:tF.c=[.int .i64 0,.int .i64 0,.int .i64 0,.nilsl,.int .i64 0,.int .i64 0]:=rfl
theorem VV:M7.c=[.int .i64 0,.int .i64 0,.int .i64 0]:=rfl
section
variable {S:cZ}
theorem z7{α:Type}{g:α->List IV}{sz:Nat}(hg:∀ a,∀ x∈g a,Fz 1 x)(q:aS sz g):Fz (1+1+1) q.v:=by
 obtain⟨l,v,ok,gC⟩:=q;have key:∀(cs:List IV)(n:Nat)(v:IV),Sl sz cs n v->cs=l.flatMap g->Fz (1+1+1) v:=fun cs n v h hcs=>by
  cases h with
  |nil=>exact Zb.le Ω
  |row _ _ tight h=>subst hcs;exact(acm (k:=1) hg).le Ω
 exact key _ _ _ ok rfl
theorem ze7:Fz (1+1+1) (.tuple [.agg ({ (none:Option Ft).getD XU with parts:=lP _ _ }:Ft).c,.bool (none:Option Ft).isSome]):=fun m hm lv aa=>by obtain⟨m,rfl⟩:∃ q,m=q+3:=⟨m-3,Ω⟩;rfl
theorem ze8(f0:Ft)(q:aS 1 aL):Fz (1+1+1+1+1) (.tuple [.agg ({ (some f0).getD XU with parts:=q }:Ft).c,.bool (some f0).isSome]):=by
 refine zbc fun x hx=>?_;simp only[fF,j4,k7]at hx;rcases hx with rfl|rfl
 ·refine Gz fun x hx=>?_;simp only[Ft.c,fF,j4,k7,tE]at hx;rcases hx with rfl|rfl|rfl|rfl|rfl;all_goals first|exact zn.le Ω|exact Qm.le Ω|exact z7 yF q
 ·exact zj.le Ω
theorem aaa(hS:bN S)(s:Sv)(id:Int)(wC:∀ f∈s.ft.l,f.parts.l.length<=1073741824):∃ q',q'.l=((s.ft.l.find? fun f=>f.id==id).getD XU).parts.l /\
  iA aR S 16 [.agg s.c,iv id] (.tuple [.agg ({ (s.ft.l.find? fun f=>f.id==id).getD XU with parts:=q' }:Ft).c,.bool (s.ft.l.find? fun f=>f.id==id).isSome]):=by
 cases hf:s.ft.l.find? fun f=>f.id==id with
 |none =>
  refine⟨lP _ _,rfl,?_⟩
  refine zy (i:=i16) (k:=1+1+1) (ns hS) rfl rfl ze7 (s.ft.l.length+5) Ω fun m hm d ah=>?_
  simp only[i16,W0,seval,Sv.c]
  refine ze (fun j st=>∃ i,j=s.ft.l.length-i/\i<=s.ft.l.length/\((s.ft.l.take i).find? fun f=>f.id==id)=none/\∃ J a3 a6 a7 a8 a12 nT nS nR nQ a17 pL qq a20 a21 a22 a23 a24 a25,st=⟨[.agg s.c,iv id,.ptrM d 0 0,a3,.ptrM d 1 0,.bool false,a6,a7,a8,s.ft.v,iv (s.ft.l.length:Nat),iv i,a12,nT,nS,nR,nQ,a17,pL,qq,a20,a21,a22,a23,a24,a25],.cells [s.pl.ns.v,s.pl.az.v,s.pl.fs.v,s.ft.v]::.cells XU.c::J⟩) s.ft.l.length Ω ⟨0,Ω,Ω,Ψ,[],_,_,_,_,_,_,_,_,_,_,_,_,_,_,_,_,_,_,rfl⟩ ?_
  rintro j st K ⟨i,rfl,hi,hc,J,a3,a6,a7,a8,a12,nT,nS,nR,nQ,a17,pL,qq,a20,a21,a22,a23,a24,a25,rfl⟩ hn he hr
  by_cases h:i<s.ft.l.length
  ·have hx:s.ft.l[i]?=some s.ft.l[i]:=cK h
   generalize s.ft.l[i]=x at hx
   have hrd:bM (s.ft.l.flatMap Ft.c) (i*5) 5=some x.c:=(zd Ft.aZ 0 5 hx Ω).trans rfl
   have hw:aT .i64 ((i:Int)+1)=((i+1:Nat):Int):=zO (by have:=s.ft.gC;omega)
   cases hb:x.id==id
   ·simp only[W0,seval,h,za s.ft h,hrd,hb,hw,Ft.c]
    refine hn _ (s.ft.l.length-(i+1)) Ω ⟨i+1,rfl,Ω,yc hc hx hb,_,_,_,_,_,_,_,_,_,_,_,_,_,_,_,_,_,_,_,rfl⟩
   ·have jC:=yl (p:=fun f=>f.id==id) hc hx hb
    rw[hf]at jC
    simp at jC
  ·have jC:=yv hc h
   rw[hf]at jC
   simp only[W0,seval,h,ab7]
   refine he _ _ ?_
   simp only[W0,seval]
   rfl
 |some f0 =>
  obtain⟨q',hq,N,hN⟩:=Ba hS f0.parts (wC f0 (VS hf))
  refine⟨q',hq,?_⟩
  refine zy (i:=i16) (k:=1+1+1+1+1) (ns hS) rfl rfl (ze8 f0 q') (N+s.ft.l.length+8) Ω fun m hm d ah=>?_
  have lR:=hN m Ω
  simp only[i16,W0,seval,Sv.c]
  refine ze (fun j st=>∃ i,j=s.ft.l.length-i/\i<=s.ft.l.length/\((s.ft.l.take i).find? fun f=>f.id==id)=none/\∃ J a3 a6 a7 a8 a12 nT nS nR nQ a17 pL qq a20 a21 a22 a23 a24 a25,st=⟨[.agg s.c,iv id,.ptrM d 0 0,a3,.ptrM d 1 0,.bool false,a6,a7,a8,s.ft.v,iv (s.ft.l.length:Nat),iv i,a12,nT,nS,nR,nQ,a17,pL,qq,a20,a21,a22,a23,a24,a25],.cells [s.pl.ns.v,s.pl.az.v,s.pl.fs.v,s.ft.v]::.cells XU.c::J⟩) s.ft.l.length Ω ⟨0,Ω,Ω,Ψ,[],_,_,_,_,_,_,_,_,_,_,_,_,_,_,_,_,_,_,rfl⟩ ?_
  rintro j st K ⟨i,rfl,hi,hc,J,a3,a6,a7,a8,a12,nT,nS,nR,nQ,a17,pL,qq,a20,a21,a22,a23,a24,a25,rfl⟩ hn he hr
  by_cases h:i<s.ft.l.length
  ·have hx:s.ft.l[i]?=some s.ft.l[i]:=cK h
   generalize s.ft.l[i]=x at hx
   have hrd:bM (s.ft.l.flatMap Ft.c) (i*5) 5=some x.c:=(zd Ft.aZ 0 5 hx Ω).trans rfl
   have hw:aT .i64 ((i:Int)+1)=((i+1:Nat):Int):=zO (by have:=s.ft.gC;omega)
   cases hb:x.id==id
   ·simp only[W0,seval,h,za s.ft h,hrd,hb,hw,Ft.c]
    refine hn _ (s.ft.l.length-(i+1)) Ω ⟨i+1,rfl,Ω,yc hc hx hb,_,_,_,_,_,_,_,_,_,_,_,_,_,_,_,_,_,_,_,rfl⟩
   ·have jC:=yl (p:=fun f=>f.id==id) hc hx hb
    rw[hf]at jC
    obtain rfl:=kT jC
    simp only[W0,seval,h,za s.ft h,hrd,hb,Ft.c,lR]
    refine hr _ ?_
    simp only[W0,seval]
    rfl
  ·have jC:=yv hc h
   rw[hf]at jC
   simp at jC
theorem zai:Fz (1+1+1) (.tuple [.agg ({ (none:Option Ac).getD tF with via:=lP _ _ }:Ac).c,.bool (none:Option Ac).isSome]):=fun m hm lv aa=>by obtain⟨m,rfl⟩:∃ q,m=q+3:=⟨m-3,Ω⟩;rfl
theorem vh(f0:Ac)(q:aS 2 Pt.c):Fz (1+1+1+1+1) (.tuple [.agg ({ (some f0).getD tF with via:=q }:Ac).c,.bool (some f0).isSome]):=by
 refine zbc fun x hx=>?_;simp only[fF,j4,k7]at hx;rcases hx with rfl|rfl
 ·refine Gz fun x hx=>?_;simp only[Ac.c,fF,j4,k7,tE]at hx;rcases hx with rfl|rfl|rfl|rfl|rfl|rfl;all_goals first|exact zn.le Ω|exact Qm.le Ω|exact z7 ZD q
 ·exact zj.le Ω
theorem zcj(hS:bN S)(p:Pn)(id:Int)(wC:∀ f∈p.az.l,f.via.l.length<=1073741824):∃ q',q'.l=((p.az.l.find? fun f=>f.id==id).getD tF).via.l /\
  iA aR S 53 [.agg p.c,iv id] (.tuple [.agg ({ (p.az.l.find? fun f=>f.id==id).getD tF with via:=q' }:Ac).c,.bool (p.az.l.find? fun f=>f.id==id).isSome]):=by
 cases hf:p.az.l.find? fun f=>f.id==id with
 |none =>
  refine⟨lP _ _,rfl,?_⟩
  refine zy (i:=i53) (k:=1+1+1) (ns hS) rfl rfl zai (p.az.l.length+5) Ω fun m hm d ah=>?_
  simp only[i53,W0,seval,Pn.c]
  refine ze (fun j st=>∃ i,j=p.az.l.length-i/\i<=p.az.l.length/\((p.az.l.take i).find? fun f=>f.id==id)=none/\∃ J a3 a6 a7 a8 a12 nT nS nR nQ a17 pL qq a20 a21 a22 a23 a24 a25,st=⟨[.agg p.c,iv id,.ptrM d 0 0,a3,.ptrM d 1 0,.bool false,a6,a7,a8,p.az.v,iv (p.az.l.length:Nat),iv i,a12,nT,nS,nR,nQ,a17,pL,qq,a20,a21,a22,a23,a24,a25],.cells [p.ns.v,p.az.v,p.fs.v]::.cells tF.c::J⟩) p.az.l.length Ω ⟨0,Ω,Ω,Ψ,[],_,_,_,_,_,_,_,_,_,_,_,_,_,_,_,_,_,_,rfl⟩ ?_
  rintro j st K ⟨i,rfl,hi,hc,J,a3,a6,a7,a8,a12,nT,nS,nR,nQ,a17,pL,qq,a20,a21,a22,a23,a24,a25,rfl⟩ hn he hr
  by_cases h:i<p.az.l.length
  ·have hx:p.az.l[i]?=some p.az.l[i]:=cK h
   generalize p.az.l[i]=x at hx
   have hrd:bM (p.az.l.flatMap Ac.c) (i*6) 6=some x.c:=(zd Ac.aZ 0 6 hx Ω).trans rfl
   have hw:aT .i64 ((i:Int)+1)=((i+1:Nat):Int):=zO (by have:=p.az.gC;omega)
   cases hb:x.id==id
   ·simp only[W0,seval,h,za p.az h,hrd,hb,hw,Ac.c]
    refine hn _ (p.az.l.length-(i+1)) Ω ⟨i+1,rfl,Ω,yc hc hx hb,_,_,_,_,_,_,_,_,_,_,_,_,_,_,_,_,_,_,_,rfl⟩
   ·have jC:=yl (p:=fun f=>f.id==id) hc hx hb
    rw[hf]at jC
    simp at jC
  ·have jC:=yv hc h
   rw[hf]at jC
   simp only[W0,seval,h,VW]
   refine he _ _ ?_
   simp only[W0,seval]
   rfl
 |some f0 =>
  obtain⟨q',hq,N,hN⟩:=A9 hS f0.via (wC f0 (VS hf))
  refine⟨q',hq,?_⟩
  refine zy (i:=i53) (k:=1+1+1+1+1) (ns hS) rfl rfl (vh f0 q') (N+p.az.l.length+8) Ω fun m hm d ah=>?_
  have lR:=hN m Ω
  simp only[i53,W0,seval,Pn.c]
  refine ze (fun j st=>∃ i,j=p.az.l.length-i/\i<=p.az.l.length/\((p.az.l.take i).find? fun f=>f.id==id)=none/\∃ J a3 a6 a7 a8 a12 nT nS nR nQ a17 pL qq a20 a21 a22 a23 a24 a25,st=⟨[.agg p.c,iv id,.ptrM d 0 0,a3,.ptrM d 1 0,.bool false,a6,a7,a8,p.az.v,iv (p.az.l.length:Nat),iv i,a12,nT,nS,nR,nQ,a17,pL,qq,a20,a21,a22,a23,a24,a25],.cells [p.ns.v,p.az.v,p.fs.v]::.cells tF.c::J⟩) p.az.l.length Ω ⟨0,Ω,Ω,Ψ,[],_,_,_,_,_,_,_,_,_,_,_,_,_,_,_,_,_,_,rfl⟩ ?_
  rintro j st K ⟨i,rfl,hi,hc,J,a3,a6,a7,a8,a12,nT,nS,nR,nQ,a17,pL,qq,a20,a21,a22,a23,a24,a25,rfl⟩ hn he hr
  by_cases h:i<p.az.l.length
  ·have hx:p.az.l[i]?=some p.az.l[i]:=cK h
   generalize p.az.l[i]=x at hx
   have hrd:bM (p.az.l.flatMap Ac.c) (i*6) 6=some x.c:=(zd Ac.aZ 0 6 hx Ω).trans rfl
   have hw:aT .i64 ((i:Int)+1)=((i+1:Nat):Int):=zO (by have:=p.az.gC;omega)
   cases hb:x.id==id
   ·simp only[W0,seval,h,za p.az h,hrd,hb,hw,Ac.c]
    refine hn _ (p.az.l.length-(i+1)) Ω ⟨i+1,rfl,Ω,yc hc hx hb,_,_,_,_,_,_,_,_,_,_,_,_,_,_,_,_,_,_,_,rfl⟩
   ·have jC:=yl (p:=fun f=>f.id==id) hc hx hb
    rw[hf]at jC
    obtain rfl:=kT jC
    simp only[W0,seval,h,za p.az h,hrd,hb,Ac.c,lR]
    refine hr _ ?_
    simp only[W0,seval]
    rfl
  ·have jC:=yv hc h
   rw[hf]at jC
   simp at jC
theorem YK(f0:Nd):Fz (1+1+1) (.tuple [.agg ((some f0).getD M7).c,.bool (some f0).isSome]):=fun m hm lv aa=>by obtain⟨m,rfl⟩:∃ q,m=q+3:=⟨m-3,Ω⟩;rfl
theorem YL:Fz (1+1+1) (.tuple [.agg ((none:Option Nd).getD M7).c,.bool (none:Option Nd).isSome]):=fun m hm lv aa=>by obtain⟨m,rfl⟩:∃ q,m=q+3:=⟨m-3,Ω⟩;rfl
theorem Yp(hS:bN S)(p:Pn)(id:Int):iA aR S 40 [.agg p.c,iv id] (.tuple [.agg ((p.ns.l.find? fun f=>f.id==id).getD M7).c,.bool (p.ns.l.find? fun f=>f.id==id).isSome]):=by
 cases hf:p.ns.l.find? fun f=>f.id==id with
 |none =>
  refine zy (i:=i40) (k:=1+1+1) (ns hS) rfl rfl YL (p.ns.l.length+5) Ω fun m hm d ah=>?_
  simp only[i40,W0,seval,Pn.c]
  refine ze (fun j st=>∃ i,j=p.ns.l.length-i/\i<=p.ns.l.length/\((p.ns.l.take i).find? fun f=>f.id==id)=none/\∃ J a3 a6 a7 a8 a12 nT nS nR nQ a17 pL qq a20 a21,st=⟨[.agg p.c,iv id,.ptrM d 0 0,a3,.ptrM d 1 0,.bool false,a6,a7,a8,p.ns.v,iv (p.ns.l.length:Nat),iv i,a12,nT,nS,nR,nQ,a17,pL,qq,a20,a21],.cells [p.ns.v,p.az.v,p.fs.v]::.cells M7.c::J⟩) p.ns.l.length Ω ⟨0,Ω,Ω,Ψ,[],_,_,_,_,_,_,_,_,_,_,_,_,_,_,rfl⟩ ?_
  rintro j st K ⟨i,rfl,hi,hc,J,a3,a6,a7,a8,a12,nT,nS,nR,nQ,a17,pL,qq,a20,a21,rfl⟩ hn he hr
  by_cases h:i<p.ns.l.length
  ·have hx:p.ns.l[i]?=some p.ns.l[i]:=cK h
   generalize p.ns.l[i]=x at hx
   have hrd:bM (p.ns.l.flatMap Nd.c) (i*3) 3=some x.c:=(zd Nd.aZ 0 3 hx Ω).trans rfl
   have hw:aT .i64 ((i:Int)+1)=((i+1:Nat):Int):=zO (by have:=p.ns.gC;omega)
   cases hb:x.id==id
   ·simp only[W0,seval,h,za p.ns h,hrd,hb,hw,Nd.c]
    refine hn _ (p.ns.l.length-(i+1)) Ω ⟨i+1,rfl,Ω,yc hc hx hb,_,_,_,_,_,_,_,_,_,_,_,_,_,_,_,rfl⟩
   ·have jC:=yl (p:=fun f=>f.id==id) hc hx hb
    rw[hf]at jC
    simp at jC
  ·have jC:=yv hc h
   rw[hf]at jC
   simp only[W0,seval,h,VV]
   refine he _ _ ?_
   simp only[W0,seval]
   rfl
 |some f0 =>
  refine zy (i:=i40) (k:=1+1+1) (ns hS) rfl rfl (YK f0) (p.ns.l.length+8) Ω fun m hm d ah=>?_
  simp only[i40,W0,seval,Pn.c]
  refine ze (fun j st=>∃ i,j=p.ns.l.length-i/\i<=p.ns.l.length/\((p.ns.l.take i).find? fun f=>f.id==id)=none/\∃ J a3 a6 a7 a8 a12 nT nS nR nQ a17 pL qq a20 a21,st=⟨[.agg p.c,iv id,.ptrM d 0 0,a3,.ptrM d 1 0,.bool false,a6,a7,a8,p.ns.v,iv (p.ns.l.length:Nat),iv i,a12,nT,nS,nR,nQ,a17,pL,qq,a20,a21],.cells [p.ns.v,p.az.v,p.fs.v]::.cells M7.c::J⟩) p.ns.l.length Ω ⟨0,Ω,Ω,Ψ,[],_,_,_,_,_,_,_,_,_,_,_,_,_,_,rfl⟩ ?_
  rintro j st K ⟨i,rfl,hi,hc,J,a3,a6,a7,a8,a12,nT,nS,nR,nQ,a17,pL,qq,a20,a21,rfl⟩ hn he hr
  by_cases h:i<p.ns.l.length
  ·have hx:p.ns.l[i]?=some p.ns.l[i]:=cK h
   generalize p.ns.l[i]=x at hx
   have hrd:bM (p.ns.l.flatMap Nd.c) (i*3) 3=some x.c:=(zd Nd.aZ 0 3 hx Ω).trans rfl
   have hw:aT .i64 ((i:Int)+1)=((i+1:Nat):Int):=zO (by have:=p.ns.gC;omega)
   cases hb:x.id==id
   ·simp only[W0,seval,h,za p.ns h,hrd,hb,hw,Nd.c]
    refine hn _ (p.ns.l.length-(i+1)) Ω ⟨i+1,rfl,Ω,yc hc hx hb,_,_,_,_,_,_,_,_,_,_,_,_,_,_,_,rfl⟩
   ·have jC:=yl (p:=fun f=>f.id==id) hc hx hb
    rw[hf]at jC
    obtain rfl:=kT jC
    simp only[W0,seval,h,za p.ns h,hrd,hb,Nd.c]
    refine hr _ ?_
    simp only[W0,seval]
    rfl
  ·have jC:=yv hc h
   rw[hf]at jC
   simp at jC
end
section
variable {d k n0:Nat} {lk:Nat->Nat->Option aO} {aa:aU} {p p':IV}
theorem zbk{sz z len slot:Nat}{cs new:List IV}{tight:Bool}:bh d n0 lk aa sz (.slC cs len z tight) new 0 slot=some (.r,.slC cs len z tight,aa):=by unfold bh;rw[bt rfl]
theorem yI{f:IV->Option IV}{x y:IV}{l l':List IV}(h:f x=some y)(h2:l.mapM f=some l'):(x::l).mapM f=some (y::l'):=by rw[rO,h,h2];rfl
theorem zck{f:IV->Option IV}:([]:List IV).mapM f=some []:=rfl
theorem zbl{cs cs':List IV}(h:cs.mapM (freeze k d aa)=some cs'):freeze (k+1) d aa (.tuple cs)=some (.tuple cs'):=by simp only[freeze,h,gH]
theorem GA{cs cs':List IV}(h:cs.mapM (freeze k d aa)=some cs'):freeze (k+1) d aa (.agg cs)=some (.agg cs'):=by simp only[freeze,h,gH]
theorem wO{a b c e f:Int}{t:Bool}(hp:freeze (k+1) d aa p=some p'):freeze (k+1+1+1) d aa (.tuple [.agg [.int .i64 a,.int .i64 b,.int .i64 c,p,.int .i64 e,.int .i64 f],.bool t])=some (.tuple [.agg [.int .i64 a,.int .i64 b,.int .i64 c,p',.int .i64 e,.int .i64 f],.bool t]) :=
 zbl (yI (GA (yI rfl (yI rfl (yI rfl (yI hp (yI rfl (yI rfl zck))))))) (yI rfl zck))
theorem DW{sz:Nat}{tight:Bool}:freeze (k+1) d aa (.slC [] 0 sz tight)=some (.slC [] 0 sz tight):=by simp[freeze]
end
section
variable {S:cZ}
theorem Yq(hS:bN S)(p:Pn)(id:Int)(wC:∀ f∈p.az.l,f.via.l.length<=1073741824):∃ q',q'.l=((p.az.l.find? fun f=>f.id==id).getD tF).via.l /\
  iA aR S 138 [.agg p.c,iv id] (.tuple [.agg ({ (p.az.l.find? fun f=>f.id==id).getD tF with via:=q' }:Ac).c,.bool (p.az.l.find? fun f=>f.id==id).isSome]):=by
 cases hf:p.az.l.find? fun f=>f.id==id with
 |none =>
  refine⟨lP _ _,rfl,?_⟩
  refine zy (i:=i138) (k:=1+1+1) (ns hS) rfl rfl zai (p.az.l.length+5) Ω fun m hm d ah=>?_
  simp only[i138,W0,seval,Pn.c]
  refine ze (fun j st=>∃ i,j=p.az.l.length-i/\i<=p.az.l.length/\((p.az.l.take i).find? fun f=>f.id==id)=none/\∃ J a3 a7 a8 a9 vv vu a12 nT nS nR nQ a17 pL qq a20 a21 a22 a23 a24 a25 a26 Kb a28 Xn Xm a31 a32 a33 Xl,st=⟨[.agg p.c,iv id,.ptrM d 0 0,a3,.ptrM d 1 0,.bool false,iv i,a7,a8,a9,vv,vu,a12,nT,nS,nR,nQ,a17,pL,qq,a20,a21,a22,a23,a24,a25,a26,Kb,a28,Xn,Xm,a31,a32,a33,Xl],.cells [p.ns.v,p.az.v,p.fs.v]::.cells tF.c::J⟩) p.az.l.length Ω ⟨0,Ω,Ω,Ψ,[],_,_,_,_,_,_,_,_,_,_,_,_,_,_,_,_,_,_,_,_,_,_,_,_,_,_,_,_,_,rfl⟩ ?_
  rintro j st K ⟨i,rfl,hi,hc,J,a3,a7,a8,a9,vv,vu,a12,nT,nS,nR,nQ,a17,pL,qq,a20,a21,a22,a23,a24,a25,a26,Kb,a28,Xn,Xm,a31,a32,a33,Xl,rfl⟩ hn he hr
  by_cases h:i<p.az.l.length
  ·have hx:p.az.l[i]?=some p.az.l[i]:=cK h
   generalize p.az.l[i]=x at hx
   have hrd:bM (p.az.l.flatMap Ac.c) (i*6) 6=some x.c:=(zd Ac.aZ 0 6 hx Ω).trans rfl
   have sV:bM (p.az.l.flatMap Ac.c) (i*6) 1=some [.int .i64 x.id]:=(zd Ac.aZ 0 1 hx Ω).trans rfl
   have hw:aT .i64 ((i:Int)+1)=((i+1:Nat):Int):=zO (by have:=p.az.gC;omega)
   cases hb:x.id==id
   ·simp only[W0,seval,h,za p.az h,sV,hb,hw,Ac.c]
    refine hn _ (p.az.l.length-(i+1)) Ω ⟨i+1,rfl,Ω,yc hc hx hb,_,_,_,_,_,_,_,_,_,_,_,_,_,_,_,_,_,_,_,_,_,_,_,_,_,_,_,_,_,_,rfl⟩
   ·have jC:=yl (p:=fun f=>f.id==id) hc hx hb
    rw[hf]at jC
    simp at jC
  ·have jC:=yv hc h
   rw[hf]at jC
   simp only[W0,seval,h,VW]
   refine he _ _ ?_
   simp only[W0,seval]
   rfl
 |some f0 =>
  have hs0:=wC f0 (VS hf)
  by_cases h0:f0.via.l.length=0
  ·refine⟨⟨[],.slC [] 0 2 true,.row _ _ _ rfl,Ψ⟩,(sr.1 h0).symm,?_⟩
   refine Yb (i:=i138) (ns hS) rfl rfl (p.az.l.length+8) fun m hm d ah=>?_
   simp only[i138,W0,seval,Pn.c]
   refine ze (fun j st=>∃ i,j=p.az.l.length-i/\i<=p.az.l.length/\((p.az.l.take i).find? fun f=>f.id==id)=none/\∃ J a3 a7 a8 a9 vv vu a12 nT nS nR nQ a17 pL qq a20 a21 a22 a23 a24 a25 a26 Kb a28 Xn Xm a31 a32 a33 Xl,st=⟨[.agg p.c,iv id,.ptrM d 0 0,a3,.ptrM d 1 0,.bool false,iv i,a7,a8,a9,vv,vu,a12,nT,nS,nR,nQ,a17,pL,qq,a20,a21,a22,a23,a24,a25,a26,Kb,a28,Xn,Xm,a31,a32,a33,Xl],.cells [p.ns.v,p.az.v,p.fs.v]::.cells tF.c::J⟩) p.az.l.length Ω ⟨0,Ω,Ω,Ψ,[],_,_,_,_,_,_,_,_,_,_,_,_,_,_,_,_,_,_,_,_,_,_,_,_,_,_,_,_,_,rfl⟩ ?_
   rintro j st K ⟨i,rfl,hi,hc,J,a3,a7,a8,a9,vv,vu,a12,nT,nS,nR,nQ,a17,pL,qq,a20,a21,a22,a23,a24,a25,a26,Kb,a28,Xn,Xm,a31,a32,a33,Xl,rfl⟩ hn he hr
   by_cases h:i<p.az.l.length
   ·have hx:p.az.l[i]?=some p.az.l[i]:=cK h
    generalize p.az.l[i]=x at hx
    have hrd:bM (p.az.l.flatMap Ac.c) (i*6) 6=some x.c:=(zd Ac.aZ 0 6 hx Ω).trans rfl
    have sV:bM (p.az.l.flatMap Ac.c) (i*6) 1=some [.int .i64 x.id]:=(zd Ac.aZ 0 1 hx Ω).trans rfl
    have hw:aT .i64 ((i:Int)+1)=((i+1:Nat):Int):=zO (by have:=p.az.gC;omega)
    cases hb:x.id==id
    ·simp only[W0,seval,h,za p.az h,sV,hb,hw,Ac.c]
     refine hn _ (p.az.l.length-(i+1)) Ω ⟨i+1,rfl,Ω,yc hc hx hb,_,_,_,_,_,_,_,_,_,_,_,_,_,_,_,_,_,_,_,_,_,_,_,_,_,_,_,_,_,_,rfl⟩
    ·have jC:=yl (p:=fun f=>f.id==id) hc hx hb
     rw[hf]at jC
     obtain rfl:=kT jC
     simp only[W0,seval,h,za p.az h,sV,hrd,hb,Ac.c,zh,zk,rep,zw,zo,h0,zbk]
     refine hr _ ?_
     simp only[W0,seval]
     refine⟨_,rfl,?_⟩
     obtain⟨k,rfl⟩:∃ k,m=k+1+1+1:=⟨m-3,Ω⟩
     exact wO DW
   ·have jC:=yv hc h
    rw[hf]at jC
    simp at jC
  ·refine⟨⟨f0.via.l,.slC (f0.via.l.flatMap Pt.c) f0.via.l.length 2 (false&&true),.row _ _ _ (zl Pt.aZ),f0.via.gC⟩,rfl,?_⟩
   refine Yb (i:=i138) (ns hS) rfl rfl (p.az.l.length+8) fun m hm d ah=>?_
   simp only[i138,W0,seval,Pn.c]
   refine ze (fun j st=>∃ i,j=p.az.l.length-i/\i<=p.az.l.length/\((p.az.l.take i).find? fun f=>f.id==id)=none/\∃ J a3 a7 a8 a9 vv vu a12 nT nS nR nQ a17 pL qq a20 a21 a22 a23 a24 a25 a26 Kb a28 Xn Xm a31 a32 a33 Xl,st=⟨[.agg p.c,iv id,.ptrM d 0 0,a3,.ptrM d 1 0,.bool false,iv i,a7,a8,a9,vv,vu,a12,nT,nS,nR,nQ,a17,pL,qq,a20,a21,a22,a23,a24,a25,a26,Kb,a28,Xn,Xm,a31,a32,a33,Xl],.cells [p.ns.v,p.az.v,p.fs.v]::.cells tF.c::J⟩) p.az.l.length Ω ⟨0,Ω,Ω,Ψ,[],_,_,_,_,_,_,_,_,_,_,_,_,_,_,_,_,_,_,_,_,_,_,_,_,_,_,_,_,_,rfl⟩ ?_
   rintro j st K ⟨i,rfl,hi,hc,J,a3,a7,a8,a9,vv,vu,a12,nT,nS,nR,nQ,a17,pL,qq,a20,a21,a22,a23,a24,a25,a26,Kb,a28,Xn,Xm,a31,a32,a33,Xl,rfl⟩ hn he hr
   by_cases h:i<p.az.l.length
   ·have hx:p.az.l[i]?=some p.az.l[i]:=cK h
    generalize p.az.l[i]=x at hx
    have hrd:bM (p.az.l.flatMap Ac.c) (i*6) 6=some x.c:=(zd Ac.aZ 0 6 hx Ω).trans rfl
    have sV:bM (p.az.l.flatMap Ac.c) (i*6) 1=some [.int .i64 x.id]:=(zd Ac.aZ 0 1 hx Ω).trans rfl
    have hw:aT .i64 ((i:Int)+1)=((i+1:Nat):Int):=zO (by have:=p.az.gC;omega)
    cases hb:x.id==id
    ·simp only[W0,seval,h,za p.az h,sV,hb,hw,Ac.c]
     refine hn _ (p.az.l.length-(i+1)) Ω ⟨i+1,rfl,Ω,yc hc hx hb,_,_,_,_,_,_,_,_,_,_,_,_,_,_,_,_,_,_,_,_,_,_,_,_,_,_,_,_,_,_,rfl⟩
    ·have jC:=yl (p:=fun f=>f.id==id) hc hx hb
     rw[hf]at jC
     obtain rfl:=kT jC
     simp only[W0,seval,h,za p.az h,sV,hrd,hb,Ac.c,zh,zk,rep,zw,zo,zbj h0 (show 0+f0.via.l.length<=1073741824 by omega)]
     refine hr _ ?_
     simp only[W0,seval]
     refine⟨_,rfl,?_⟩
     obtain⟨k,rfl⟩:∃ k,m=k+1+1+1:=⟨m-3,Ω⟩
     exact wO (yi (k:=1) ZD Ω rfl Pt.aZ (by simp only[W0,seval]))
   ·have jC:=yv hc h
    rw[hf]at jC
    simp at jC
theorem ZU(hS:bN S)(p:Pn)(id:Int):iA aR S 127 [.agg p.c,iv id] (.tuple [.agg ((p.ns.l.find? fun f=>f.id==id).getD M7).c,.bool (p.ns.l.find? fun f=>f.id==id).isSome]):=by
 cases hf:p.ns.l.find? fun f=>f.id==id with
 |none =>
  refine zy (i:=i127) (k:=1+1+1) (ns hS) rfl rfl YL (p.ns.l.length+5) Ω fun m hm d ah=>?_
  simp only[i127,W0,seval,Pn.c]
  refine ze (fun j st=>∃ i,j=p.ns.l.length-i/\i<=p.ns.l.length/\((p.ns.l.take i).find? fun f=>f.id==id)=none/\∃ J a3 a7 a8 a9 vv vu a12 nT nS nR nQ a17 pL qq a20 a21 a22 a23 a24 a25 a26 Kb,st=⟨[.agg p.c,iv id,.ptrM d 0 0,a3,.ptrM d 1 0,.bool false,iv i,a7,a8,a9,vv,vu,a12,nT,nS,nR,nQ,a17,pL,qq,a20,a21,a22,a23,a24,a25,a26,Kb],.cells [p.ns.v,p.az.v,p.fs.v]::.cells M7.c::J⟩) p.ns.l.length Ω ⟨0,Ω,Ω,Ψ,[],_,_,_,_,_,_,_,_,_,_,_,_,_,_,_,_,_,_,_,_,_,_,rfl⟩ ?_
  rintro j st K ⟨i,rfl,hi,hc,J,a3,a7,a8,a9,vv,vu,a12,nT,nS,nR,nQ,a17,pL,qq,a20,a21,a22,a23,a24,a25,a26,Kb,rfl⟩ hn he hr
  by_cases h:i<p.ns.l.length
  ·have hx:p.ns.l[i]?=some p.ns.l[i]:=cK h
   generalize p.ns.l[i]=x at hx
   have hrd:bM (p.ns.l.flatMap Nd.c) (i*3) 3=some x.c:=(zd Nd.aZ 0 3 hx Ω).trans rfl
   have sV:bM (p.ns.l.flatMap Nd.c) (i*3) 1=some [.int .i64 x.id]:=(zd Nd.aZ 0 1 hx Ω).trans rfl
   have hw:aT .i64 ((i:Int)+1)=((i+1:Nat):Int):=zO (by have:=p.ns.gC;omega)
   cases hb:x.id==id
   ·simp only[W0,seval,h,za p.ns h,sV,hb,hw,Nd.c]
    refine hn _ (p.ns.l.length-(i+1)) Ω ⟨i+1,rfl,Ω,yc hc hx hb,_,_,_,_,_,_,_,_,_,_,_,_,_,_,_,_,_,_,_,_,_,_,_,rfl⟩
   ·have jC:=yl (p:=fun f=>f.id==id) hc hx hb
    rw[hf]at jC
    simp at jC
  ·have jC:=yv hc h
   rw[hf]at jC
   simp only[W0,seval,h,VV]
   refine he _ _ ?_
   simp only[W0,seval]
   rfl
 |some f0 =>
  refine zy (i:=i127) (k:=1+1+1) (ns hS) rfl rfl (YK f0) (p.ns.l.length+8) Ω fun m hm d ah=>?_
  simp only[i127,W0,seval,Pn.c]
  refine ze (fun j st=>∃ i,j=p.ns.l.length-i/\i<=p.ns.l.length/\((p.ns.l.take i).find? fun f=>f.id==id)=none/\∃ J a3 a7 a8 a9 vv vu a12 nT nS nR nQ a17 pL qq a20 a21 a22 a23 a24 a25 a26 Kb,st=⟨[.agg p.c,iv id,.ptrM d 0 0,a3,.ptrM d 1 0,.bool false,iv i,a7,a8,a9,vv,vu,a12,nT,nS,nR,nQ,a17,pL,qq,a20,a21,a22,a23,a24,a25,a26,Kb],.cells [p.ns.v,p.az.v,p.fs.v]::.cells M7.c::J⟩) p.ns.l.length Ω ⟨0,Ω,Ω,Ψ,[],_,_,_,_,_,_,_,_,_,_,_,_,_,_,_,_,_,_,_,_,_,_,rfl⟩ ?_
  rintro j st K ⟨i,rfl,hi,hc,J,a3,a7,a8,a9,vv,vu,a12,nT,nS,nR,nQ,a17,pL,qq,a20,a21,a22,a23,a24,a25,a26,Kb,rfl⟩ hn he hr
  by_cases h:i<p.ns.l.length
  ·have hx:p.ns.l[i]?=some p.ns.l[i]:=cK h
   generalize p.ns.l[i]=x at hx
   have hrd:bM (p.ns.l.flatMap Nd.c) (i*3) 3=some x.c:=(zd Nd.aZ 0 3 hx Ω).trans rfl
   have sV:bM (p.ns.l.flatMap Nd.c) (i*3) 1=some [.int .i64 x.id]:=(zd Nd.aZ 0 1 hx Ω).trans rfl
   have hw:aT .i64 ((i:Int)+1)=((i+1:Nat):Int):=zO (by have:=p.ns.gC;omega)
   cases hb:x.id==id
   ·simp only[W0,seval,h,za p.ns h,sV,hb,hw,Nd.c]
    refine hn _ (p.ns.l.length-(i+1)) Ω ⟨i+1,rfl,Ω,yc hc hx hb,_,_,_,_,_,_,_,_,_,_,_,_,_,_,_,_,_,_,_,_,_,_,_,rfl⟩
   ·have jC:=yl (p:=fun f=>f.id==id) hc hx hb
    rw[hf]at jC
    obtain rfl:=kT jC
    simp only[W0,seval,h,za p.ns h,hrd,sV,hb,Nd.c]
    refine hr _ ?_
    simp only[W0,seval]
    rfl
  ·have jC:=yv hc h
   rw[hf]at jC
   simp at jC
end
section
variable {C:Call} {d:Nat} {ah:bR} {n j:Nat} {st:St} {K:fP} {a:IC}
def Lp(C:Call)(d:Nat)(ah:bR)(n j:Nat)(a:IC)(K:fP)(st:St):Prop:=∃ o st',iter (exec C d ah n a) j st=some (o,st')/\K o st'
theorem Kk:Ex C d ah n (.loop a) K st=Lp C d ah n n a K st:=by unfold Ex Lp;simp only[exec]
theorem Kg:Lp C d ah n (j+1) a K st=Ex C d ah n a (andThen (Lp C d ah n j a K) K) st:=by
 refine propext ⟨fun⟨o,st',h,hk⟩=>?_,fun⟨o,st1,h1,h2⟩=>?_⟩
 ·simp only[iter]at h;split at h
  ·rename_i st1 he;exact⟨.normal,st1,he,o,st',h,hk⟩
  ·rename_i hne;refine⟨o,st',h,?_⟩;cases o with
   |normal=>exact absurd h (hne _)
   |exit id=>exact hk
   |ret=>exact hk
 ·cases o with
  |normal =>
   obtain⟨o2,st2,h3,h4⟩:=h2
   exact⟨o2,st2,by simp only[iter,h1,h3],h4⟩
  |exit id=>exact⟨_,st1,by simp only[iter,h1],h2⟩
  |ret=>exact⟨_,st1,by simp only[iter,h1],h2⟩
end
section
variable {F:FuncId->Option jy} {S:cZ}
def af6(d:Nat)(ah:bR)(rs:List nZ)(c:List IV)(len cap sz:Nat)(tight:Bool)(o:Out)(st:St):Prop:=(o=.normal∨o=.ret)/\∃ j,bP d ah st rs=some (.slM d j 0 len cap sz tight)/\st.aa[j]?=some (.cells c)
theorem aaw{f:FuncId}{i:jy}{args:List IV}{c:List IV}{len cap sz k:Nat}{tight:Bool}(hS:S f args=none)(hi:F f=some i)(hm:i.mode=1)(N:Nat)(hfz:∀ x∈c,Fz k x)(hk:k<=N)(hc:c.length=cap*sz)
  (h:∀ m,N<=m->∀ d ah,Ex (aM F S m) d ah m i.body (af6 d ah i.res c len cap sz tight) ⟨args++List.replicate (i.ntmps-args.length) (.tuple []),[]⟩) :
  ∃ N',∀ m,N'<=m->∀ d ah aK aa id,aa[id]?=some .free->aM F S m d ah aK aa id f args=some (.a,.slM d id 0 len cap sz tight,aa.set id (.cells c)):=by
 refine⟨N+1,fun m hN d ah aK aa id hf=>?_⟩
 obtain⟨m,rfl⟩:∃ q,m=q+1:=⟨m-1,Ω⟩
 obtain⟨o,st,h1,h2,j,h3,h4⟩:=h m Ω (d+1) (fun l=>if l=d then aK else ah l)
 have hm2:¬ i.mode=2:=Ω
 have Jn:¬ i.mode=3:=Ω
 have hm4:¬ 4<=i.mode:=Ω
 have iP:seg c 0 (cap*sz)=some c:=by unfold seg;rw[bt Ω,zi,BV,gj Ω]
 have hmap:c.mapM (freeze m (d+1) (st.aa.set j .gone))=some c:=zS fun x hx=>hfz x hx m Ω _ _
 simp only[aM,hS,hi,bC hm2,bC Jn,bC hm4,zi,h1]
 rcases h2 with rfl|rfl<;>simp only[ended,h3,jG,leave,hm,if_true,handed,h4,iP,hmap,dU,hf,zi]
variable {d:Nat} {ah:bR} {rs:List nZ} {c:List IV} {len cap sz:Nat} {tight:Bool} {st:St}
theorem Sm:af6 d ah rs c len cap sz tight .ret st=∃ j,bP d ah st rs=some (.slM d j 0 len cap sz tight)/\st.aa[j]?=some (.cells c):=propext ⟨fun h=>h.2,fun h=>⟨.inr rfl,h⟩⟩
end
theorem OD{z:List IV}{k:Nat}(h:∀ x∈z,Fz k x):∀{n:Nat},∀ x∈rep z n,Fz k x
 |0,x,hx=>by simp[rep]at hx
 |n+1,x,hx=>by simp only[rep,og]at hx;exact hx.elim (h x) (OD h x)
section
variable {C:Call} {d n0:Nat} {ah:bR} {lk:Nat->Nat->Option aO} {aa aK:aU} {t:List IV}
theorem aa4{k:IntKind}:mC (.int k 0)=some 0:=dO rfl rfl
theorem RW{z:List IV}{sz:Nat}{s x:bG}{slot:Nat}:iX d ah n0 aK aa t z sz true s x slot=aes d n0 (look d ah aK) aa sz (ρ t s) slot ((mC (ρ t x)).bind fun n=>if n<=bound then some (rep z n,n)else none):=dO rfl rfl
theorem yT{sz slot n:Nat}{new:List IV}(h:n≠0)(hb:n<=bound):bh d n0 lk aa sz .nilsl new n slot=dU aa (n0+slot) (.cells new) (.slM d (n0+slot) 0 n n sz false):=by unfold bh;rw[bC h];simp only;rw[bt hb]
end
theorem Kv:aT .i64 (0-0)=0:=by rw[zT];decide
theorem Ku{n:Nat}(h:n<=1073741824):aT .i64 ((n:Int)-0)=(n:Int):=by rw[zT,IntWalk.i64_in _ Ω];omega
section
variable {S:cZ}
theorem Uv(hS:bN S)(n:Nat)(h0:0<n)(hn:n<=1073741824):∃ N,∀ m,N<=m->∀ d ah aK aa id,aa[id]?=some .free->aM aR S m d ah aK aa id 114 [.nilsl,iv n]=some (.a,.slM d id 0 0 n 2 false,aa.set id (.cells (rep [.int .i64 0,.int .i64 0] n))):=by
 refine aaw (i:=i114) (ns hS) rfl rfl 2 (k:=1) (OD fun x hx=>?_) Ω ?_ fun m hm d ah=>?_
 ·simp only[fF,j4,k7]at hx;rcases hx with rfl|rfl<;>exact zn
 ·rw[ZP];rfl
 ·have d1:decide ((n:Int)<0)=false:=by simp
  have d2:decide ((n:Int)>0)=true:=by simp;omega
  have hb:n<=bound:=by unfold bound;omega
  have fG:0+n<=bound:=by unfold bound;omega
  have hne:n≠0:=Ω;simp only[i114,W0,b8,dK,ff,cA,dL,cL,eP,fI,fH,cO,dM,cN,cM,bg,dY,iW,dU,List.replicate,look,mg,iq,bq,bX,pZ,dh,gY,Xb,Xc,Xd,reduceCtorEq,Xe,d1,abj,rE,Kv,Ku hn,d2,ZC,eS,lC,aa4,zX,zh,RW,bt hb,zo,yT hne hb,NA,qw,znu,rM,SQ,Sr,Sm];exact⟨0,rfl,rfl⟩
end
theorem HW:∀{B A R:List IV},B.length<=R.length->gV (A++R) A.length B=A++B++R.drop B.length
 |[],A,R,_=>by simp[gV]
 |b::B,A,R,h=>by
  cases R with
  |nil=>simp at h
  |cons r R =>
   simp only[gV]
   rw[zdu]
   have h2:=HW (B:=B) (A:=A++[b]) (R:=R) (by simpa using h)
   rw[eR,kR]at h2
   simp only[gQ,gM,cu,dw,fO]at h2
   rw[h2]
   simp
theorem YM{B A R:List IV}{k:Nat}(hk:k=A.length)(h:B.length<=R.length):gV (A++R) k B=A++B++R.drop B.length:=by rw[hk,HW h]
theorem zbm{d n0 sz len cap n slot:Nat}{ah:bR}{c new:List IV}{J:aU}{tight:Bool}(h:n≠0)(hb:len+n<=1073741824)(hc:len+n<=cap)(hfit:0+(len+n)*sz<=c.length)(hs:new.all IV.scalar=true) :
  bh d n0 (look d ah (.cells c::J)) (.cells c::J) sz (.slM d 0 0 len cap sz tight) new n slot=some (.x,.slM d 0 0 (len+n) cap sz tight,.cells (gV c (0+len*sz) new)::J):=by
 unfold bh
 rw[bC h]
 simp only
 rw[bt ⟨by unfold bound;omega,trivial⟩]
 simp only[look,if_true,qU]
 rw[bt hc,bt ⟨trivial,hfit,hs⟩]
 simp only[zi,SP]
theorem ze9{d n0 sz slot l i off len cap z:Nat}{lk:Nat->Nat->Option aO}{aa:aU}{new:List IV}{tight:Bool}:bh d n0 lk aa sz (.slM l i off len cap z tight) new 0 slot=some (.r,.slM l i off len cap z tight,aa):=by unfold bh;rw[bt rfl]
theorem MP{d n0 sz slot l i off len cap z n:Nat}(h:n=0){lk:Nat->Nat->Option aO}{aa:aU}{new:List IV}{tight:Bool}:bh d n0 lk aa sz (.slM l i off len cap z tight) new n slot=some (.r,.slM l i off len cap z tight,aa):=by subst h;exact ze9
theorem OQ{l:List Pt}:(l.flatMap Pt.c).all IV.scalar=true:=by rw[ot];intro x hx;obtain⟨a,_,h⟩:=qS.1 hx;simp only[Pt.c,fF,j4,k7]at h;rcases h with rfl|rfl<;>rfl
theorem Y4{lk:Nat->Nat->Option aO}{x y:Int}{tight:Bool}:cB lk 2 (.slC [.int .i64 x,.int .i64 y] 1 2 tight)=some ([.int .i64 x,.int .i64 y],1):=by simp[cB,seg,zi]
theorem PC{aa:aU}{z n sz:Nat}{cs:List IV}{tight:Bool}{k:IntKind}(h:0<n):dD aa z (.slC cs n sz tight) (.int k 0)=some (.p,.ptrC cs (0*z),aa):=zA (i:=0) h
theorem PB{aa:aU}{z n sz:Nat}{cs:List IV}{tight:Bool}{k:IntKind}(h:1<n):dD aa z (.slC cs n sz tight) (.int k 1)=some (.p,.ptrC cs (1*z),aa):=zA (i:=1) h
theorem PA{aa:aU}{z n sz:Nat}{cs:List IV}{tight:Bool}{k:IntKind}(h:2<n):dD aa z (.slC cs n sz tight) (.int k 2)=some (.p,.ptrC cs (2*z),aa):=zA (i:=2) h
theorem Cg:aT .i64 (0+1)=1:=by rw[zT];decide
theorem Cf:aT .i64 (1+1)=2:=by rw[zT];decide
theorem Ce:aT .i64 (2+1)=3:=by rw[zT];decide
theorem afd:decide ((0:Int)<((3:Nat):Int))=true:=by decide
theorem afc:decide ((1:Int)<((3:Nat):Int))=true:=by decide
theorem afb:decide ((2:Int)<((3:Nat):Int))=true:=by decide
theorem afa:decide ((3:Int)<((3:Nat):Int))=false:=by decide
theorem zbn{a b:Nat}(h:a+b<9223372036854775808):aT .i64 ((a:Int)+(b:Int))=((a+b:Nat):Int):=by rw[zT,IntWalk.i64_in _ Ω];rfl
theorem HT:aT .i64 (0+((1:Nat):Int))=((1:Nat):Int):=by rw[zT];decide
theorem nlt{a:Nat}:decide ((a:Int)<0)=false:=by simp
def iV{α:Type}{g:α->List IV}{sz:Nat}(hs:∀ a,(g a).length=sz)(l:List α)(n:Nat)(tight:Bool)(h:l.length=n)(hf:n<9223372036854775808):aS sz g :=
 ⟨l,.slC (l.flatMap g) n sz tight,by subst h;exact .row _ _ _ (zl hs),Ω⟩
theorem filled{A B D R:List IV}{n:Nat}(hA:A.length=2)(hD:D.length=2)(hB:B.length=n*2)(hR:R.length=(1+n+1)*2):gV (gV (gV R 0 A) 2 B) ((1+n)*2) D=A++(B++D):=by
 have h1:gV R 0 A=A++R.drop 2:=by have:=YM (B:=A) (A:=[]) (R:=R) (k:=0) rfl Ω;simpa[hA]using this
 rw[h1,YM (k:=2) hA.symm (by rw[tD];omega),YM (k:=(1+n)*2) (by rw[eR,hA,hB];omega) (by simp only[tD];omega),kR,kR];rw[VP (by simp only[tD];omega),iL]
theorem UF{A D R:List IV}(hA:A.length=2)(hD:D.length=2)(hR:R.length=4):gV (gV R 0 A) 2 D=A++D:=by
 have h1:gV R 0 A=A++R.drop 2:=by have:=YM (B:=A) (A:=[]) (R:=R) (k:=0) rfl Ω;simpa[hA]using this
 rw[h1,YM (k:=2) hA.symm (by rw[tD];omega),VP (by simp only[tD];omega),iL]
section
variable {S:cZ}
theorem A8(hS:bN S)(p1 p2:Pt)(q:aS 2 Pt.c)(hq:q.l.length<=1000000):∃ q':aS 2 Pt.c,q'.l=p1::(q.l++[p2])/\iA aR S 68 [.slC [.slC [iv p1.x,iv p1.y] 1 2 true,q.v,.slC [iv p2.x,iv p2.y] 1 2 true] 3 1 true] q'.v:=by
 obtain⟨N,hN⟩:=Uv hS (1+q.l.length+1) Ω Ω;have hlen:(p1::(q.l++[p2])).length=1+q.l.length+1:=by simp;omega
 refine⟨iV Pt.aZ (p1::(q.l++[p2])) (1+q.l.length+1) false hlen Ω,rfl,?_⟩;refine Yb (i:=i68) (ns hS) rfl rfl (N+5) fun m hm d ah=>?_;have hg:=hN m Ω d ah [.free] [.free] 0 rfl;have af:∀ aa:aU,aa[0]?=some (.cells ((p1::(q.l++[p2])).flatMap Pt.c))->freeze m d aa (.slM d 0 0 (1+q.l.length+1) (1+q.l.length+1) 2 false)=some (iV Pt.aZ (p1::(q.l++[p2])) (1+q.l.length+1) false hlen Ω).v:=fun aa ho=>yi (k:=1) ZD Ω hlen Pt.aZ ho;have w1:aT .i64 (((1:Nat):Int)+(q.l.length:Int))=((1+q.l.length:Nat):Int):=zbn Ω;have w2:aT .i64 (((1+q.l.length:Nat):Int)+((1:Nat):Int))=((1+q.l.length+1:Nat):Int):=zbn Ω;obtain⟨k,rfl⟩:∃ k,m=k+1+1+1+1:=⟨m-4,Ω⟩;simp only[zg]at hg;have sE:(rep [.int .i64 0,.int .i64 0] (1+q.l.length+1)).length=(1+q.l.length+1)*2:=by rw[ZP];rfl
 generalize rep [.int .i64 0,.int .i64 0] (1+q.l.length+1)=R at hg sE;by_cases h0:q.l.length=0
 ·have hl:q.l=[]:=sr.1 h0;have a1:=fun n0 slot=>zbm (d:=d) (n0:=n0) (sz:=2) (len:=0) (cap:=1+q.l.length+1) (n:=1) (slot:=slot) (ah:=ah) (c:=R) (new:=[.int .i64 p1.x,.int .i64 p1.y]) (J:=[.free]) (tight:=false) Ω Ω Ω Ω rfl;have a3:=fun n0 slot=>zbm (d:=d) (n0:=n0) (sz:=2) (len:=1) (cap:=1+q.l.length+1) (n:=1) (slot:=slot) (ah:=ah) (c:=gV R 0 [.int .i64 p1.x,.int .i64 p1.y]) (new:=[.int .i64 p2.x,.int .i64 p2.y]) (J:=[.free,.free,.free]) (tight:=false) Ω Ω Ω (by rw[za4];omega) rfl;simp only[fO,sY,qw,uP]at a1 a3;simp only[i68,W0,b8,dK,ff,cA,dL,cL,eP,fI,fH,cO,dM,cN,cM,bg,dY,iW,dU,List.replicate,look,mg,iq,bq,bX,pZ,dh,gY,Xb,Xc,Xd,reduceCtorEq,Xe,Kk,Kg,afd,afc,afb,afa,PC (show 0<3 by omega),PB (show 1<3 by omega),PA (show 2<3 by omega),Cg,Cf,Ce,HT,w1,w2,nlt,hg,zh,zk,zo,zw,Y4,a1,MP h0,a3,qw,uP];refine⟨_,rfl,?_⟩;have e:(2:Nat)=1+q.l.length+1:=Ω;have h2:=af [aO.cells (gV (gV R 0 [.int .i64 p1.x,.int .i64 p1.y]) 2 [.int .i64 p2.x,.int .i64 p2.y]),aO.free,aO.free,aO.free] (by
   rw[qU,UF rfl rfl (by rw[sE,h0]),hl];simp [Pt.c,zg])
  rw[show(IV.slM d 0 0 (1+q.l.length+1) (1+q.l.length+1) 2 false)=.slM d 0 0 2 (1+q.l.length+1) 2 false by rw[←e]]at h2;exact h2
 ·have a1:=fun n0 slot=>zbm (d:=d) (n0:=n0) (sz:=2) (len:=0) (cap:=1+q.l.length+1) (n:=1) (slot:=slot) (ah:=ah) (c:=R) (new:=[.int .i64 p1.x,.int .i64 p1.y]) (J:=[.free]) (tight:=false) Ω Ω Ω Ω rfl;have a2:=fun n0 slot=>zbm (d:=d) (n0:=n0) (sz:=2) (len:=1) (cap:=1+q.l.length+1) (n:=q.l.length) (slot:=slot) (ah:=ah) (c:=gV R 0 [.int .i64 p1.x,.int .i64 p1.y]) (new:=q.l.flatMap Pt.c) (J:=[.free,.free]) (tight:=false) h0 Ω Ω (by rw[za4];omega) OQ;have a3:=fun n0 slot=>zbm (d:=d) (n0:=n0) (sz:=2) (len:=1+q.l.length) (cap:=1+q.l.length+1) (n:=1) (slot:=slot) (ah:=ah) (c:=gV (gV R 0 [.int .i64 p1.x,.int .i64 p1.y]) 2 (q.l.flatMap Pt.c)) (new:=[.int .i64 p2.x,.int .i64 p2.y]) (J:=[.free,.free,.free]) (tight:=false) Ω Ω Ω (by rw[za4,za4];omega) rfl;simp only[fO,sY,qw,uP]at a1 a2 a3;simp only[i68,W0,b8,dK,ff,cA,dL,cL,eP,fI,fH,cO,dM,cN,cM,bg,dY,iW,dU,List.replicate,look,mg,iq,bq,bX,pZ,dh,gY,Xb,Xc,Xd,reduceCtorEq,Xe,Kk,Kg,afd,afc,afb,afa,PC (show 0<3 by omega),PB (show 1<3 by omega),PA (show 2<3 by omega),Cg,Cf,Ce,HT,w1,w2,nlt,hg,zh,zk,zo,zw,Y4,a1,a2,a3,qw,uP];refine⟨_,rfl,af _ ?_⟩;rw[qU,filled (n:=q.l.length) rfl rfl (zl Pt.aZ) sE];simp[Pt.c,zg]
end
def mH(p:Pn)(id:Int):Option Ac:=p.az.l.find? fun f=>f.id==id
def dN(p:Pn)(id:Int):Option Nd:=p.ns.l.find? fun f=>f.id==id
def gI(p:Pn)(id:Int):Ac:=(mH p id).getD tF
def cF(p:Pn)(id:Int):Nd:=(dN p id).getD M7
def dJ(p:Pn)(id:Int):Bool:=(mH p id).isSome&&((dN p (gI p id).fr).isSome&&(dN p (gI p id).to).isSome)
def eH(p:Pn)(id:Int):List Pt:=(cF p (gI p id).fr).at'::((gI p id).via.l++[(cF p (gI p id).to).at'])
def bQ(p:Pn):Prop:=∀ f∈p.az.l,f.via.l.length<=100000
theorem aec{p:Pn}(h:bQ p)(id:Int):(gI p id).via.l.length<=100000:=by
 unfold gI;cases hf:mH p id with
 |none=>simp[tF,lP]
 |some a=>exact h a (VS hf)
theorem ZE(q:aS 2 Pt.c)(e:Int):Fz (1+1+1+1) (.tuple [q.v,.int .i64 e]):=by
 refine zbc fun x hx=>?_;simp only[fF,j4,k7]at hx;rcases hx with rfl|rfl
 ·exact z7 ZD q
 ·exact zn.le Ω
section
variable {S:cZ}
theorem Yr(hS:bN S)(p:Pn)(id:Int)(hv:bQ p):∃ q':aS 2 Pt.c,(dJ p id=true->q'.l=eH p id)/\iA aR S 38 [.agg p.c,iv id] (.tuple [q'.v,iv (bif dJ p id then 0 else 7)]):=by
 obtain⟨q1,hq1,N1,h1⟩:=zcj hS p id (fun f hf=>by have:=hv f hf;omega);have PS:q1.l=(gI p id).via.l:=hq1;have hlen:q1.l.length<=100000:=by rw[PS];exact aec hv id
 obtain⟨N2,h2⟩:=Yp hS p (gI p id).fr;obtain⟨N3,h3⟩:=Yp hS p (gI p id).to;obtain⟨q',tU,N4,h4⟩:=A8 hS (cF p (gI p id).fr).at' (cF p (gI p id).to).at' q1 Ω;have c1:=fun m (hm:N1+N2+N3+N4+5<=m) d ah aK aa i=>h1 m Ω d ah aK aa i;have c2:=fun m (hm:N1+N2+N3+N4+5<=m) d ah aK aa i=>h2 m Ω d ah aK aa i;have c3:=fun m (hm:N1+N2+N3+N4+5<=m) d ah aK aa i=>h3 m Ω d ah aK aa i;have c4:=fun m (hm:N1+N2+N3+N4+5<=m) d ah aK aa i=>h4 m Ω d ah aK aa i;have e1:(p.az.l.find? fun f=>f.id==id)=mH p id:=rfl;have e2:((mH p id).getD tF)=gI p id:=rfl;have e3:∀ k:Int,(p.ns.l.find? fun f=>f.id==k)=dN p k:=fun k=>rfl;have e4:∀ k:Int,((dN p k).getD M7)=cF p k:=fun k=>rfl;simp only[e1,e2,e3,e4,zg,Pn.c,Ac.c,Nd.c]at c1 c2 c3 c4;cases b1:(mH p id).isSome
 ·refine⟨lP _ _,by simp[dJ,b1],?_⟩;refine zy (i:=i38) (ns hS) rfl rfl (ZE _ _) (N1+N2+N3+N4+5) Ω fun m hm d ah=>?_;simp only[b1]at c1;simp only[i38,W0,seval,Pn.c,c1 m hm,c2 m hm,c3 m hm,dJ,b1,ew,bL];rfl
 ·cases b2:(dN p (gI p id).fr).isSome
  ·refine⟨lP _ _,by simp[dJ,b2],?_⟩;refine zy (i:=i38) (ns hS) rfl rfl (ZE _ _) (N1+N2+N3+N4+5) Ω fun m hm d ah=>?_;simp only[b1]at c1;simp only[b2]at c2;simp only[i38,W0,seval,Pn.c,c1 m hm,c2 m hm,c3 m hm,dJ,b1,b2,ew,l8,bL];rfl
  ·cases b3:(dN p (gI p id).to).isSome
   ·refine⟨lP _ _,by simp[dJ,b3],?_⟩;refine zy (i:=i38) (ns hS) rfl rfl (ZE _ _) (N1+N2+N3+N4+5) Ω fun m hm d ah=>?_;simp only[b1]at c1;simp only[b2]at c2;simp only[b3]at c3;simp only[i38,W0,seval,Pn.c,c1 m hm,c2 m hm,c3 m hm,dJ,b1,b2,b3,l8,bL];rfl
   ·refine⟨q',fun _=>by rw[tU,PS];rfl,?_⟩;refine zy (i:=i38) (ns hS) rfl rfl (ZE _ _) (N1+N2+N3+N4+5) Ω fun m hm d ah=>?_;simp only[b1]at c1;simp only[b2]at c2;simp only[b3]at c3;simp only[i38,W0,seval,Pn.c,rep,c1 m hm,c2 m hm,c3 m hm,c4 m hm,dJ,b1,b2,b3,bT]
end
theorem MO{d n0 sz z len slot n:Nat}(h:n=0){lk:Nat->Nat->Option aO}{aa:aU}{cs new:List IV}{tight:Bool}:bh d n0 lk aa sz (.slC cs len z tight) new n slot=some (.r,.slC cs len z tight,aa):=by subst h;exact zbk
theorem BM{d n0 sz len slot n:Nat}(h:n≠0){lk:Nat->Nat->Option aO}{aa:aU}{cs new:List IV}(hb:len+n<=1073741824)(hc:cs.length=len*sz) :
  bh d n0 lk aa sz (.slC cs len sz true) new n slot=dU aa (n0+slot) (.cells (cs++new)) (.slM d (n0+slot) 0 (len+n) (len+n) sz false):=by
 unfold bh
 rw[bC h]
 simp only
 rw[bt ⟨by unfold bound;omega,trivial⟩]
 have iP:seg cs 0 (len*sz)=some cs:=by unfold seg;rw[bt Ω,zi,BV,gj Ω]
 simp only[iP,zi]
theorem zY{d n0 sz len slot n i:Nat}(h:n≠0){lk:Nat->Nat->Option aO}{aa:aU}{c new:List IV}(hb:len+n<=1073741824)(hc:c.length=len*sz)(hs:new.all IV.scalar=true)(hl:lk d i=some (.cells c)) :
  bh d n0 lk aa sz (.slM d i 0 len len sz false) new n slot=kW aa i (n0+slot) (.cells (c++new)) (.slM d (n0+slot) 0 (len+n) (len+n) sz false):=by
 unfold bh
 rw[bC h]
 simp only
 rw[bt ⟨by unfold bound;omega,trivial⟩]
 have iP:seg c 0 (len*sz)=some c:=by unfold seg;rw[bt Ω,zi,BV,gj Ω]
 simp only[hl,iP,zi]
 rw[bC Ω]
 simp only[l7,if_false]
 rw[bt ⟨trivial,hs⟩]
section
variable {S:cZ}
theorem zan(hS:bN S)(p:Pn)(a:Ac)(hv:a.via.l.length<=100000):∃ q':aS 2 Pt.c,q'.l=(cF p a.fr).at'::(a.via.l++[(cF p a.to).at']) /\
  iA aR S 87 [.agg p.c,.agg a.c] (.tuple [q'.v,.bool ((dN p a.fr).isSome&&(dN p a.to).isSome)]):=by
 obtain⟨N2,h2⟩:=ZU hS p a.fr
 obtain⟨N3,h3⟩:=ZU hS p a.to
 have hlen:((cF p a.fr).at'::(a.via.l++[(cF p a.to).at'])).length=1+a.via.l.length+1:=by simp;omega
 refine⟨iV Pt.aZ _ (1+a.via.l.length+1) false hlen Ω,rfl,?_⟩
 refine Yb (i:=i87) (ns hS) rfl rfl (N2+N3+5) fun m hm d ah=>?_
 have c2:=h2 m Ω
 have c3:=h3 m Ω
 have e3:∀ k:Int,(p.ns.l.find? fun f=>f.id==k)=dN p k:=fun k=>rfl
 have e4:∀ k:Int,((dN p k).getD M7)=cF p k:=fun k=>rfl
 simp only[e3,e4,zg,Pn.c,Nd.c]at c2 c3
 have af:∀(aa:aU)(i:Nat)(b:Bool),aa[i]?=some (.cells (((cF p a.fr).at'::(a.via.l++[(cF p a.to).at'])).flatMap Pt.c))->freeze m d aa (.tuple [.slM d i 0 (1+a.via.l.length+1) (1+a.via.l.length+1) 2 false,.bool b])=some (.tuple [(iV Pt.aZ _ (1+a.via.l.length+1) false hlen Ω).v,.bool b]):=fun aa i b ho=>by obtain⟨k,rfl⟩:∃ k,m=k+1+1+1:=⟨m-3,Ω⟩;exact zbl (yI (yi (k:=1) ZD Ω hlen Pt.aZ ho) (yI rfl zck))
 by_cases h0:a.via.l.length=0
 ·have hl:a.via.l=[]:=sr.1 h0
  have e:1+a.via.l.length+1=2:=Ω
  have adz:∀(aa:aU)(i:Nat)(b:Bool),aa[i]?=some (.cells (((cF p a.fr).at'::(a.via.l++[(cF p a.to).at'])).flatMap Pt.c))->freeze m d aa (.tuple [.slM d i 0 2 2 2 false,.bool b])=some (.tuple [(iV Pt.aZ _ (1+a.via.l.length+1) false hlen Ω).v,.bool b]):=fun aa i b ho=>by have:=af aa i b ho;rwa [show(IV.slM d i 0 (1+a.via.l.length+1) (1+a.via.l.length+1) 2 false)=.slM d i 0 2 2 2 false by rw[e]]at this
  have a2:=fun n0 slot lk aa=>BM (d:=d) (n0:=n0) (sz:=2) (len:=1) (slot:=slot) (n:=1) Ω (lk:=lk) (aa:=aa) (cs:=[.int .i64 (cF p a.fr).at'.x,.int .i64 (cF p a.fr).at'.y]) (new:=[.int .i64 (cF p a.to).at'.x,.int .i64 (cF p a.to).at'.y]) Ω rfl
  cases b1:(dN p a.fr).isSome<;>cases b2:(dN p a.to).isSome
  all_goals
   simp only[b1]at c2
   simp only[b2]at c3
   simp only[i87,W0,seval,Pn.c,Ac.c,rep,c2,c3,zh,zk,zo,zw,Y4,MO h0,a2]
   refine⟨rfl,?_⟩
   simp only[W0,seval]
   refine⟨_,rfl,?_⟩
   exact adz _ _ _ (by simp[hl,Pt.c,zg])
 ·have a1:=fun n0 slot lk aa=>BM (d:=d) (n0:=n0) (sz:=2) (len:=1) (slot:=slot) (n:=a.via.l.length) h0 (lk:=lk) (aa:=aa) (cs:=[.int .i64 (cF p a.fr).at'.x,.int .i64 (cF p a.fr).at'.y]) (new:=a.via.l.flatMap Pt.c) Ω rfl
  have a2:=fun o0 o1 o2 o3 o4 o5 J slot aa=>zY (d:=d) (n0:=6) (sz:=2) (len:=1+a.via.l.length) (slot:=slot) (n:=1) (i:=6) Ω (lk:=look d ah (b7 [0] 6 (o0::o1::o2::o3::o4::o5::.cells (.int .i64 (cF p a.fr).at'.x::.int .i64 (cF p a.fr).at'.y::a.via.l.flatMap Pt.c)::J))) (aa:=aa) (c:=.int .i64 (cF p a.fr).at'.x::.int .i64 (cF p a.fr).at'.y::a.via.l.flatMap Pt.c)
   (new:=[.int .i64 (cF p a.to).at'.x,.int .i64 (cF p a.to).at'.y]) Ω (by rw[cu,cu,zl Pt.aZ];omega) rfl (by simp[look,zp])
  cases b1:(dN p a.fr).isSome<;>cases b2:(dN p a.to).isSome
  all_goals
   simp only[b1]at c2
   simp only[b2]at c3
   simp only[i87,W0,seval,Pn.c,Ac.c,rep,c2,c3,zh,zk,zo,zw,Y4,a1,a2,kW]
   refine⟨rfl,?_⟩
   simp only[W0,seval]
   refine⟨_,rfl,?_⟩
   exact af _ _ _ (by simp[Pt.c,zg])
theorem YN(hS:bN S)(p:Pn)(id:Int)(hv:bQ p):∃ q':aS 2 Pt.c,(dJ p id=true->q'.l=eH p id)/\iA aR S 171 [.agg p.c,iv id] (.tuple [q'.v,iv (bif dJ p id then 0 else 7)]):=by
 obtain⟨q1,hq1,N1,h1⟩:=Yq hS p id (fun f hf=>by have:=hv f hf;omega);have PS:q1.l=(gI p id).via.l:=hq1;have hlen:q1.l.length<=100000:=by rw[PS];exact aec hv id
 obtain⟨q',tU,N4,h4⟩:=zan hS p { gI p id with via:=q1 } hlen;have c1:=fun m (hm:N1+N4+5<=m) d ah aK aa i=>h1 m Ω d ah aK aa i;have c4:=fun m (hm:N1+N4+5<=m) d ah aK aa i=>h4 m Ω d ah aK aa i;have e1:(p.az.l.find? fun f=>f.id==id)=mH p id:=rfl;have e2:((mH p id).getD tF)=gI p id:=rfl;simp only[e1,e2,zg,Pn.c,Ac.c]at c1 c4;cases b1:(mH p id).isSome
 ·refine⟨lP _ _,by simp[dJ,b1],?_⟩;refine zy (i:=i171) (ns hS) rfl rfl (ZE _ _) (N1+N4+5) Ω fun m hm d ah=>?_;simp only[b1]at c1;simp only[i171,W0,seval,Pn.c,c1 m hm,dJ,b1,ew,bL];rfl
 ·cases b2:(dN p (gI p id).fr).isSome&&(dN p (gI p id).to).isSome
  ·refine⟨lP _ _,by simp[dJ,b2],?_⟩;refine zy (i:=i171) (ns hS) rfl rfl (ZE _ _) (N1+N4+5) Ω fun m hm d ah=>?_;simp only[b1]at c1;simp only[b2]at c4;simp only[i171,W0,seval,Pn.c,c1 m hm,c4 m hm,dJ,b1,b2,l8,bL];rfl
  ·refine⟨q',fun _=>by rw[tU,PS];rfl,?_⟩;refine zy (i:=i171) (ns hS) rfl rfl (ZE _ _) (N1+N4+5) Ω fun m hm d ah=>?_;simp only[b1]at c1;simp only[b2]at c4;simp only[i171,W0,seval,Pn.c,c1 m hm,c4 m hm,dJ,b1,b2,bT]
end
section
variable {S:cZ}
theorem zu{lk:Nat->Nat->Option aO}{x:Int}{tight:Bool}:cB lk 1 (.slC [.int .i64 x] 1 1 tight)=some ([.int .i64 x],1):=by simp[cB,seg,zi]
end
section
variable {α:Type} {g:α->List IV} {sz:Nat}
def cg(g:α->List IV)(sz d k0:Nat)(J:aU)(lv:IV)(xs:List α):Prop:=(xs=[]/\lv=.nilsl)∨∃ b,xs≠[]/\lv=.slM d (k0+b) 0 xs.length xs.length sz false/\J[b]?=some (.cells (xs.flatMap g))
theorem cg.more{d k0:Nat}{J:aU}{lv:IV}{xs:List α}(h:cg g sz d k0 J lv xs)(r:aU):cg g sz d k0 (J++r) lv xs:=by
 rcases h with h|⟨b,hne,h1,h2⟩
 ·exact .inl h
 ·exact .inr ⟨b,hne,h1,by rw[gT (cU.1 h2).1];exact h2⟩
def eX(hs:∀ a,(g a).length=sz)(xs:List α)(hx:xs.length<9223372036854775808):aS sz g:=match xs,hx with
 |[],_=>lP _ _
 |x::t,hx=>iV hs (x::t) (x::t).length false rfl hx
theorem yg(hs:∀ a,(g a).length=sz)(xs:List α)(hx:xs.length<9223372036854775808):(eX hs xs hx).l=xs:=by cases xs<;>rfl
theorem zJ{Pre L:aU}{b:Nat}:(Pre++L)[Pre.length+b]?=L[b]?:=by rw[jd Ω,B4]
theorem z8{Pre L:aU}{b:Nat}{v:aO}:(Pre++L).set (Pre.length+b) v=Pre++L.set b v:=by rw[Fc _ _ Ω,B4]
theorem yK(hs:∀ a,(g a).length=sz)(hf:∀ a,∀ x∈g a,Fz 1 x){d m:Nat}{Pre J:aU}{lv:IV}{xs:List α}(hm:2<=m)(hx:xs.length<9223372036854775808)(h:cg g sz d Pre.length J lv xs):freeze m d (Pre++J) lv=some (eX hs xs hx).v:=by
 rcases h with⟨rfl,rfl⟩|⟨b,hne,rfl,h2⟩
 ·exact Zb m Ω d _
 ·cases xs with
  |nil=>exact absurd rfl hne
  |cons x t=>exact yi (k:=1) hf Ω rfl hs (by rw[zJ];exact h2)
theorem zM(hs:∀ a,(g a).length=sz){d n0 slot k:Nat}{ah:bR}{Pre J R:aU}{lv:IV}{xs ys:List α}(h:cg g sz d Pre.length J lv xs)(hy:ys.length≠0)(hx:xs.length+ys.length<=1073741824)(hk:n0+slot=Pre.length+(J.length+k))(hf:R[k]?=some .free)
  (hsc:(ys.flatMap g).all IV.scalar=true) :
  ∃ e dR J2,bh d n0 (look d ah (Pre++(J++R))) (Pre++(J++R)) sz lv (ys.flatMap g) ys.length slot=some (e,dR,Pre++J2)/\cg g sz d Pre.length J2 dR (xs++ys):=by
 have nP:k<R.length:=(cU.1 hf).1
 have fU:(J++R)[J.length+k]?=some .free:=by rw[jd Ω,B4];exact hf
 have au:J.length+k<(J++R).length:=by rw[eR];omega
 have hne:xs++ys≠[]:=by intro he;exact hy (by rw[(VO.1 he).2];rfl)
 rcases h with⟨rfl,rfl⟩|⟨b,_,rfl,h2⟩
 ·rw[yT hy (by unfold bound;simp at hx;omega)]
  unfold dU
  rw[hk,zJ,fU]
  simp only[zi]
  rw[z8]
  refine⟨_,_,_,rfl,.inr ⟨J.length+k,hne,Ψ,?_⟩⟩
  rw[oa au]
  rfl
 ·have hb:b<J.length:=(cU.1 h2).1
  have fG:(J++R)[b]?=some (.cells (xs.flatMap g)):=by rw[gT hb];exact h2
  rw[zY hy hx (zl hs) hsc (by simp only[look,if_true,zJ];exact fG)]
  unfold kW
  rw[hk,zJ,fU]
  simp only[zi]
  rw[z8,z8]
  refine⟨_,_,_,rfl,.inr ⟨J.length+k,hne,Ψ,?_⟩⟩
  rw[oa (by rw[s6];exact au)]
  simp
end
theorem Be{α β:Type}{g:α->List β}{c:Nat}:∀{l:List α},(∀ x∈l,(g x).length<=c)->(l.flatMap g).length<=l.length*c
 |[],_=>by simp
 |x::l,h=>by rw[fJ,eR,cu,NB];have h1:=h x (kB ..);have h2:=Be (l:=l) fun y hy=>h y (nk _ hy);omega
theorem zcl{α β:Type}{g:α->List β}{l:List α}{i:Nat}{x:α}(hx:l[i]?=some x):(l.take (i+1)).flatMap g=(l.take i).flatMap g++g x:=by rw[lH,hx,rP,B6,fJ,lz,iL]
theorem Ef{t:List IV}{n:Nat}(h:t.length=n):t=(List.range n).map (bH (.tuple []) t):=by
 apply E8;intro i;rw[k9];by_cases hi:i<n
 ·rw[VL hi,gH,z6,mN,cK Ω,tE]
 ·rw[BZ Ω,BZ (by simp;omega),NC]
theorem cg.one{α:Type}{g:α->List IV}{sz d k0:Nat}{J:aU}{lv:IV}{xs:List α}(h:cg g sz d k0 J lv xs):lv.cells=[lv]/\lv.scalar=true:=by rcases h with⟨_,rfl⟩|⟨b,_,rfl,_⟩<;>exact⟨rfl,rfl⟩
theorem TC{d:Nat}{ah:bR}{st:St}:bP d ah st []=some (.tuple []):=dO rfl rfl
theorem Fe{α:Type}{P:α->Nat->Prop}:∀(l:List α),(∀ x∈l,∃ N,∀ m,N<=m->P x m)->∃ N,∀ x∈l,∀ m,N<=m->P x m
 |[],_=>⟨0,fun x hx=>by simp at hx⟩
 |y::l,h=>by
  obtain⟨N1,h1⟩:=h y (kB ..);obtain⟨N2,h2⟩:=Fe l fun x hx=>h x (nk _ hx);refine⟨N1+N2,fun x hx m hm=>?_⟩;rcases fF.1 hx with rfl|hx
  ·exact h1 m Ω
  ·exact h2 x hx m Ω
end
end Go.Proofs.YtdacpmgnhkmnkaaGreatDoor
