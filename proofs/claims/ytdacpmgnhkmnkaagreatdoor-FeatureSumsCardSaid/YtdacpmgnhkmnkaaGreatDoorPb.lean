/-
  A part of the proof: the small machine, its simulation and its walks.
-/
import Derived.Orders
import Derived.LoopN
import Derived.Sort.AssemblyPlain
import Derived.Shelf.SlSortCmp.Insertion
import Derived.Shelf.SlSortCmp.WholeK
import Derived.Shelf.SlSortCmp.NoneTotal
import Derived.Shelf.Slices.In.SortNone
import Derived.Shelf.Sort.Plain
import Derived.Deep.Slices
import Derived.Carry
import Derived.ProofKit
import Derived.Test.YtdacpmgnhkmnkaaGreatDoorProg
import Derived.Test.YtdacpmgnhkmnkaaGreatDoorPa
set_option linter.unusedVariables false
set_option linter.unusedSimpArgs false
set_option maxRecDepth 1000000
set_option maxHeartbeats 3200000
open Nat renaming reduceLT → Xa, reduceAdd → Xb, reduceMul → Xc, reduceLeDiff → Xd, reduceEqDiff → Xe
section
namespace Go.Proofs.YtdacpmgnhkmnkaaGreatDoor
open Go Go.RowKit
section
section
variable {P:Program} {d:Nat} {out:yLM} {t t':List IV} {own own' ownV own1:yLO} {e:Eff} {v:IV} {n0:Nat}
def EffS (d:Nat) (out:yLM) (f:List IObj->List IObj->Res) (sl:Option Nat) (ownV own:yLO) (e:Eff) (v:IV) (own1:yLO):Prop :=
 match e with
 | .p=>own1=own/\∀ oV o,f oV o=some (.p,v,o)
 | .r=>own1=own/\∀ o,f ownV o=some (.r,v,o)
 | .rl l i off n=>own1=own/\∃ c,look d out ownV l i=some (.cells c)/\∀ oV o c',look d out oV l i=some (.cells c')->(∀ k,off<=k->k<off+n->c'[k]?=c[k]?)->f oV o=some (.rl l i off n,v,o)
 | .a=>∃ s O,sl=some s/\own[s]?=some .free/\own1=own.set s O/\∀ o,o[s]?=some .free->f ownV o=some (.a,v,o.set s O)
 | .w l i off n=>l=d/\∃ c xs,own[i]?=some (.cells c)/\xs.length=n/\off+n<=c.length/\own1=own.set i (.cells (wrN c off xs))/\∀ oV,f oV own=some (.w l i off n,v,own1)
 | .k i s=>sl=some s/\∃ O,own1=(own.set i .gone).set s O
 | .x=>True
def CallE (C:Call):Prop:=∀ (d:Nat) (out:yLM) (ownV own:yLO) (id:Nat) (f:FuncId) (args:List IV) (e:Eff) (v:IV) (own1:yLO),C d out ownV own id f args=some (e,v,own1) ->
 EffS d out (fun oV o=>C d out oV o id f args) (some id) ownV own e v own1
theorem Z7 {f:List IObj->List IObj->Res} {id:Nat} {O:IObj} {u:IV} (hf:∀ o,f ownV o=mkAt o id O u) (h:f ownV own=some (e,v,own1)):EffS d out f (some id) ownV own e v own1:=by
 rw [hf] at h
 obtain ⟨h1,rfl,rfl,rfl⟩:=yl h
 refine ⟨id,O,rfl,h1,rfl,fun o ho=>?_⟩
 rw [hf]
 unfold mkAt
 rw [ho]
 simp only [zc]
theorem zas {f:List IObj->List IObj->Res} {sl:Option Nat} {r:Option IV} (hf:∀ oV o,f oV o=r.map fun v=>(.p,v,o)) (h:f ownV own=some (e,v,own1)):EffS d out f sl ownV own e v own1:=by
 rw [hf] at h
 obtain ⟨w,rfl,hw⟩:=map_some h
 cases hw
 exact ⟨rfl,fun oV o=>by rw [hf]; rfl⟩
theorem rdN_agree:∀ {n:Nat} {c c':List IV} {off:Nat},(∀ k,off<=k->k<off+n->c'[k]?=c[k]?)->rdN c' off n=rdN c off n
 | 0,_,_,_,_=>rfl
 | n+1,c,c',off,h=>by
  simp only [rdN]
  rw [h off (zf7 _) (by omega),rdN_agree (n:=n) (off:=off+1) (fun k h1 h2=>h k (by omega) (by omega))]
theorem e_load_eff {agg:Bool} {n:Nat} {x:Opd} {sl:Option Nat} (h:e_load d out ownV own t agg n x=some (e,v,own1)):EffS d out (fun oV o=>e_load d out oV o t agg n x) sl ownV own e v own1:=by
 unfold e_load at h ⊢
 cases hx:ρ t x <;> rw [hx] at h <;> simp only at h <;> first | (simp at h; done) | skip
 case ptrM l i off =>
  split at h
  ·rename_i c hc
   obtain ⟨w,hw,hq⟩:=map_some h
   cases hq
   refine ⟨rfl,c,hc,fun oV o c' hc' hag=>?_⟩
   simp only [hc',rdN_agree hag,hw,zf2]
  ·simp at h
 case ptrC cs off=>exact zas (fun oV o=>rfl) h
theorem e_store_eff {n:Nat} {x y:Opd} {sl:Option Nat} (h:e_store d own t n x y=some (e,v,own1)):EffS d out (fun _ o=>e_store d o t n x y) sl ownV own e v own1:=by
 have h0:=h
 unfold e_store at h
 split at h
 ·rename_i l i off hx
  split at h
  ·rename_i c hc
   split at h
   ·rename_i hh
    obtain ⟨hl,hn,hfit,_⟩:=hh
    cases h
    refine ⟨hl,c,_,hc,hn,hfit,by rw [zc,zc],fun oV=>h0⟩
   ·simp at h
  ·simp at h
 ·simp at h
theorem e_len_eff {k:Nat} {x:Opd} {sl:Option Nat} (h:e_len d out ownV own t k x=some (e,v,own1)):EffS d out (fun oV o=>e_len d out oV o t k x) sl ownV own e v own1:=by
 unfold e_len at h ⊢
 cases hx:ρ t x <;> rw [hx] at h <;> simp only at h <;> first | (simp at h; done) | skip
 case mapM l i =>
  split at h
  ·rename_i hk
   split at h
   ·rename_i ks vs bs clock hc
    cases h
    exact ⟨rfl,fun o=>by simp only [if_pos hk,hc]⟩
   ·simp at h
  ·simp at h
 all_goals
  split at h
  ·rename_i hk
   cases h
   exact ⟨rfl,fun oV o=>by simp only [if_pos hk]⟩
  ·simp at h
theorem e_lookup_eff {zero:IV} {kt:Bool × List Nat} {ok:Bool} {x ix:Opd} {sl:Option Nat} (h:e_lookup d out ownV own t zero kt ok x ix=some (e,v,own1)):EffS d out (fun oV o=>e_lookup d out oV o t zero kt ok x ix) sl ownV own e v own1:=by
 unfold e_lookup at h ⊢
 cases hx:ρ t x <;> rw [hx] at h <;> simp only at h <;> first | (simp at h; done) | skip
 case mapM l i =>
  obtain ⟨⟨e',w⟩,h1,h2⟩:=map_some h
  split at h1
  ·rename_i ks vs bs clock hc
   obtain ⟨w',h3,h4⟩:=map_some h1
   cases h4
   cases h2
   exact ⟨rfl,fun o=>by simp only [hc,h3,zf2]⟩
  ·simp at h1
 all_goals
  obtain ⟨⟨e',w⟩,h1,h2⟩:=map_some h
  obtain ⟨w',h3,h4⟩:=map_some h1
  cases h4
  cases h2
  exact ⟨rfl,fun oV o=>by simp only [h3,zf2]⟩
theorem zcq {sz n slot:Nat} {s:IV} {new:List IV} (h:appendI d n0 (look d out ownV) own sz s new n slot=some (e,v,own1)):EffS d out (fun oV o=>appendI d n0 (look d out oV) o sz s new n slot) (some (n0+slot)) ownV own e v own1:=by
 unfold appendI at h ⊢
 by_cases hn:n=0
 ·rw [if_pos hn] at h
  simp only [if_pos hn]
  split at h <;> first | (simp at h; done) | (cases h; exact ⟨rfl,fun o=>rfl⟩)
 ·rw [if_neg hn] at h
  simp only [if_neg hn]
  cases s <;> simp only at h <;> first | (simp at h; done) | skip
  case nilsl =>
   split at h
   ·rename_i hk
    exact Z7 (fun o=>by simp only [if_pos hk]; rfl) (by simpa only [if_pos hk] using h)
   ·simp at h
  case slC cs len sz0 tight =>
   split at h
   ·rename_i hk
    split at h
    ·rename_i old hold
     exact Z7 (fun o=>by simp only [if_pos hk,hold]; rfl) (by simpa only [if_pos hk,hold] using h)
    ·simp at h
   ·simp at h
  case slM l i off len cap sz0 tight =>
   split at h
   ·rename_i hk
    split at h
    ·rename_i c hc
     split at h
     ·split at h
      ·cases h; trivial
      ·simp at h
     ·rename_i hcap
      split at h
      ·rename_i old hold
       split at h
       ·rename_i htg
        exact Z7 (fun o=>by simp only [if_pos hk,hc,if_neg hcap,hold,if_pos htg]; rfl) (by simpa only [if_pos hk,hc,if_neg hcap,hold,if_pos htg] using h)
       ·split at h
        ·obtain ⟨_,rfl,_,rfl⟩:=zaq h
         exact ⟨rfl,_,rfl⟩
        ·simp at h
      ·simp at h
    ·simp at h
   ·simp at h
theorem q_nilchk {x:Opd}:∃ r:Option IV,∀ o,e_nilchk o t x=r.map fun v=>(.p,v,o):=by
 refine ⟨(e_nilchk [] t x).map (·.2.1),fun o=>?_⟩
 unfold e_nilchk
 first
  | rfl
  | (simp only [zgm]; rfl)
  | (split <;> first | rfl | (simp only [zgm]; rfl) | (split <;> first | rfl | (simp only [zgm]; rfl)))
theorem q_pick {c a b:Opd}:∃ r:Option IV,∀ o,e_pick o t c a b=r.map fun v=>(.p,v,o):=by
 refine ⟨(e_pick [] t c a b).map (·.2.1),fun o=>?_⟩
 unfold e_pick
 first
  | rfl
  | (simp only [zgm]; rfl)
  | (split <;> first | rfl | (simp only [zgm]; rfl) | (split <;> first | rfl | (simp only [zgm]; rfl)))
theorem q_bslice {z:List IV} {sz len:Nat} {ps:List (Nat × Nat × Opd)}:∃ r:Option IV,∀ o,e_bslice o t z sz len ps=r.map fun v=>(.p,v,o):=by
 refine ⟨(e_bslice [] t z sz len ps).map (·.2.1),fun o=>?_⟩
 unfold e_bslice
 first
  | rfl
  | (simp only [zgm]; rfl)
  | (split <;> first | rfl | (simp only [zgm]; rfl) | (split <;> first | rfl | (simp only [zgm]; rfl)))
theorem q_eqagg {neg:Bool} {ks:List Nat} {x y:Opd}:∃ r:Option IV,∀ o,e_eqagg o t neg ks x y=r.map fun v=>(.p,v,o):=by
 refine ⟨(e_eqagg [] t neg ks x y).map (·.2.1),fun o=>?_⟩
 unfold e_eqagg
 first
  | rfl
  | (simp only [zgm]; rfl)
  | (split <;> first | rfl | (simp only [zgm]; rfl) | (split <;> first | rfl | (simp only [zgm]; rfl)))
theorem q_eqb {neg:Bool} {x y:Opd}:∃ r:Option IV,∀ o,e_eqb o t neg x y=r.map fun v=>(.p,v,o):=by
 refine ⟨(e_eqb [] t neg x y).map (·.2.1),fun o=>?_⟩
 unfold e_eqb
 first
  | rfl
  | (simp only [zgm]; rfl)
  | (split <;> first | rfl | (simp only [zgm]; rfl) | (split <;> first | rfl | (simp only [zgm]; rfl)))
theorem q_eqp {neg:Bool} {x y:Opd}:∃ r:Option IV,∀ o,e_eqp o t neg x y=r.map fun v=>(.p,v,o):=by
 refine ⟨(e_eqp [] t neg x y).map (·.2.1),fun o=>?_⟩
 unfold e_eqp
 first
  | rfl
  | (simp only [zgm]; rfl)
  | (split <;> first | rfl | (simp only [zgm]; rfl) | (split <;> first | rfl | (simp only [zgm]; rfl)))
theorem q_eqs {neg:Bool} {x y:Opd}:∃ r:Option IV,∀ o,e_eqs o t neg x y=r.map fun v=>(.p,v,o):=by
 refine ⟨(e_eqs [] t neg x y).map (·.2.1),fun o=>?_⟩
 unfold e_eqs
 first
  | rfl
  | (simp only [zgm]; rfl)
  | (split <;> first | rfl | (simp only [zgm]; rfl) | (split <;> first | rfl | (simp only [zgm]; rfl)))
theorem q_cstr {x:Opd}:∃ r:Option IV,∀ o,e_cstr o t x=r.map fun v=>(.p,v,o):=by
 refine ⟨(e_cstr [] t x).map (·.2.1),fun o=>?_⟩
 unfold e_cstr
 first
  | rfl
  | (simp only [zgm]; rfl)
  | (split <;> first | rfl | (simp only [zgm]; rfl) | (split <;> first | rfl | (simp only [zgm]; rfl)))
theorem q_conv {k:IntKind} {x:Opd}:∃ r:Option IV,∀ o,e_conv o t k x=r.map fun v=>(.p,v,o):=by
 refine ⟨(e_conv [] t k x).map (·.2.1),fun o=>?_⟩
 unfold e_conv
 first
  | rfl
  | (simp only [zgm]; rfl)
  | (split <;> first | rfl | (simp only [zgm]; rfl) | (split <;> first | rfl | (simp only [zgm]; rfl)))
theorem q_faddr {off:Nat} {x:Opd}:∃ r:Option IV,∀ o,e_faddr o t off x=r.map fun v=>(.p,v,o):=by
 refine ⟨(e_faddr [] t off x).map (·.2.1),fun o=>?_⟩
 unfold e_faddr
 first
  | rfl
  | (simp only [zgm]; rfl)
  | (split <;> first | rfl | (simp only [zgm]; rfl) | (split <;> first | rfl | (simp only [zgm]; rfl)))
theorem q_field {agg:Bool} {off n:Nat} {x:Opd}:∃ r:Option IV,∀ o,e_field o t agg off n x=r.map fun v=>(.p,v,o):=by
 refine ⟨(e_field [] t agg off n x).map (·.2.1),fun o=>?_⟩
 unfold e_field
 first
  | rfl
  | (simp only [zgm]; rfl)
  | (split <;> first | rfl | (simp only [zgm]; rfl) | (split <;> first | rfl | (simp only [zgm]; rfl)))
theorem q_iaddr {sz:Nat} {x ix:Opd}:∃ r:Option IV,∀ o,e_iaddr o t sz x ix=r.map fun v=>(.p,v,o):=by
 refine ⟨(e_iaddr [] t sz x ix).map (·.2.1),fun o=>?_⟩
 unfold e_iaddr
 first
  | rfl
  | (simp only [zgm]; rfl)
  | (split <;> first | rfl | (simp only [zgm]; rfl) | (split <;> first | rfl | (simp only [zgm]; rfl)))
theorem q_iaddrA {sz len:Nat} {x ix:Opd}:∃ r:Option IV,∀ o,e_iaddrA o t sz len x ix=r.map fun v=>(.p,v,o):=by
 refine ⟨(e_iaddrA [] t sz len x ix).map (·.2.1),fun o=>?_⟩
 unfold e_iaddrA
 first
  | rfl
  | (simp only [zgm]; rfl)
  | (split <;> first | rfl | (simp only [zgm]; rfl) | (split <;> first | rfl | (simp only [zgm]; rfl)))
theorem q_index {agg:Bool} {sz len:Nat} {x ix:Opd}:∃ r:Option IV,∀ o,e_index o t agg sz len x ix=r.map fun v=>(.p,v,o):=by
 refine ⟨(e_index [] t agg sz len x ix).map (·.2.1),fun o=>?_⟩
 unfold e_index
 first
  | rfl
  | (simp only [zgm]; rfl)
  | (split <;> first | rfl | (simp only [zgm]; rfl) | (split <;> first | rfl | (simp only [zgm]; rfl)))
theorem q_indexS {x ix:Opd}:∃ r:Option IV,∀ o,e_indexS o t x ix=r.map fun v=>(.p,v,o):=by
 refine ⟨(e_indexS [] t x ix).map (·.2.1),fun o=>?_⟩
 unfold e_indexS
 first
  | rfl
  | (simp only [zgm]; rfl)
  | (split <;> first | rfl | (simp only [zgm]; rfl) | (split <;> first | rfl | (simp only [zgm]; rfl)))
theorem q_extract {x:Opd} {i:Nat}:∃ r:Option IV,∀ o,e_extract o t x i=r.map fun v=>(.p,v,o):=by
 refine ⟨(e_extract [] t x i).map (·.2.1),fun o=>?_⟩
 unfold e_extract
 first
  | rfl
  | (simp only [zgm]; rfl)
  | (split <;> first | rfl | (simp only [zgm]; rfl) | (split <;> first | rfl | (simp only [zgm]; rfl)))
theorem q_mx {m:Bool} {x y:Opd}:∃ r:Option IV,∀ o,e_mx o t m x y=r.map fun v=>(.p,v,o):=by
 refine ⟨(e_mx [] t m x y).map (·.2.1),fun o=>?_⟩
 unfold e_mx
 first
  | rfl
  | (simp only [zgm]; rfl)
  | (split <;> first | rfl | (simp only [zgm]; rfl) | (split <;> first | rfl | (simp only [zgm]; rfl)))
theorem q_cap {x:Opd}:∃ r:Option IV,∀ o,e_cap o t x=r.map fun v=>(.p,v,o):=by
 refine ⟨(e_cap [] t x).map (·.2.1),fun o=>?_⟩
 unfold e_cap
 first
  | rfl
  | (simp only [zgm]; rfl)
  | (split <;> first | rfl | (simp only [zgm]; rfl) | (split <;> first | rfl | (simp only [zgm]; rfl)))
end
end
section
section
variable {P:Program} {C:Call} {d:Nat} {out:yLM} {t t':List IV} {own own' ownV own1:yLO} {e:Eff} {v:IV} {n0:Nat}
theorem yR {f:List IObj->Res} {sl:Option Nat} (hq:∃ r:Option IV,∀ o,f o=r.map fun v=>(.p,v,o)) (h:f own=some (e,v,own1)):EffS d out (fun _ o=>f o) sl ownV own e v own1:=by
 obtain ⟨r,hr⟩:=hq
 exact zas (r:=r) (fun _ o=>hr o) h
theorem e_append_eff {z:List IV} {sz slot:Nat} {zeros:Bool} {s x:Opd} (h:e_append d out n0 ownV own t z sz zeros s x slot=some (e,v,own1)):EffS d out (fun oV o=>e_append d out n0 oV o t z sz zeros s x slot) (some (n0+slot)) ownV own e v own1:=by
 unfold e_append at h ⊢
 cases zeros
 ·simp only [zgk,if_false] at h ⊢
  split at h
  ·rename_i new n hc
   have h1:=zcq h
   cases e with
   | p =>
    exfalso
    unfold appendI at h
    revert h
    intro h
    split at h
    ·cases hs:ρ t s <;> rw [hs] at h <;> simp at h
    ·cases hs:ρ t s <;> rw [hs] at h <;> simp only at h <;> first | (simp at h; done) | skip
     ·split at h
      ·cases (yl h).2.1
      ·simp at h
     ·split at h
      ·split at h
       ·split at h
        ·split at h
         ·cases h
         ·simp at h
        ·split at h
         ·split at h
          ·cases (yl h).2.1
          ·split at h
           ·cases (zaq h).2.1
           ·simp at h
         ·simp at h
       ·simp at h
      ·simp at h
     ·split at h
      ·split at h
       ·cases (yl h).2.1
       ·simp at h
      ·simp at h
   | r=>exact ⟨h1.1,fun o=>by simp only [hc]; exact h1.2 o⟩
   | rl l i off k =>
    exfalso
    unfold appendI at h
    revert h
    intro h
    split at h
    ·cases hs:ρ t s <;> rw [hs] at h <;> simp at h
    ·cases hs:ρ t s <;> rw [hs] at h <;> simp only at h <;> first | (simp at h; done) | skip
     ·split at h
      ·cases (yl h).2.1
      ·simp at h
     ·split at h
      ·split at h
       ·split at h
        ·split at h
         ·cases h
         ·simp at h
        ·split at h
         ·split at h
          ·cases (yl h).2.1
          ·split at h
           ·cases (zaq h).2.1
           ·simp at h
         ·simp at h
       ·simp at h
      ·simp at h
     ·split at h
      ·split at h
       ·cases (yl h).2.1
       ·simp at h
      ·simp at h
   | a =>
    obtain ⟨q,O,g1,g2,g3,g4⟩:=h1
    exact ⟨q,O,g1,g2,g3,fun o ho=>by simp only [hc]; exact g4 o ho⟩
   | w l i off k =>
    exfalso
    unfold appendI at h
    revert h
    intro h
    split at h
    ·cases hs:ρ t s <;> rw [hs] at h <;> simp at h
    ·cases hs:ρ t s <;> rw [hs] at h <;> simp only at h <;> first | (simp at h; done) | skip
     ·split at h
      ·cases (yl h).2.1
      ·simp at h
     ·split at h
      ·split at h
       ·split at h
        ·split at h
         ·cases h
         ·simp at h
        ·split at h
         ·split at h
          ·cases (yl h).2.1
          ·split at h
           ·cases (zaq h).2.1
           ·simp at h
         ·simp at h
       ·simp at h
      ·simp at h
     ·split at h
      ·split at h
       ·cases (yl h).2.1
       ·simp at h
      ·simp at h
   | k i s=>exact h1
   | x=>trivial
  ·simp at h
 ·simp only [if_true] at h ⊢
  split at h
  ·rename_i new n hc
   exact zcq h
  ·simp at h
theorem e_mapupd_eff {kt:Bool × List Nat} {m k x:Opd} {sl:Option Nat} (h:e_mapupd d own t kt m k x=some (e,v,own1)):EffS d out (fun _ o=>e_mapupd d o t kt m k x) sl ownV own e v own1:=by
 unfold e_mapupd at h
 split at h
 ·split at h
  ·split at h
   ·split at h
    ·cases h; trivial
    ·cases h; trivial
    ·simp at h
   ·simp at h
  ·simp at h
 ·simp at h
theorem e_box_eff {x:Opd} {slot:Nat} (h:e_box d n0 own t x slot=some (e,v,own1)):EffS d out (fun _ o=>e_box d n0 o t x slot) (some (n0+slot)) ownV own e v own1:=by
 unfold e_box at h ⊢
 split at h
 ·rename_i hk
  simp only [if_pos hk]
  exact Z7 (fun o=>rfl) h
 ·simp at h
theorem e_mslice_eff {z:List IV} {sz len slot:Nat} {ps:List (Nat × Nat × Opd)} (h:e_mslice d n0 own t z sz len ps slot=some (e,v,own1)):EffS d out (fun _ o=>e_mslice d n0 o t z sz len ps slot) (some (n0+slot)) ownV own e v own1:=by
 unfold e_mslice at h ⊢
 cases hf:fillI t (rep z len) ps with
 | none=>rw [hf] at h; simp at h
 | some c =>
  rw [hf] at h
  simp only at h ⊢
  split at h
  ·rename_i hk
   simp only [if_pos hk]
   exact Z7 (fun o=>rfl) h
  ·simp at h
theorem fillAt_x {l i off:Nat} {xs:List IV} {u:IV} (h:fillAt d own l i off xs u=some (e,v,own1)):e=.x:=by
 unfold fillAt at h
 split at h
 ·split at h
  ·cases h; rfl
  ·simp at h
 ·simp at h
theorem clr_x {z:List IV} {sz:Nat} {x:Opd} (h:e_clr d own t z sz x=some (e,v,own1)):e=.x:=by
 unfold e_clr at h
 split at h
 ·cases h; rfl
 ·split at h
  ·cases h; rfl
  ·split at h
   ·exact fillAt_x h
   ·simp at h
 ·simp at h
theorem cpy_x {sz:Nat} {x y:Opd} (h:e_cpy d out ownV own t sz x y=some (e,v,own1)):e=.x:=by
 unfold e_cpy at h
 split at h
 ·split at h
  ·split at h
   ·cases h; rfl
   ·exact fillAt_x h
  ·simp at h
 ·simp at h
theorem e_mks_eff {z:List IV} {sz slot:Nat} {x y:Opd} (h:e_mks d n0 own t z sz x y slot=some (e,v,own1)):EffS d out (fun _ o=>e_mks d n0 o t z sz x y slot) (some (n0+slot)) ownV own e v own1:=by
 unfold e_mks at h ⊢
 split at h
 ·split at h
  ·rename_i hk
   simp only [if_pos hk]
   exact Z7 (fun o=>rfl) h
  ·simp at h
 ·simp at h
theorem ev_eff (hC:CallE C) {iop:IOp} (h:evOp C d out n0 ownV own t iop=some (e,v,own1)):EffS d out (fun oV o=>evOp C d out n0 oV o t iop) (iop.slot?.map (n0+·)) ownV own e v own1:=by
 cases iop <;> simp only [evOp] at h ⊢ <;> try simp only [IOp.slot?,zf2,zg2]
 case mov x=>exact zas (r:=some (ρ t x)) (fun _ o=>rfl) h
 case nilchk=>exact yR q_nilchk h
 case pick=>exact yR q_pick h
 case newv=>exact Z7 (fun o=>rfl) h
 case box=>exact e_box_eff h
 case build z ps=>exact zas (r:=(fillI t z ps).map .agg) (fun _ o=>by simp only [zgm]; rfl) h
 case bslice=>exact yR q_bslice h
 case mslice=>exact e_mslice_eff h
 case load=>exact e_load_eff h
 case store=>exact e_store_eff h
 case bin op x y=>exact zas (r:=binI op (ρ t x) (ρ t y)) (fun _ o=>rfl) h
 case eqagg=>exact yR q_eqagg h
 case eqb=>exact yR q_eqb h
 case eqp=>exact yR q_eqp h
 case eqs=>exact yR q_eqs h
 case un op x=>exact zas (r:=unI op (ρ t x)) (fun _ o=>rfl) h
 case conv=>exact yR q_conv h
 case cstr=>exact yR q_cstr h
 case mkfn f a b=>exact zas (r:=some (.fn f (a.map (ρ t)) (b.map (ρ t)))) (fun _ o=>rfl) h
 case mkmap=>exact Z7 (fun o=>rfl) h
 case slice sz x lo hi mx=>exact zas (r:=sliceI sz t (ρ t x) lo hi mx) (fun _ o=>rfl) h
 case sliceS x lo hi=>exact zas (r:=sliceStr t (ρ t x) lo hi) (fun _ o=>rfl) h
 case faddr=>exact yR q_faddr h
 case field=>exact yR q_field h
 case iaddr=>exact yR q_iaddr h
 case iaddrA=>exact yR q_iaddrA h
 case index=>exact yR q_index h
 case indexS=>exact yR q_indexS h
 case lookup=>exact e_lookup_eff h
 case mapupd=>exact e_mapupd_eff h
 case extract=>exact yR q_extract h
 case call f xs slot =>
  unfold e_call at h ⊢
  split at h
  ·rename_i g first cap hq
   exact hC _ _ _ _ _ _ _ _ _ _ h
  ·simp at h
 case append=>exact e_append_eff h
 case len=>exact e_len_eff h
 case mx=>exact yR q_mx h
 case cap=>exact yR q_cap h
 case clr=>exact clr_x h ▸ trivial
 case cpy=>exact cpy_x h ▸ trivial
 case mks=>exact e_mks_eff h
 case fail=>simp at h
theorem yj {f:List IObj->Res} (hq:∃ r:Option IV,∀ o,f o=r.map fun v=>(.p,v,o)) (h:f own=some (e,v,own1)):e=.p:=by
 obtain ⟨r,hr⟩:=hq
 rw [hr] at h
 obtain ⟨w,_,hw⟩:=map_some h
 cases hw
 rfl
theorem zdf {r:Option IV} (h:(r.map fun v=>(Eff.p,v,own))=some (e,v,own1)):e=.p:=by
 obtain ⟨w,_,hw⟩:=map_some h
 cases hw
 rfl
theorem ev_quiet {iop:IOp} (hq:iop.quiet=true) (h:evOp C d out n0 ownV own t iop=some (e,v,own1)):e=.p:=by
 cases iop <;> simp only [IOp.quiet,zgk] at hq <;> simp only [evOp] at h
 case mov x=>cases h; rfl
 case nilchk=>exact yj q_nilchk h
 case pick=>exact yj q_pick h
 case build z ps=>obtain ⟨_,_,hw⟩:=map_some h; cases hw; rfl
 case bslice=>exact yj q_bslice h
 case bin op x y=>exact zdf h
 case eqagg=>exact yj q_eqagg h
 case eqb=>exact yj q_eqb h
 case eqp=>exact yj q_eqp h
 case eqs=>exact yj q_eqs h
 case un op x=>exact zdf h
 case conv=>exact yj q_conv h
 case cstr=>exact yj q_cstr h
 case mkfn f a b=>cases h; rfl
 case slice sz x lo hi mx=>exact zdf h
 case sliceS x lo hi=>exact zdf h
 case faddr=>exact yj q_faddr h
 case field=>exact yj q_field h
 case iaddr=>exact yj q_iaddr h
 case iaddrA=>exact yj q_iaddrA h
 case index=>exact yj q_index h
 case indexS=>exact yj q_indexS h
 case extract=>exact yj q_extract h
 case mx=>exact yj q_mx h
 case cap=>exact yj q_cap h
 case fail=>simp at h
noncomputable def fR (C:Call) (d:Nat) (out:yLM) (n0:Nat) (o:IOpR) (t:List IV) (oV own:yLO):Res :=
 if wantedI t o.guard then evOp C d out n0 oV own t o.op else some (.p,.tuple [],own)
theorem zat {drawn:Bool} {o:IOpR} {st:St}:stepR C d out drawn n0 o st=(fR C d out n0 o st.t (if drawn then hide o.vis n0 st.own else st.own) st.own).map fun r=>(r.1,⟨put st.t o.dst r.2.1,r.2.2⟩):=by
 unfold stepR fR
 split
 ·split
  ·rename_i e v own1 he
   rw [he]
   rfl
  ·rename_i he
   rw [he]
   rfl
 ·rfl
theorem fR_eff (hC:CallE C) {o:IOpR} (h:fR C d out n0 o t ownV own=some (e,v,own1)):EffS d out (fR C d out n0 o t) (o.op.slot?.map (n0+·)) ownV own e v own1:=by
 unfold fR at h
 split at h
 ·rename_i hw
  have:fR C d out n0 o t=fun oV ow=>evOp C d out n0 oV ow t o.op:=by
   funext oV ow
   unfold fR
   rw [if_pos hw]
  rw [this]
  exact ev_eff hC h
 ·rename_i hw
  cases h
  refine ⟨rfl,fun oV ow=>?_⟩
  unfold fR
  rw [if_neg hw]
theorem fR_quiet {o:IOpR} (hq:o.op.quiet=true) (h:fR C d out n0 o t ownV own=some (e,v,own1)):e=.p:=by
 unfold fR at h
 split at h
 ·exact ev_quiet hq h
 ·cases h; rfl
theorem fR_agree {o:IOpR} (h:Agree t t' o.reads) (hl:t.length=t'.length):fR C d out n0 o t ownV own=fR C d out n0 o t' ownV own:=by
 unfold fR
 have h1:Agree t t' o.op.tmps:=Agree.left h
 have h2:wantedI t o.guard=wantedI t' o.guard:=by
  cases hg:o.guard with
  | none=>rfl
  | some jb =>
   obtain ⟨j,b⟩:=jb
   have h3:=h j (List.mem_append_right _ (by rw [hg]; simp))
   rw [zI,zI] at h3
   simp only [wantedI]
   rw [zf8,zf8] at h3
   by_cases hj:j<t.length
   ·rw [zf0 hj,zf0 (hl ▸ hj)] at h3 ⊢
    simp only [zh7] at h3
    rw [h3]
   ·rw [zig (by omega),zig (by omega)]
 rw [h1.ev,h2]
end
end
section
section
variable {P:Program} {C:Call} {d:Nat} {out:yLM} {t t':List IV} {own own' ownV own1 own2:yLO} {e ej ei:Eff} {v xj xi:IV} {n0:Nat}
theorem zw {vis:List Nat} {k:Nat}:(hide vis n0 own)[k]?=(own[k]?).map fun o=>if k<n0||vis.contains (k - n0) then o else .gone:=by
 unfold hide
 rw [zc,List.getElem?_mapIdx]
theorem y5 {vis:List Nat} {s:Nat} {O:IObj} (h:vis.contains s=false):hide vis n0 (own.set (n0+s) O)=hide vis n0 own:=by
 apply ziu
 intro k
 rw [zw,zw,List.getElem?_set]
 by_cases hk:n0+s=k
 ·subst hk
  have h1:(decide (n0+s<n0)||vis.contains (n0+s - n0))=false:=by
   have h2:n0+s - n0=s:=by omega
   rw [h2,h,decide_eq_false (by omega)]
   rfl
  rw [if_pos rfl]
  simp only [h1,zgk,if_false]
  by_cases hl:n0+s<own.length
  ·rw [if_pos hl,zf0 hl]
   rfl
  ·rw [if_neg hl,zig (by omega)]
 ·rw [if_neg hk]
theorem look_hide_w {vis:List Nat} {l i i' o n o':Nat} {c c2 xs:List IV} (h:look d out (hide vis n0 own) l i=some (.cells c)) (hw:own[i']?=some (.cells c2)) (hf:o'+xs.length<=c2.length)
  (hne:(l==d&&i==i')=false∨o+n<=o'∨o'+xs.length<=o) :
  ∃ c',look d out (hide vis n0 (own.set i' (.cells (wrN c2 o' xs)))) l i=some (.cells c')/\∀ k,o<=k->k<o+n->c'[k]?=c[k]?:=by
 unfold look at h ⊢
 by_cases hl:l=d
 ·rw [if_pos hl] at h ⊢
  rw [zw] at h ⊢
  by_cases hi:i=i'
  ·subst hi
   rw [hw,zf2] at h
   split at h
   ·rename_i hv
    cases h
    have hil:i<own.length:=(zfz.1 hw).1
    refine ⟨_,by rw [zg9 hil,zf2,if_pos hv],fun k h1 h2=>?_⟩
    rw [Zy _ _ _ _ hf,if_neg]
    rcases hne with hne | hne | hne
    ·simp [hl] at hne
    ·omega
    ·omega
   ·cases h
  ·rw [zg6 (Ne.symm hi)]
   exact ⟨c,h,fun k _ _=>rfl⟩
 ·rw [if_neg hl] at h ⊢
  exact ⟨c,h,fun k _ _=>rfl⟩
theorem look_hide_w' {vis:List Nat} {l i i' o n o':Nat} {c c2 xs:List IV} (h:look d out (hide vis n0 (own.set i' (.cells (wrN c2 o' xs)))) l i=some (.cells c)) (hw:own[i']?=some (.cells c2)) (hf:o'+xs.length<=c2.length)
  (hne:(l==d&&i==i')=false∨o+n<=o'∨o'+xs.length<=o) :
  ∃ c',look d out (hide vis n0 own) l i=some (.cells c')/\∀ k,o<=k->k<o+n->c'[k]?=c[k]?:=by
 unfold look at h ⊢
 by_cases hl:l=d
 ·rw [if_pos hl] at h ⊢
  rw [zw] at h ⊢
  by_cases hi:i=i'
  ·subst hi
   have hil:i<own.length:=(zfz.1 hw).1
   rw [zg9 hil,zf2] at h
   split at h
   ·rename_i hv
    cases h
    refine ⟨_,by rw [hw,zf2,if_pos hv],fun k h1 h2=>?_⟩
    rw [Zy _ _ _ _ hf,if_neg]
    rcases hne with hne | hne | hne
    ·simp [hl] at hne
    ·omega
    ·omega
   ·cases h
  ·rw [zg6 (Ne.symm hi)] at h
   exact ⟨c,h,fun k _ _=>rfl⟩
 ·rw [if_neg hl] at h ⊢
  exact ⟨c,h,fun k _ _=>rfl⟩
theorem hide_gone {vis:List Nat} {i j:Nat} (h:j≠i):(hide vis n0 (own.set i .gone))[j]?=(hide vis n0 own)[j]?:=by
 rw [zw,zw,zg6 (Ne.symm h)]
theorem zd7 {vis:List Nat} {l i j:Nat} {c:List IV} (h:j≠i) (hc:look d out (hide vis n0 own) l j=some (.cells c)):look d out (hide vis n0 (own.set i .gone)) l j=some (.cells c):=by
 unfold look at hc ⊢
 by_cases hl:l=d
 ·rw [if_pos hl] at hc ⊢
  rw [hide_gone h]
  exact hc
 ·rw [if_neg hl] at hc ⊢
  exact hc
theorem zd8 {vis:List Nat} {l i j:Nat} {c:List IV} (h:j≠i) (hc:look d out (hide vis n0 (own.set i .gone)) l j=some (.cells c)):look d out (hide vis n0 own) l j=some (.cells c):=by
 unfold look at hc ⊢
 by_cases hl:l=d
 ·rw [if_pos hl] at hc ⊢
  rw [hide_gone h] at hc
  exact hc
 ·rw [if_neg hl] at hc ⊢
  exact hc
theorem swap_f {fj fi:List IObj->List IObj->Res} {sj si:Option Nat} {vj vi:List Nat} (hj:∀ {oV own e v own1},fj oV own=some (e,v,own1)->EffS d out fj (sj.map (n0+·)) oV own e v own1)
  (hi:∀ {oV own e v own1},fi oV own=some (e,v,own1)->EffS d out fi (si.map (n0+·)) oV own e v own1) (c1:∀ s,sj=some s->vi.contains s=false) (c2:∀ s,si=some s->vj.contains s=false)
  (c3:∀ s,sj=some s->si≠some s) (h1:fj (hide vj n0 own) own=some (ej,xj,own1)) (h2:fi (hide vi n0 own1) own1=some (ei,xi,own2)) (hc:comm ej ei=true) :
  ∃ own1',fi (hide vi n0 own) own=some (ei,xi,own1')/\fj (hide vj n0 own1') own1'=some (ej,xj,own2):=by
 have e1:=hj h1
 have e2:=hi h2
 by_cases hpj:ej=.p
 ·subst hpj
  obtain ⟨rfl,g⟩:=e1
  exact ⟨own2,h2,g _ _⟩
 by_cases hpi:ei=.p
 ·subst hpi
  obtain ⟨rfl,g⟩:=e2
  exact ⟨own,g _ _,h1⟩
 have slotj:∀ {s':Nat},sj.map (n0+·)=some s'->∃ s,sj=some s/\s'=n0+s:=fun h=>by
  obtain ⟨s,hs,he⟩:=map_some h
  exact ⟨s,hs,he⟩
 have sloti:∀ {s':Nat},si.map (n0+·)=some s'->∃ s,si=some s/\s'=n0+s:=fun h=>by
  obtain ⟨s,hs,he⟩:=map_some h
  exact ⟨s,hs,he⟩
 cases ej with
 | p=>exact absurd rfl hpj
 | r =>
  obtain ⟨rfl,g⟩:=e1
  cases ei with
  | p=>exact absurd rfl hpi
  | r=>obtain ⟨rfl,_⟩:=e2; exact ⟨_,h2,h1⟩
  | rl l i o n=>obtain ⟨rfl,_⟩:=e2; exact ⟨_,h2,h1⟩
  | a =>
   obtain ⟨s',O,q1,q2,rfl,q4⟩:=e2
   obtain ⟨s,hs,rfl⟩:=sloti q1
   refine ⟨_,h2,?_⟩
   rw [y5 (c2 s hs)]
   exact g _
  | w l i o n=>simp [comm] at hc
  | k i s=>simp [comm] at hc
  | x=>simp [comm] at hc
 | rl l i o n =>
  obtain ⟨rfl,c,hc1,g⟩:=e1
  cases ei with
  | p=>exact absurd rfl hpi
  | r=>obtain ⟨rfl,_⟩:=e2; exact ⟨_,h2,h1⟩
  | rl l i o n=>obtain ⟨rfl,_⟩:=e2; exact ⟨_,h2,h1⟩
  | a =>
   obtain ⟨s',O,q1,q2,rfl,q4⟩:=e2
   obtain ⟨s,hs,rfl⟩:=sloti q1
   refine ⟨_,h2,?_⟩
   rw [y5 (c2 s hs)]
   exact g _ _ c hc1 (fun _ _ _=>rfl)
  | w l' i' o' n' =>
   obtain ⟨rfl,c2',xs,q1,rfl,q3,rfl,q5⟩:=e2
   have hne:(l==l'&&i==i')=false∨o+n<=o'∨o'+xs.length<=o:=by
    simp only [comm,zha,zhs,decide_eq_true_eq] at hc
    rcases hc with (hc | hc) | hc
    ·exact .inl hc
    ·exact .inr (.inl hc)
    ·exact .inr (.inr hc)
   obtain ⟨c',hc',hag⟩:=look_hide_w (n:=n) hc1 q1 q3 hne
   exact ⟨_,q5 _,g _ _ c' hc' hag⟩
  | k i' s' =>
   obtain ⟨q1,O,rfl⟩:=e2
   obtain ⟨s,hs,rfl⟩:=sloti q1
   have hne:i≠i':=by simpa [comm] using hc
   refine ⟨_,h2,g _ _ c ?_ (fun _ _ _=>rfl)⟩
   rw [y5 (c2 s hs)]
   exact zd7 hne hc1
  | x=>simp [comm] at hc
 | a =>
  obtain ⟨s',O,q1,q2,rfl,q4⟩:=e1
  obtain ⟨s,hs,rfl⟩:=slotj q1
  cases ei with
  | p=>exact absurd rfl hpi
  | r =>
   obtain ⟨rfl,g⟩:=e2
   rw [y5 (c1 s hs)] at g
   exact ⟨_,g _,h1⟩
  | rl l i o n =>
   obtain ⟨rfl,c,hc1,g⟩:=e2
   rw [y5 (c1 s hs)] at hc1
   exact ⟨_,g _ _ c hc1 (fun _ _ _=>rfl),h1⟩
  | a =>
   obtain ⟨s2',O2,r1,r2,rfl,r4⟩:=e2
   obtain ⟨s2,hs2,rfl⟩:=sloti r1
   rw [y5 (c1 s hs)] at r4
   have hne:s≠s2:=fun h=>c3 s hs (h ▸ hs2)
   have hne':n0+s≠n0+s2:=by omega
   rw [zg6 hne'] at r2
   refine ⟨_,r4 _ r2,?_⟩
   rw [y5 (c2 s2 hs2),List.set_comm _ _ hne']
   exact q4 _ (by rw [zg6 (Ne.symm hne')]; exact q2)
  | w l i o n=>simp [comm] at hc
  | k i s=>simp [comm] at hc
  | x=>simp [comm] at hc
 | w l i o n =>
  cases ei with
  | p=>exact absurd rfl hpi
  | rl l' i' o' n' =>
   obtain ⟨rfl,c2',xs,q1,rfl,q3,rfl,q5⟩:=e1
   obtain ⟨rfl,c,hc1,g⟩:=e2
   have hne:(l'==l&&i'==i)=false∨o'+n'<=o∨o+xs.length<=o':=by
    simp only [comm,zha,zhs,decide_eq_true_eq] at hc
    rcases hc with (hc | hc) | hc
    ·refine .inl ?_
     simp only [Bool.and_eq_false_iff,beq_eq_false_iff_ne] at hc ⊢
     exact hc.imp (fun h=>Ne.symm h) (fun h=>Ne.symm h)
    ·exact .inr (.inr hc)
    ·exact .inr (.inl hc)
   obtain ⟨c',hc',hag⟩:=look_hide_w' (n:=n') hc1 q1 q3 hne
   exact ⟨_,g _ _ c' hc' hag,h1⟩
  | _=>simp [comm] at hc
 | k i s' =>
  obtain ⟨q1,O,rfl⟩:=e1
  obtain ⟨s,hs,rfl⟩:=slotj q1
  cases ei with
  | p=>exact absurd rfl hpi
  | rl l i2 o n =>
   obtain ⟨rfl,c,hc1,g⟩:=e2
   have hne:i2≠i:=by simpa [comm] using hc
   rw [y5 (c1 s hs)] at hc1
   exact ⟨_,g _ _ c (zd8 hne hc1) (fun _ _ _=>rfl),h1⟩
  | _=>simp [comm] at hc
 | x=>cases ei <;> first | exact absurd rfl hpi | simp [comm] at hc
structure Loose (oj oi:IOpR):Prop where
 apart:apartI oj oi=true
 c1:∀ s,oj.op.slot?=some s->oi.vis.contains s=false
 c2:∀ s,oi.op.slot?=some s->oj.vis.contains s=false
 c3:∀ s,oj.op.slot?=some s->oi.op.slot?≠some s
theorem put_len {dst:Option Nat} {v:IV}:(put t dst v).length=t.length:=by
 cases dst with
 | none=>rfl
 | some i=>rw [zN,zid]
theorem put_agree {dst:Option Nat} {v:IV} {l:List Nat} (h:∀ x,dst=some x->x ∉ l):Agree t (put t dst v) l:=fun i hi=>by
 cases dst with
 | none=>rfl
 | some x =>
  rw [zN,zI,zI,zf8,zf8,zg6]
  intro hx
  exact h x rfl (hx ▸ hi)
theorem put_comm {d1 d2:Option Nat} {v1 v2:IV} (h:∀ x,d1=some x->d2≠some x):put (put t d1 v1) d2 v2=put (put t d2 v2) d1 v1:=by
 cases d1 with
 | none=>rfl
 | some x =>
  cases d2 with
  | none=>rfl
  | some y =>
   rw [zN,zN,zN,zN,List.set_comm]
   intro hx
   exact h x rfl (by rw [hx])
theorem Loose.apart' {oj oi:IOpR} (h:Loose oj oi):(∀ x,oj.dst=some x->x ∉ oi.reads/\oi.dst≠some x)/\∀ x,oi.dst=some x->x ∉ oj.reads:=by
 have ha:=h.apart
 unfold apartI at ha
 rw [zf6] at ha
 constructor
 ·intro x hx
  have h1:=ha.1
  rw [hx] at h1
  simp only [zf6,zhs,bne_iff_ne] at h1
  exact ⟨fun hm=>by simp at h1; exact h1.1 hm,h1.2⟩
 ·intro x hx
  have h1:=ha.2
  rw [hx] at h1
  simp only [zhs] at h1
  exact fun hm=>by simp at h1; exact h1 hm
theorem swapR (hC:CallE C) {oj oi:IOpR} {st st1 st2:St} (hl:Loose oj oi) (h1:stepR C d out true n0 oj st=some (ej,st1)) (h2:stepR C d out true n0 oi st1=some (ei,st2)) (hc:comm ej ei=true) :
  ∃ st1',stepR C d out true n0 oi st=some (ei,st1')/\stepR C d out true n0 oj st1'=some (ej,st2):=by
 obtain ⟨a1,a2⟩:=hl.apart'
 rw [zat] at h1 h2
 obtain ⟨⟨e1,v1,o1⟩,g1,k1⟩:=map_some h1
 cases k1
 obtain ⟨⟨e2,v2,o2⟩,g2,k2⟩:=map_some h2
 cases k2
 simp only [if_true] at g1 g2
 have ag:∀ oV o,fR C d out n0 oi (put st.t oj.dst v1) oV o=fR C d out n0 oi st.t oV o:=fun oV o =>
  (fR_agree (put_agree fun x hx=>(a1 x hx).1) put_len.symm).symm
 rw [ag] at g2
 obtain ⟨o1',r1,r2⟩:=swap_f (fj:=fR C d out n0 oj st.t) (fi:=fR C d out n0 oi st.t) (sj:=oj.op.slot?) (si:=oi.op.slot?) (fun h=>fR_eff hC h) (fun h=>fR_eff hC h) hl.c1 hl.c2 hl.c3 g1 g2 hc
 refine ⟨⟨put st.t oi.dst v2,o1'⟩,?_,?_⟩
 ·rw [zat]
  simp only [if_true]
  rw [r1]
  rfl
 ·rw [zat]
  simp only [if_true]
  rw [← fR_agree (put_agree a2) put_len.symm,r2]
  simp only [zf2,zf5,zic,true_and]
  rw [put_comm fun x hx=>(a1 x hx).2]
end
inductive Runs (C:Call) (d:Nat) (out:yLM) (n0:Nat) (l:List IOpR) (es:List Eff):List Nat->St->St->Prop where
 | nil (st:St):Runs C d out n0 l es [] st st
 | cons {i:Nat} {is:List Nat} {o:IOpR} {e:Eff} {st st1 st2:St} (ho:l[i]?=some o) (he:es[i]?=some e) (hs:stepR C d out true n0 o st=some (e,st1)) (hr:Runs C d out n0 l es is st1 st2):Runs C d out n0 l es (i::is) st st2
section
variable {C:Call} {d:Nat} {out:yLM} {n0:Nat} {l:List IOpR} {es:List Eff}
theorem Runs.front (hC:CallE C) {i:Nat} {post:List Nat}:∀ {pre:List Nat} {st st2:St},(∀ j∈pre,∀ (oj oi:IOpR) (ej ei:Eff),l[j]?=some oj->l[i]?=some oi->es[j]?=some ej->es[i]?=some ei->Loose oj oi/\comm ej ei=true)->Runs C d out n0 l es (pre++i::post) st st2->Runs C d out n0 l es (i::(pre++post)) st st2
 | [],st,st2,_,h=>h
 | j::pre,st,st2,hp,h=>by
  cases h with
  | cons ho he hs hr =>
   have ih:=Runs.front hC (fun k hk=>hp k (zgn _ hk)) hr
   cases ih with
   | cons ho2 he2 hs2 hr2 =>
    obtain ⟨hl,hc⟩:=hp j (zgi ..) _ _ _ _ ho ho2 he he2
    obtain ⟨st',q1,q2⟩:=swapR hC hl hs hs2 hc
    exact .cons ho2 he2 q1 (.cons ho he q2 hr2)
end
end
section
def Fits (P:Program) (ops:Array Oper) (o:Oper) (r:IOpR):Prop:=r.dst=o.dst/\(∃ slot,cOp P o.op slot=some r.op)/\cGuard ops o.guard=some r.guard
section
variable {P:Program} {ops:Array Oper} {B:Nat} {W0:World} {C:Call} {d:Nat} {out:yLM} {n0:Nat} {Q:Exit->Act->World->Prop}
theorem zd9:∀ {L:List Oper} {s s':Nat} {l:List IOpR},cOps P ops L s=some (l,s')->l.length=L.length/\∀ (i:Nat) (o:Oper),L[i]?=some o->∃ r,l[i]?=some r/\Fits P ops o r
 | [],s,s',l,h=>by
  simp only [cOps,zf5,zic] at h
  obtain ⟨rfl,rfl⟩:=h
  exact ⟨rfl,fun i o h=>by simp at h⟩
 | o::rest,s,s',l,h=>by
  simp only [cOps] at h
  split at h
  ·rename_i op g h1 h2
   split at h
   ·rename_i l2 s2 h3
    cases h
    obtain ⟨q1,q2⟩:=zd9 h3
    refine ⟨by simp [q1],fun i o' hi=>?_⟩
    cases i with
    | zero =>
     simp only [zg8,zf5] at hi
     subst hi
     exact ⟨_,rfl,rfl,⟨s,h1⟩,h2⟩
    | succ i =>
     simp only [zgc] at hi ⊢
     exact q2 i o' hi
   ·simp at h
  ·simp at h
theorem text_wp (hC:CallOK P B W0 C):∀ (L:List Oper) (l:List IOpR) (k:Nat) (st st':St) (es:List Eff) (a:Act) (W:World) (β:Pl),(∀ j,L[j]?=ops[k+j]?)->l.length=L.length->(∀ (i:Nat) (o:Oper),L[i]?=some o->∃ r,l[i]?=some r/\Fits P ops o r) ->
  runR C d out false n0 l st=some (es,st')->Base B W0 β W->TR β W st.t a.tmps->RS β (look d out st.own) W ->
  (∀ (β':Pl) (W':World) (a':Act),TR β' W' st'.t a'.tmps->RS β' (look d out st'.own) W'->Fr d β W β' W'->a'.defers=a.defers->Q .normal a' W')->wpOps P ops Q (List.range' k L.length) a W
 | [],l,k,st,st',es,a,W,β,hL,hl,hf,hs,hb,ht,hR,hQ=>by
  have:l=[]:=by simpa using hl
  subst this
  simp only [runR,zf5,zic] at hs
  obtain ⟨_,rfl⟩:=hs
  simp only [zgb,List.range'_zero,wpOps]
  exact hQ β W a ht hR (Fr.refl _ _ _) rfl
 | o::L,l,k,st,st',es,a,W,β,hL,hl,hf,hs,hb,ht,hR,hQ=>by
  cases l with
  | nil=>simp at hl
  | cons r l =>
   obtain ⟨r',hr,hfit⟩:=hf 0 o rfl
   simp only [zg8,zf5] at hr
   subst hr
   obtain ⟨h1,⟨slot,h2⟩,h3⟩:=hfit
   simp only [runR] at hs
   split at hs
   ·rename_i e st1 he
    split at hs
    ·rename_i es2 st2 hr2
     cases hs
     rw [zf3,List.range'_succ,wpOps_cons]
     have hok:ops[k]?=some o:=by simpa using (hL 0).symm
     refine op_wp hC hb hok h1 h2 h3 ht hR he fun β1 W1 a1 g1 g2 g3 g4=>?_
     refine text_wp hC L l (k+1) st1 st' es2 a1 W1 β1 (fun j=>?_) (by simpa using hl) (fun i o' hi=>?_) hr2 (hb.fr g3) g1 g2 (fun β2 W2 a2 k1 k2 k3 k4=>hQ β2 W2 a2 k1 k2 (g3.trans k3) (k4.trans g4))
     ·have:=hL (j+1)
      rw [zgc] at this
      rw [this]
      congr 1
      omega
     ·obtain ⟨r2,q1,q2⟩:=hf (i+1) o' (by simpa using hi)
      exact ⟨r2,by simpa using q1,q2⟩
    ·simp at hs
   ·simp at hs
theorem before_spec {b:Array Nat} {o:Oper} {j:Nat} (h:(beforeOne b o).testBit j=true):∃ e∈o.after,Region.binds .any e=true/\(e.on=j∨(b.getD e.on 0).testBit j=true):=by
 have key:∀ (l:List Edge) (s:Nat),(l.foldl (fun s e=>if Region.binds .any e then s ||| 2 ^ e.on ||| b.getD e.on 0 else s) s).testBit j=true->s.testBit j=true∨∃ e∈l,Region.binds .any e=true/\(e.on=j∨(b.getD e.on 0).testBit j=true):=by
  intro l
  induction l with
  | nil=>intro s h; exact .inl h
  | cons e l ih =>
   intro s h
   rw [List.foldl_cons] at h
   rcases ih _ h with h | ⟨e',h1,h2⟩
   ·by_cases hb:Region.binds .any e=true
    ·rw [if_pos hb] at h
     rw [Nat.testBit_or,Nat.testBit_or,zha,zha] at h
     rcases h with (h | h) | h
     ·exact .inl h
     ·exact .inr ⟨e,zgi ..,hb,.inl (by rw [Nat.testBit_two_pow] at h; simpa using h)⟩
     ·exact .inr ⟨e,zgi ..,hb,.inr h⟩
    ·rw [if_neg hb] at h
     exact .inl h
   ·exact .inr ⟨e',zgn _ h1,h2⟩
 unfold beforeOne at h
 rw [← Array.foldl_toList] at h
 rcases key _ _ h with h | ⟨e,h1,h2⟩
 ·simp at h
 ·exact ⟨e,Array.mem_toList_iff.1 h1,h2⟩
structure RegOK (P:Program) (ops:Array Oper) (b:Array Nat) (l:List IOpR) (es:List Eff):Prop where
 len:l.length=ops.size
 fit:∀ (i:Nat) (o:Oper),ops[i]?=some o->∃ r,l[i]?=some r/\Fits P ops o r
 loose:∀ (j i:Nat) (oj oi:IOpR) (ej ei:Eff),j<i->(b.getD i 0).testBit j=false->l[j]?=some oj->l[i]?=some oi->es[j]?=some ej->es[i]?=some ei->Loose oj oi/\comm ej ei=true
 back:∀ (i:Nat) (o:Oper),ops[i]?=some o->∀ e∈o.after,Region.binds .any e=true->e.on<i
 bit:∀ (i:Nat) (o:Oper),ops[i]?=some o->b.getD i 0=beforeOne b o
def rest (n:Nat) (listed:Array Bool):List Nat:=(List.range n).filter fun i=>!listed.getD i true
theorem yI {n i:Nat} {listed:Array Bool}:i∈rest n listed↔i<n/\listed.getD i true=false:=by
 unfold rest
 simp
theorem getD_set {listed:Array Bool} {i k:Nat} {z:Bool} (hi:i<listed.size):(listed.setIfInBounds i true).getD k z=if k=i then true else listed.getD k z:=by
 by_cases hk:k=i
 ·subst hk
  rw [if_pos rfl]
  simp [Array.getD,hi]
 ·rw [if_neg hk]
  simp only [Array.getD_eq_getD_getElem?]
  rw [Array.getElem?_setIfInBounds_ne (Ne.symm hk)]
theorem rest_set {n i:Nat} {listed:Array Bool} (hi:i<listed.size):rest n (listed.setIfInBounds i true)=(rest n listed).filter fun k=>k != i:=by
 unfold rest
 rw [List.filter_filter]
 congr 1
 funext k
 rw [getD_set hi]
 by_cases hk:k=i
 ·simp [hk]
 ·simp [hk]
theorem rest_split {n i:Nat} {listed:Array Bool} (h:i∈rest n listed):∃ pre post,rest n listed=pre++i::post/\(∀ j∈pre,j<i)/\((rest n listed).filter fun k=>k != i)=pre++post:=by
 obtain ⟨pre,post,hp⟩:=List.append_of_mem h
 have hs:(rest n listed).Pairwise (·<·):=List.Pairwise.filter _ List.pairwise_lt_range
 rw [hp] at hs
 rw [List.pairwise_append] at hs
 obtain ⟨h1,h2,h3⟩:=hs
 rw [zib] at h2
 refine ⟨pre,post,hp,fun j hj=>h3 j hj i (zgi ..),?_⟩
 rw [hp,List.filter_append,List.filter_cons]
 have g1:pre.filter (fun k=>k != i)=pre:=List.filter_eq_self.2 fun j hj=>by
  have:=h3 j hj i (zgi ..)
  simp; omega
 have g2:post.filter (fun k=>k != i)=post:=List.filter_eq_self.2 fun j hj=>by
  have:=h2.1 j hj
  simp; omega
 rw [g1,g2]
 simp
theorem any_wp (hC:CallOK P B W0 C) (hE:CallE C) {b:Array Nat} {l:List IOpR} {es:List Eff} (ok:RegOK P ops b l es):∀ (fuel:Nat) (listed:Array Bool) (st st':St) (a:Act) (W:World) (β:Pl),listed.size=ops.size->(rest ops.size listed).length=fuel ->
  (∀ (i j:Nat),listed.getD i false=true->(b.getD i 0).testBit j=true->listed.getD j false=true)->Runs C d out n0 l es (rest ops.size listed) st st'->Base B W0 β W->TR β W st.t a.tmps->RS β (look d out st.own) W ->
  (∀ (β':Pl) (W':World) (a':Act),TR β' W' st'.t a'.tmps->RS β' (look d out st'.own) W'->Fr d β W β' W'->a'.defers=a.defers->Q .normal a' W')->wpAny P .any ops Q fuel listed a W
 | 0,listed,st,st',a,W,β,hsz,hfu,hcl,hr,hb,ht,hR,hQ=>by
  have hn:rest ops.size listed=[]:=zhd.1 hfu
  rw [hn] at hr
  cases hr
  refine ⟨?_,hQ β W a ht hR (Fr.refl _ _ _) rfl⟩
  unfold Region.ready
  rw [List.filter_eq_nil_iff]
  intro i hi
  have h1:i ∉ rest ops.size listed:=by rw [hn]; simp
  rw [yI] at h1
  simp only [zht] at hi
  have h2:listed.getD i true=true:=by
   cases h:listed.getD i true
   ·exact absurd ⟨hi,h⟩ h1
   ·rfl
  rw [h2]
  simp
 | fuel+1,listed,st,st',a,W,β,hsz,hfu,hcl,hr,hb,ht,hR,hQ=>by
  constructor
  ·intro hnil
   exfalso
   cases hre:rest ops.size listed with
   | nil=>rw [hre] at hfu; simp at hfu
   | cons i is =>
    have hi:i∈rest ops.size listed:=by rw [hre]; exact zgi ..
    have hlt:∀ j,j<i->listed.getD j false=true:=by
     intro j hj
     have h1:i<ops.size:=(yI.1 hi).1
     have hs:(rest ops.size listed).Pairwise (·<·):=List.Pairwise.filter _ List.pairwise_lt_range
     rw [hre,zib] at hs
     have h2:j ∉ rest ops.size listed:=by
      rw [hre]
      intro hm
      rcases zgf.1 hm with rfl | hm
      ·omega
      ·have:=hs.1 j hm; omega
     rw [yI] at h2
     have hjs:j<listed.size:=by omega
     simp only [Array.getD,hjs,dif_pos] at h2 ⊢
     cases h:listed[j]
     ·exact absurd ⟨by omega,h⟩ h2
     ·exact h
    have h1:i∈Region.ready .any ops listed:=by
     unfold Region.ready
     rw [zif]
     refine ⟨zht.2 (yI.1 hi).1,?_⟩
     rw [(yI.1 hi).2,Array.getElem?_eq_getElem (yI.1 hi).1]
     simp only [zf2,zh7,zh6,zhj,Array.all_eq_true_iff_forall_mem,zha,zhs]
     intro e he
     cases hb:Region.binds .any e
     ·exact .inl rfl
     ·exact .inr (hlt _ (ok.back i _ (Array.getElem?_eq_getElem (yI.1 hi).1) e he hb))
    rw [hnil] at h1
    simp at h1
  ·intro i hi
   unfold Region.ready at hi
   rw [zif] at hi
   obtain ⟨hi1,hi2⟩:=hi
   rw [zht] at hi1
   rw [zf6] at hi2
   obtain ⟨hi2,hi3⟩:=hi2
   have hin:i∈rest ops.size listed:=yI.2 ⟨hi1,by simpa using hi2⟩
   have hio:ops[i]?=some ops[i]:=Array.getElem?_eq_getElem hi1
   rw [hio] at hi3
   simp only [zf2,zh7,Array.all_eq_true_iff_forall_mem,zha,zhs] at hi3
   have hbits:∀ j,(b.getD i 0).testBit j=true->listed.getD j false=true:=by
    intro j hj
    rw [ok.bit i _ hio] at hj
    obtain ⟨e,he,hbd,hh⟩:=before_spec hj
    have h1:listed.getD e.on false=true:=(hi3 e he).resolve_left (by rw [hbd]; simp)
    rcases hh with rfl | hh
    ·exact h1
    ·exact hcl _ _ h1 hh
   obtain ⟨pre,post,hsp,hlt,hfil⟩:=rest_split hin
   rw [hsp] at hr
   have hfr:=Runs.front hE (fun j hj oj oi ej ei h1 h2 h3 h4=>ok.loose j i oj oi ej ei (hlt j hj) (by
    cases hb:(b.getD i 0).testBit j
    ·rfl
    ·have h5:=hbits j hb
     have h6:j∈rest ops.size listed:=by rw [hsp]; exact zil _ hj
     rw [yI] at h6
     have hjs:j<listed.size:=by omega
     simp only [Array.getD,hjs,dif_pos] at h5 h6
     rw [h5] at h6
     simp at h6) h1 h2 h3 h4) hr
   cases hfr with
   | cons ho he hs hr2 =>
    rename_i r e st1
    obtain ⟨r',hr',g1,⟨slot,g2⟩,g3⟩:=ok.fit i _ hio
    rw [ho] at hr'
    cases hr'
    have hil:i<listed.size:=by omega
    refine op_wp hC hb hio g1 g2 g3 ht hR hs fun β1 W1 a1 k1 k2 k3 k4=>?_
    have hrest:rest ops.size (listed.setIfInBounds i true)=pre++post:=by rw [rest_set hil,hfil]
    refine any_wp hC hE ok fuel _ st1 st' a1 W1 β1 (by simpa using hsz) ?_ ?_ (by rw [hrest]; exact hr2) (hb.fr k3) k1 k2 (fun β2 W2 a2 q1 q2 q3 q4=>hQ β2 W2 a2 q1 q2 (k3.trans q3) (q4.trans k4))
    ·rw [hrest]
     rw [hsp] at hfu
     simp only [zga,zf3] at hfu ⊢
     omega
    ·intro i' j' h1 h2
     rw [getD_set hil] at h1 ⊢
     by_cases hj:j'=i
     ·rw [if_pos hj]
     ·rw [if_neg hj]
      by_cases hii:i'=i
      ·subst hii
       exact hbits j' h2
      ·rw [if_neg hii] at h1
       exact hcl i' j' h1 h2
theorem zcr {l:List IOpR} {es:List Eff}:∀ {l':List IOpR} {es':List Eff} {k:Nat} {st st':St},(∀ j,l'[j]?=l[k+j]?)->(∀ j,es'[j]?=es[k+j]?)->runR C d out true n0 l' st=some (es',st')->Runs C d out n0 l es (List.range' k l'.length) st st'
 | [],es',k,st,st',hl,he,h=>by
  simp only [runR,zf5,zic] at h
  obtain ⟨rfl,rfl⟩:=h
  exact .nil _
 | r::l',es',k,st,st',hl,he,h=>by
  simp only [runR] at h
  split at h
  ·rename_i e st1 h1
   split at h
   ·rename_i es2 st2 h2
    cases h
    rw [zf3,List.range'_succ]
    refine .cons (by simpa using (hl 0).symm) (by simpa using (he 0).symm) h1 (zcr (fun j=>?_) (fun j=>?_) h2)
    ·have:=hl (j+1)
     rw [zgc] at this
     rw [this]; congr 1; omega
    ·have:=he (j+1)
     rw [zgc] at this
     rw [this]; congr 1; omega
   ·simp at h
  ·simp at h
end
end
section
section
variable {P:Program} {ops:Array Oper} {B:Nat} {W0:World} {C:Call} {d:Nat} {out:yLM} {n0:Nat}
theorem zea {x y:IOpR} (h1:apartI x y=true) (h2:slotApart x y=true):Loose x y:=by
 unfold slotApart at h2
 rw [zf6] at h2
 refine ⟨h1,fun s hs=>?_,fun s hs=>?_,fun s hs=>?_⟩
 ·have:=h2.1
  rw [hs] at this
  simp only [zf6,zhs] at this
  exact this.1
 ·have:=h2.2
  rw [hs] at this
  simpa using this
 ·have:=h2.1
  rw [hs] at this
  simp only [zf6,bne_iff_ne] at this
  exact this.2
theorem mem_pairs {n j i:Nat} (h:j<i) (hi:i<n):(j,i)∈pairs n:=by
 unfold pairs
 rw [zh1]
 exact ⟨i,zht.2 hi,zgx.2 ⟨j,zht.2 h,rfl⟩⟩
theorem withVis_get {b:Array Nat} {l:List IOpR} {i:Nat} {r:IOpR} (h:l[i]?=some r):∃ v,(withVis b l)[i]?=some { r with vis:=v }:=by
 unfold withVis
 rw [List.getElem?_mapIdx,h]
 exact ⟨_,rfl⟩
theorem zeb {drawn:Bool}:∀ {l:List IOpR} {es:List Eff} {st st':St},runR C d out drawn n0 l st=some (es,st')->∀ (i:Nat) (r:IOpR) (e:Eff),l[i]?=some r->es[i]?=some e->∃ s1 s2,stepR C d out drawn n0 r s1=some (e,s2)
 | [],es,st,st',h,i,r,e,h1,h2=>by simp at h1
 | q::l,es,st,st',h,i,r,e,h1,h2=>by
  simp only [runR] at h
  split at h
  ·rename_i e1 st1 g1
   split at h
   ·rename_i es2 st2 g2
    cases h
    cases i with
    | zero =>
     simp only [zg8,zf5] at h1 h2
     subst h1 h2
     exact ⟨_,_,g1⟩
    | succ i =>
     simp only [zgc] at h1 h2
     exact zeb g2 i r e h1 h2
   ·simp at h
  ·simp at h
theorem quiet_p {drawn:Bool} {r:IOpR} {e:Eff} {s1 s2:St} (hq:r.op.quiet=true) (h:stepR C d out drawn n0 r s1=some (e,s2)):e=.p:=by
 rw [zat] at h
 obtain ⟨⟨e1,v1,o1⟩,g1,k1⟩:=map_some h
 cases k1
 exact fR_quiet hq g1
theorem comm_p1 {e:Eff}:comm .p e=true:=by cases e <;> rfl
theorem comm_p2 {e:Eff}:comm e .p=true:=by cases e <;> rfl
theorem regOK {b:Array Nat} {l0:List IOpR} {s:Nat} {es:List Eff} {st st':St} {drawn:Bool} (hc:cOps P ops ops.toList 0=some (l0,s)) (hok:regionOK ops b (withVis b l0)=true) (hr:runR C d out drawn n0 (withVis b l0) st=some (es,st'))
  (hcm:((looseP b (withVis b l0).length).filter (loud (withVis b l0))).all (fun (j,i)=>comm (es.getD j .x) (es.getD i .x))=true):RegOK P ops b (withVis b l0) es:=by
 obtain ⟨hl,hf⟩:=zd9 hc
 have hwl:(withVis b l0).length=l0.length:=by simp [withVis]
 unfold regionOK at hok
 rw [zf6,zhg,zhg] at hok
 obtain ⟨k1,k2⟩:=hok
 have k2':∀ (i:Nat) (o:Oper),ops[i]?=some o->(o.after.all (fun e=>!Region.binds .any e||decide (e.on<i))&&b.getD i 0==beforeOne b o)=true:=fun i o ho=>by
  have:=k2 (o,i) (List.mem_zipIdx_iff_getElem?.2 (by simpa using ho))
  simpa using this
 refine ⟨by rw [hwl,hl]; simp,fun i o ho=>?_,fun j i oj oi ej ei hlt hb hj hi hej hei=>?_,fun i o ho e he hbd=>?_,fun i o ho=>?_⟩
 ·obtain ⟨r,h1,h2⟩:=hf i o (by simpa using ho)
  obtain ⟨v,hv⟩:=withVis_get (b:=b) h1
  exact ⟨_,hv,h2⟩
 ·have hil:i<(withVis b l0).length:=(zfz.1 hi).1
  have hm:(j,i)∈looseP b (withVis b l0).length:=by
   unfold looseP
   rw [zif]
   exact ⟨mem_pairs hlt hil,by simp only [hb,zh6]⟩
  have h1:=k1 _ hm
  simp only [hj,hi,zf6] at h1
  refine ⟨zea h1.1 h1.2,?_⟩
  by_cases hq1:oj.op.quiet=true
  ·obtain ⟨s1,s2,hs⟩:=zeb hr j oj ej hj hej
   rw [quiet_p hq1 hs]
   exact comm_p1
  by_cases hq2:oi.op.quiet=true
  ·obtain ⟨s1,s2,hs⟩:=zeb hr i oi ei hi hei
   rw [quiet_p hq2 hs]
   exact comm_p2
  rw [zhg] at hcm
  have h2:=hcm (j,i) (zif.2 ⟨hm,by simp only [loud,hj,hi]; simp [hq1,hq2]⟩)
  simp only at h2
  rw [zf8,zf8,hej,hei] at h2
  exact h2
 ·have:=k2' i o ho
  rw [zf6] at this
  have h3:=Array.all_eq_true_iff_forall_mem.1 this.1 e he
  rw [hbd] at h3
  simpa using h3
 ·have:=k2' i o ho
  rw [zf6] at this
  simpa using this.2
def exitOf:Out->Exit
 | .normal=>.normal
 | .exit id=>.exit id
 | .ret=>.ret
def Ends (d:Nat) (out:yLM) (β:Pl) (W:World) (a:Act) (Q:Exit->Act->World->Prop) (o:Out) (st':St):Prop:=∀ (β':Pl) (W':World) (a':Act),TR β' W' st'.t a'.tmps->RS β' (look d out st'.own) W'->Fr d β W β' W'->a'.defers=a.defers->Q (exitOf o) a' W'
theorem Ends.step {β β1:Pl} {W W1:World} {a a1:Act} {Q:Exit->Act->World->Prop} {o:Out} {st':St} (h:Ends d out β W a Q o st') (h1:Fr d β W β1 W1) (h2:a1.defers=a.defers):Ends d out β1 W1 a1 Q o st' :=
 fun β' W' a' g1 g2 g3 g4=>h β' W' a' g1 g2 (h1.trans g3) (g4.trans h2)
theorem region_sim (hC:CallOK P B W0 C) (hE:CallE C) (hm:P.follows .mixedOrders=true) {id:Nat} {drawn dr:Bool} {s:Nat} {l:List IOpR} {fr:List (Nat × Nat)} {st st':St} {o:Out} {β:Pl} {W:World} {a:Act} {Q:Exit->Act->World->Prop}
  (hc:cRegion P ops drawn=some (.region dr s l fr)) (hx:regionX C d out dr s l fr st=some (o,st')) (hb:Base B W0 β W) (ht:TR β W st.t a.tmps) (hR:RS β (look d out st.own) W) (hQ:Ends d out β W a Q o st'):(Code.region id ops drawn).wp P Q a W:=by
 unfold cRegion at hc
 split at hc
 ·simp at hc
 rename_i l0 s0 hco
 unfold regionX at hx
 split at hx
 ·rename_i es st1 hrun
  rw [zc] at hrun
  cases drawn
  ·simp only [zgk,if_false,zf5,IC.region.injEq] at hc
   obtain ⟨rfl,rfl,rfl,rfl⟩:=hc
   simp only [zh6,zhu,if_true] at hx
   cases hx
   obtain ⟨hl,hf⟩:=zd9 hco
   refine wp_region ?_
   have:=text_wp (Q:=Q) hC ops.toList l0 0 _ st' es a W β (fun j=>by simp) hl hf hrun hb ht (hR.more s0) hQ
   rw [List.range_eq_range']
   simpa using this
  ·simp only [if_true] at hc
   unfold drawnR at hc
   split at hc
   ·rename_i hok
    simp only [zf5,IC.region.injEq] at hc
    obtain ⟨rfl,rfl,rfl,rfl⟩:=hc
    simp only [zh2,zhm] at hx
    split at hx
    ·rename_i hcm
     cases hx
     have ok:=regOK hco hok hrun hcm
     refine wp_region_any hm ?_
     have hfr:Fr d β W β { W with drawn:=W.drawn+1 }:=⟨fun _ _ _ h=>h,fun _ _ _ _ h=>.inl h,fun _ _ _=>rfl,zf7 _,fun _ c _ _ h=>⟨c,h,rfl⟩,rfl,rfl,rfl⟩
     have hrest:rest ops.size (Array.replicate ops.size false)=List.range ops.size:=by
      unfold rest
      rw [List.filter_eq_self]
      intro i hi
      rw [zht] at hi
      simp [Array.getD,hi]
     refine any_wp (n0:=st.own.length) (st:=⟨st.t,st.own++List.replicate s0 .free⟩) (st':=st') (β:=β) hC hE ok ops.size _ a _ (by simp) (by rw [hrest]; simp) ?_ ?_ (hb.fr hfr) (ht.ext hfr.ext) ((hR.more s0).same (W':={ W with drawn:=W.drawn+1 }) rfl) (hQ.step hfr rfl)
     ·intro i j h1
      simp only [Array.getD] at h1
      split at h1
      ·simp at h1
      ·simp at h1
     ·rw [hrest,← ok.len,List.range_eq_range']
      exact zcr (fun j=>by simp) (fun j=>by simp) hrun
    ·simp at hx
   ·simp at hc
 ·simp at hx
theorem cRegion_form {drawn:Bool} {ic:IC} (h:cRegion P ops drawn=some ic):∃ dr s l fr,ic=.region dr s l fr:=by
 unfold cRegion at h
 split at h
 ·simp at h
 ·split at h
  ·unfold drawnR at h
   split at h
   ·cases h; exact ⟨_,_,_,_,rfl⟩
   ·simp at h
  ·cases h; exact ⟨_,_,_,_,rfl⟩
theorem zec (hC:CallOK P B W0 C) (hE:CallE C) (hm:P.follows .mixedOrders=true) {n:Nat}:∀ (c:Code) {ic:IC} {st st':St} {o:Out} {β:Pl} {W:World} {a:Act} {Q:Exit->Act->World->Prop},
  cCode P c=some ic->exec C d out n ic st=some (o,st')->Base B W0 β W->TR β W st.t a.tmps->RS β (look d out st.own) W->Ends d out β W a Q o st'->c.wp P Q a W:=by
 intro c
 induction c with
 | skip =>
  intro ic st st' o β W a Q hc hx hb ht hR hQ
  simp only [cCode,zf5] at hc
  subst hc
  simp only [exec,zf5,zic] at hx
  obtain ⟨rfl,rfl⟩:=hx
  exact wp_skip (hQ β W a ht hR (Fr.refl _ _ _) rfl)
 | ret =>
  intro ic st st' o β W a Q hc hx hb ht hR hQ
  simp only [cCode,zf5] at hc
  subst hc
  simp only [exec,zf5,zic] at hx
  obtain ⟨rfl,rfl⟩:=hx
  exact wp_ret (hQ β W a ht hR (Fr.refl _ _ _) rfl)
 | exit id =>
  intro ic st st' o β W a Q hc hx hb ht hR hQ
  simp only [cCode,zf5] at hc
  subst hc
  simp only [exec,zf5,zic] at hx
  obtain ⟨rfl,rfl⟩:=hx
  exact wp_exit (hQ β W a ht hR (Fr.refl _ _ _) rfl)
 | region id ops draw =>
  intro ic st st' o β W a Q hc hx hb ht hR hQ
  simp only [cCode] at hc
  obtain ⟨dr,s,l,fr,rfl⟩:=cRegion_form hc
  simp only [exec] at hx
  exact region_sim hC hE hm hc hx hb ht hR hQ
 | seq x y ih1 ih2 =>
  intro ic st st' o β W a Q hc hx hb ht hR hQ
  simp only [cCode] at hc
  split at hc
  ·rename_i i1 i2 h1 h2
   cases hc
   simp only [exec] at hx
   unfold seqX at hx
   refine wp_seq ?_
   split at hx
   ·rename_i st1 he
    refine ih1 h1 he hb ht hR fun β1 W1 a1 g1 g2 g3 g4=>?_
    exact ih2 h2 hx (hb.fr g3) g1 g2 (hQ.step g3 g4)
   ·rename_i hne
    refine ih1 h1 hx hb ht hR fun β1 W1 a1 g1 g2 g3 g4=>?_
    have:=hQ β1 W1 a1 g1 g2 g3 g4
    cases o with
    | normal=>exact absurd hx (hne _)
    | exit id=>exact this
    | ret=>exact this
  ·simp at hc
 | cond c x y ih1 ih2 =>
  intro ic st st' o β W a Q hc hx hb ht hR hQ
  simp only [cCode] at hc
  split at hc
  ·rename_i z i1 i2 h0 h1 h2
   cases hc
   simp only [exec] at hx
   unfold condX at hx
   have hv:=ht.eval h0
   split at hx
   ·rename_i hz
    rw [hz] at hv
    generalize hev:a.eval c=u at hv
    cases hv
    exact wp_cond_true hev (ih1 h1 hx hb ht hR hQ)
   ·rename_i hz
    rw [hz] at hv
    generalize hev:a.eval c=u at hv
    cases hv
    exact wp_cond_false hev (ih2 h2 hx hb ht hR hQ)
   ·simp at hx
  ·simp at hc
 | block id x ih =>
  intro ic st st' o β W a Q hc hx hb ht hR hQ
  simp only [cCode] at hc
  obtain ⟨i1,h1,rfl⟩:=map_some hc
  simp only [exec] at hx
  unfold blockX at hx
  refine wp_block ?_
  split at hx
  ·rename_i j st1 he
   split at hx
   ·rename_i hj
    cases hx
    refine ih h1 he hb ht hR fun β1 W1 a1 g1 g2 g3 g4=>?_
    simp only [exitOf,Exit.inBlock,if_pos hj]
    exact hQ β1 W1 a1 g1 g2 g3 g4
   ·rename_i hj
    cases hx
    refine ih h1 he hb ht hR fun β1 W1 a1 g1 g2 g3 g4=>?_
    simp only [exitOf,Exit.inBlock,if_neg hj]
    exact hQ β1 W1 a1 g1 g2 g3 g4
  ·rename_i hne
   refine ih h1 hx hb ht hR fun β1 W1 a1 g1 g2 g3 g4=>?_
   have:=hQ β1 W1 a1 g1 g2 g3 g4
   cases o with
   | normal=>exact this
   | exit id=>exact absurd hx (hne _ _)
   | ret=>exact this
 | loop x ih =>
  intro ic st st' o β W a Q hc hx hb ht hR hQ
  simp only [cCode] at hc
  obtain ⟨i1,h1,rfl⟩:=map_some hc
  simp only [exec] at hx
  refine wp_loop_rounds n ?_
  have key:∀ (m:Nat) (st st':St) (o:Out) (β:Pl) (W:World) (a:Act),iter (exec C d out n i1) m st=some (o,st')->Base B W0 β W->TR β W st.t a.tmps->RS β (look d out st.own) W->Ends d out β W a Q o st'->Code.rounds P x Q m a W:=by
   intro m
   induction m with
   | zero=>intro st st' o β W a hx; simp [iter] at hx
   | succ m ihm =>
    intro st st' o β W a hx hb ht hR hQ
    rw [rounds_succ]
    simp only [iter] at hx
    split at hx
    ·rename_i st1 he
     exact ih h1 he hb ht hR fun β1 W1 a1 g1 g2 g3 g4=>ihm _ _ _ _ _ _ hx (hb.fr g3) g1 g2 (hQ.step g3 g4)
    ·rename_i hne
     refine ih h1 hx hb ht hR fun β1 W1 a1 g1 g2 g3 g4=>?_
     have:=hQ β1 W1 a1 g1 g2 g3 g4
     cases o with
     | normal=>exact absurd hx (hne _)
     | exit id=>exact this
     | ret=>exact this
  exact key n st st' o β W a hx hb ht hR hQ
 | _=>intro ic st st' o β W a Q hc; simp [cCode] at hc
end
end
section
theorem zD {α β:Type} {f:α->Option β}:∀ {l:List α} {l':List β},l.mapM f=some l'->l'.length=l.length/\(∀ (j:Nat) (y:β),l'[j]?=some y->∃ x,l[j]?=some x/\f x=some y)
 | [],l',h=>by
  simp only [List.mapM_nil,zio,zf5] at h
  subst h
  exact ⟨rfl,fun j y h=>by simp at h⟩
 | x::l,l',h=>by
  rw [zhy] at h
  cases hx:f x with
  | none=>rw [hx] at h; simp at h
  | some y =>
   rw [hx] at h
   cases hl:l.mapM f with
   | none=>rw [hl] at h; simp at h
   | some l2 =>
    rw [hl] at h
    simp only [zia,zge,zio,zf5] at h
    subst h
    obtain ⟨h1,h2⟩:=zD hl
    refine ⟨by simp [h1],fun j z hz=>?_⟩
    cases j with
    | zero=>simp only [zg8,zf5] at hz; subst hz; exact ⟨x,rfl,hx⟩
    | succ j=>simp only [zgc] at hz ⊢; exact h2 j z hz
section
variable {lv:Nat} {own':yLO} {β1 β':Pl} {W:World}
theorem or_cell {β:Pl} {k s:Nat} {c:List IV} (h:OR β W k s (.cells c)) (j:Nat) (z:IV) (hz:c[j]?=some z):∃ y,W.cell? ⟨k,s+j,none⟩=some y/\VR β W z y:=by
 obtain ⟨c',t,hh,hc⟩:=h
 obtain ⟨y,hy,hv⟩:=hc j z hz
 refine ⟨y,?_,hv⟩
 simp only [World.cell?,hh,Option.isSome_none,zgk,if_false]
 rw [Nat.add_comm]
 exact hy
theorem yd (H1:∀ l i p,l≠lv->β1 l i=some p->β' l i=some p) (H2:∀ k,Konst β1 W k->Konst β' W k) (H3:∀ i k s o,β1 lv i=some (k,s)->own'[i]?=some o->o.live=true->Konst β' W k/\OR β1 W k s o) :
  ∀ (n:Nat) (v v':IV) (x:Value),VR β1 W v x->freeze n lv own' v=some v'->VR β' W v' x
 | 0,v,v',x,h,hf=>by simp [freeze] at hf
 | n+1,v,v',x,h,hf=>by
  have vrs:∀ {xs xs':List IV} {ys:List Value},VRs β1 W xs ys->xs.mapM (freeze n lv own')=some xs'->VRs β' W xs' ys:=fun {xs xs' ys} hv hm=>by
   obtain ⟨h1,h2⟩:=zD hm
   refine ⟨h1.trans hv.1,fun j a b ha hb=>?_⟩
   obtain ⟨a0,ha0,hfa⟩:=h2 j a ha
   exact yd H1 H2 H3 n a0 a b (hv.2 j a0 b ha0 hb) hfa
  have cells:∀ {cs cs':List IV} {k s:Nat},(∀ (j:Nat) (z:IV),cs[j]?=some z->∃ y,W.cell? ⟨k,s+j,none⟩=some y/\VR β1 W z y)->cs.mapM (freeze n lv own')=some cs' ->
    (∀ (j:Nat) (z:IV),cs'[j]?=some z->∃ y,W.cell? ⟨k,s+j,none⟩=some y/\VR β' W z y):=fun {cs cs' k s} hc hm j z hz=>by
   obtain ⟨h1,h2⟩:=zD hm
   obtain ⟨z0,hz0,hfz⟩:=h2 j z hz
   obtain ⟨y,hy,hv⟩:=hc j z0 hz0
   exact ⟨y,hy,yd H1 H2 H3 n z0 z y hv hfz⟩
  cases v with
  | ptrM l i off =>
   obtain ⟨k,s,hb,rfl⟩:=zdy h
   simp only [freeze] at hf
   split at hf
   ·rename_i hl
    rw [hl] at hb
    split at hf
    ·rename_i c hc
     obtain ⟨cs,hcs,rfl⟩:=map_some hf
     obtain ⟨hk,ho⟩:=H3 i k s _ hb hc rfl
     exact zal hk (cells (or_cell ho) hcs)
    ·simp at hf
   ·rename_i hl
    cases hf
    exact .ptrM (H1 l i _ hl hb)
  | slM l i off len cap sz tight =>
   obtain ⟨k,s,o',cap',hb,ho,hl1,hl2,htg,hr,rfl⟩:=zdz h
   simp only [freeze] at hf
   split at hf
   ·rename_i hl
    rw [hl] at hb
    split at hf
    ·rename_i c hc
     obtain ⟨cs,hcs,rfl⟩:=map_some hf
     cases hseg:seg c off (len*sz) with
     | none=>rw [hseg] at hcs; simp at hcs
     | some sg =>
      rw [hseg] at hcs
      simp only [zge] at hcs
      obtain ⟨hk,hor⟩:=H3 i k s _ hb hc rfl
      obtain ⟨g1,g2⟩:=ZA hseg
      obtain ⟨m1,m2⟩:=zD hcs
      refine slC_mk (fun _=>hk) (fun j z hz=>?_) (m1.trans g1) (zhl hl1 hl2) (fun ht=>?_)
      ·have hne:cap≠0:=by
        intro h0
        have:len=0:=by omega
        have hj:=(zfz.1 hz).1
        rw [m1,g1,this,zhp] at hj
        omega
       obtain ⟨z0,hz0,hfz⟩:=m2 j z hz
       obtain ⟨y,hy,hv⟩:=or_cell hor _ _ (g2 j z0 hz0)
       refine ⟨y,?_,yd H1 H2 H3 n z0 z y hv hfz⟩
       rw [← hy,ho.resolve_left hne]
       congr 2
       omega
      ·simp only [zf6,beq_iff_eq] at ht
       rw [htg ht.1,ht.2]
    ·simp at hf
   ·rename_i hl
    cases hf
    exact .slM (H1 l i _ hl hb) ho hl1 hl2 htg hr
  | mapM l i =>
   obtain ⟨k,s,hb,rfl⟩:=mapMI h
   simp only [freeze] at hf
   split at hf
   ·rename_i hl
    rw [hl] at hb
    split at hf
    ·rename_i ks vs bs clock hc
     split at hf
     ·rename_i a b ha hb2
      cases hf
      obtain ⟨hk,es,hh,n1,n2,n3,he⟩:=H3 i k s _ hb hc rfl
      obtain ⟨a1,a2⟩:=zD ha
      obtain ⟨b1,b2⟩:=zD hb2
      have hen:∀ (j:Nat),j<a.length->∃ e,es[j]?=some e:=fun j hj=>⟨es[j]'(by omega),Array.getElem?_eq_getElem (by omega)⟩
      refine .mapC (fun j=>(es[j]?).getD ⟨undef,undef,0⟩) hk hh (by omega) (by omega) (fun j hj=>?_) (fun j z hz=>?_) (fun j z hz=>?_)
      ·obtain ⟨e,he'⟩:=hen j hj
       rw [he']; rfl
      ·obtain ⟨e,he'⟩:=hen j (zfz.1 hz).1
       obtain ⟨z0,hz0,hfz⟩:=a2 j z hz
       simp only [he',zh7]
       exact yd H1 H2 H3 n z0 z _ ((he j e he').1 z0 hz0) hfz
      ·obtain ⟨e,he'⟩:=hen j (by have:=(zfz.1 hz).1; omega)
       obtain ⟨z0,hz0,hfz⟩:=b2 j z hz
       simp only [he',zh7]
       exact yd H1 H2 H3 n z0 z _ ((he j e he').2.1 z0 hz0) hfz
     ·simp at hf
    ·simp at hf
   ·rename_i hl
    cases hf
    exact .mapM (H1 l i _ hl hb)
  | ptrC cs off =>
   obtain ⟨k,s,hk,hc,rfl⟩:=ptrCI2 h
   simp only [freeze] at hf
   obtain ⟨cs',hcs,rfl⟩:=map_some hf
   exact zal (H2 k hk) (cells hc hcs)
  | slC cs len sz tight =>
   obtain ⟨k,s,cap',ad,hk,hc,hn,hl,ht,hadd,rfl⟩:=slCI h
   simp only [freeze] at hf
   obtain ⟨cs',hcs,rfl⟩:=map_some hf
   exact zak (fun hne=>H2 k (hk hne)) (cells hc hcs) ((zD hcs).1.trans hn) hl ht hadd
  | mapC ks vs =>
   simp only [freeze] at hf
   split at hf
   ·rename_i a b ha hb2
    cases hf
    cases h with
    | mapC e hk hm hn hn' he hkv hvv =>
     obtain ⟨a1,a2⟩:=zD ha
     obtain ⟨b1,b2⟩:=zD hb2
     refine .mapC e (H2 _ hk) hm (by omega) (by omega) (fun j hj=>he j (by omega)) (fun j z hz=>?_) (fun j z hz=>?_)
     ·obtain ⟨z0,hz0,hfz⟩:=a2 j z hz
      exact yd H1 H2 H3 n z0 z _ (hkv j z0 hz0) hfz
     ·obtain ⟨z0,hz0,hfz⟩:=b2 j z hz
      exact yd H1 H2 H3 n z0 z _ (hvv j z0 hz0) hfz
   ·simp at hf
  | agg cs =>
   obtain ⟨ws,hw,rfl⟩:=aggI h
   simp only [freeze] at hf
   obtain ⟨cs',hcs,rfl⟩:=map_some hf
   exact zdu (vrs hw hcs)
  | tuple cs =>
   obtain ⟨ws,hw,rfl⟩:=tupleI h
   simp only [freeze] at hf
   obtain ⟨cs',hcs,rfl⟩:=map_some hf
   have:=vrs hw hcs
   exact .tuple (by simpa using this.1) (fun j x y hx hy=>this.2 j x y hx (by simpa using hy))
  | fn f a b =>
   obtain ⟨a',b',ha,hb,rfl⟩:=fnI h
   simp only [freeze] at hf
   split at hf
   ·rename_i a2 b2 h1 h2
    cases hf
    have ga:=vrs ha h1
    have gb:=vrs hb h2
    exact .fn (by simpa using ga.1) (by simpa using gb.1) (fun j x y hx hy=>ga.2 j x y hx (by simpa using hy)) (fun j x y hx hy=>gb.2 j x y hx (by simpa using hy))
   ·simp at hf
  | bool b=>simp only [freeze,zf5] at hf; subst hf; rw [ZM h]; exact .bool b
  | int k m=>simp only [freeze,zf5] at hf; subst hf; rw [Yl h]; exact .int k m
  | str s=>simp only [freeze,zf5] at hf; subst hf; rw [zby h]; exact .str s
  | nilptr=>simp only [freeze,zf5] at hf; subst hf; rw [Z5 h]; exact .nilptr
  | nilsl=>simp only [freeze,zf5] at hf; subst hf; rw [yA h]; exact .nilsl
  | nilmap=>simp only [freeze,zf5] at hf; subst hf; rw [nilmapI h]; exact .nilmap
  | nilfn =>
   simp only [freeze,zf5] at hf; subst hf
   cases h
   exact .nilfn
end
def noPl:Pl:=fun _ _=>none
theorem ZB {lv:Nat} {own':yLO} {β:Pl} {W:World} (H3:∀ i k s o,β lv i=some (k,s)->own'[i]?=some o->o.live=true->k<W.heap.size/\OR β W k s o) :
  ∀ (n:Nat) (v v':IV) (x:Value),VR β W v x->freezeA n lv own' v=some v'->VR noPl W v' x
 | 0,v,v',x,h,hf=>by simp [freezeA] at hf
 | n+1,v,v',x,h,hf=>by
  have H2:∀ k,k<W.heap.size->Konst noPl W k:=fun k hk=>⟨hk,fun l i s h=>by simp [noPl] at h⟩
  have vrs:∀ {xs xs':List IV} {ys:List Value},VRs β W xs ys->xs.mapM (freezeA n lv own')=some xs'->VRs noPl W xs' ys:=fun {xs xs' ys} hv hm=>by
   obtain ⟨h1,h2⟩:=zD hm
   refine ⟨h1.trans hv.1,fun j a b ha hb=>?_⟩
   obtain ⟨a0,ha0,hfa⟩:=h2 j a ha
   exact ZB H3 n a0 a b (hv.2 j a0 b ha0 hb) hfa
  have cells:∀ {cs cs':List IV} {k s:Nat},(∀ (j:Nat) (z:IV),cs[j]?=some z->∃ y,W.cell? ⟨k,s+j,none⟩=some y/\VR β W z y)->cs.mapM (freezeA n lv own')=some cs' ->
    (∀ (j:Nat) (z:IV),cs'[j]?=some z->∃ y,W.cell? ⟨k,s+j,none⟩=some y/\VR noPl W z y):=fun {cs cs' k s} hc hm j z hz=>by
   obtain ⟨h1,h2⟩:=zD hm
   obtain ⟨z0,hz0,hfz⟩:=h2 j z hz
   obtain ⟨y,hy,hv⟩:=hc j z0 hz0
   exact ⟨y,hy,ZB H3 n z0 z y hv hfz⟩
  cases v with
  | slM l i off len cap sz tight =>
   obtain ⟨k,s,o',cap',hb,ho,hl1,hl2,htg,hr,rfl⟩:=zdz h
   simp only [freezeA] at hf
   split at hf
   ·rename_i hl
    rw [hl] at hb
    split at hf
    ·rename_i c hc
     obtain ⟨cs,hcs,rfl⟩:=map_some hf
     cases hseg:seg c off (len*sz) with
     | none=>rw [hseg] at hcs; simp at hcs
     | some sg =>
      rw [hseg] at hcs
      simp only [zge] at hcs
      obtain ⟨hk,hor⟩:=H3 i k s _ hb hc rfl
      obtain ⟨g1,g2⟩:=ZA hseg
      obtain ⟨m1,m2⟩:=zD hcs
      refine slC_mk (fun _=>H2 k hk) (fun j z hz=>?_) (m1.trans g1) (zhl hl1 hl2) (fun ht=>by cases ht)
      have hne:cap≠0:=by
       intro h0
       have:len=0:=by omega
       have hj:=(zfz.1 hz).1
       rw [m1,g1,this,zhp] at hj
       omega
      obtain ⟨z0,hz0,hfz⟩:=m2 j z hz
      obtain ⟨y,hy,hv⟩:=or_cell hor _ _ (g2 j z0 hz0)
      refine ⟨y,?_,ZB H3 n z0 z y hv hfz⟩
      rw [← hy,ho.resolve_left hne]
      congr 2
      omega
    ·simp at hf
   ·simp at hf
  | slC cs len sz tight =>
   obtain ⟨k,s,cap',ad,hk,hc,hn,hl,ht,hadd,rfl⟩:=slCI h
   simp only [freezeA] at hf
   obtain ⟨cs',hcs,rfl⟩:=map_some hf
   exact zak (fun hne=>H2 k (hk hne).1) (cells hc hcs) ((zD hcs).1.trans hn) hl ht hadd
  | agg cs =>
   obtain ⟨ws,hw,rfl⟩:=aggI h
   simp only [freezeA] at hf
   obtain ⟨cs',hcs,rfl⟩:=map_some hf
   exact zdu (vrs hw hcs)
  | bool b=>simp only [freezeA,zf5] at hf; subst hf; rw [ZM h]; exact .bool b
  | int k m=>simp only [freezeA,zf5] at hf; subst hf; rw [Yl h]; exact .int k m
  | str s=>simp only [freezeA,zf5] at hf; subst hf; rw [zby h]; exact .str s
  | nilsl=>simp only [freezeA,zf5] at hf; subst hf; rw [yA h]; exact .nilsl
  | ptrM _ _ _=>simp [freezeA] at hf
  | ptrC _ _=>simp [freezeA] at hf
  | mapM _ _=>simp [freezeA] at hf
  | mapC _ _=>simp [freezeA] at hf
  | tuple _=>simp [freezeA] at hf
  | fn _ _ _=>simp [freezeA] at hf
  | nilptr=>simp [freezeA] at hf
  | nilmap=>simp [freezeA] at hf
  | nilfn=>simp [freezeA] at hf
theorem freezeAs_sim {lv:Nat} {own':yLO} {β:Pl} {W:World} (H3:∀ i k s o,β lv i=some (k,s)->own'[i]?=some o->o.live=true->k<W.heap.size/\OR β W k s o) {n:Nat} {xs xs':List IV} {ys:List Value} (hv:VRs β W xs ys) (hm:xs.mapM (freezeA n lv own')=some xs'):VRs noPl W xs' ys:=by
 obtain ⟨h1,h2⟩:=zD hm
 refine ⟨h1.trans hv.1,fun j a b ha hb=>?_⟩
 obtain ⟨a0,ha0,hfa⟩:=h2 j a ha
 exact ZB H3 n a0 a b (hv.2 j a0 b ha0 hb) hfa
section
variable {P:Program} {d:Nat} {out:yLM} {β:Pl} {W:World}
def resV (tm:Array Value):ResultVar->Sem Value
 | .tmp t=>pure (tm.getD t undef)
 | .cell a t=>do loadVar t (← asAddr (tm.getD a undef))
theorem Y1 (fn:Func) (tm:Array Value):results fn tm=(do
  let vs ← fn.results.mapM (resV tm)
  pure (if h:vs.size=1 then vs[0] else .tuple vs)):=by
 unfold results
 have:(fun x:ResultVar=>(match x with | .tmp t=>(pure (tm.getD t undef):Sem Value) | .cell a t=>do loadVar t (← asAddr (tm.getD a undef))))=resV tm:=by
  funext r
  cases r <;> rfl
 rw [← this]
 rfl
theorem mapM_run {α:Type} {f:α->Sem Value}:∀ {l:List α} {vs:List Value},l.length=vs.length->(∀ (j:Nat) (x:α) (y:Value),l[j]?=some x->vs[j]?=some y->(f x).run P W=.ok y W)->(l.mapM f).run P W=.ok vs W
 | [],vs,h1,h2=>by
  have:vs=[]:=by simpa using h1.symm
  subst this
  simp
 | x::l,vs,h1,h2=>by
  cases vs with
  | nil=>simp at h1
  | cons v vs =>
   have g1:=h2 0 x v rfl rfl
   have g2:=mapM_run (l:=l) (vs:=vs) (by simpa using h1) (fun j x y hx hy=>h2 (j+1) x y (by simpa using hx) (by simpa using hy))
   rw [zhy]
   simp [g1,g2]
theorem Y3 {fn:Func} {rs:List IRes} {st:St} {tm:Array Value} {v:IV} (hc:allM (cRes P) fn.results.toList=some rs) (ht:TR β W st.t tm) (hR:RS β (look d out st.own) W) (hr:resultI d out st rs=some v) :
  ∃ x,(results fn tm).run P W=.ok x W/\VR β W v x:=by
 have one:∀ (r:ResultVar) (r':IRes) (z:IV),cRes P r=some r'->resI d out st r'=some z->∃ y,(resV tm r).run P W=.ok y W/\VR β W z y:=by
  intro r r' z h1 h2
  cases r with
  | tmp t =>
   simp only [cRes,zf5] at h1
   subst h1
   simp only [resI,zf5] at h2
   subst h2
   exact ⟨tm.getD t undef,by simp [resV],ht.get t⟩
  | cell a t =>
   simp only [cRes] at h1
   obtain ⟨⟨agg,n⟩,hl,rfl⟩:=map_some h1
   simp only [resI] at h2
   have hv:=ht.get a
   split at h2
   ·rename_i l i off hq
    rw [hq] at hv
    split at h2
    ·rename_i c hc
     obtain ⟨ad,hx,hA⟩:=at_ptrM hR hv hc
     obtain ⟨y,hy,hvy⟩:=load_sim hl hA h2
     refine ⟨y,?_,hvy⟩
     simp only [resV,hx]
     simpa [asAddr] using hy
    ·simp at h2
   ·simp at h2
 unfold resultI at hr
 obtain ⟨zs,hzs⟩:∃ zs,rs.mapM (resI d out st)=some zs:=by
  cases h:rs.mapM (resI d out st) with
  | none=>rw [h] at hr; simp at hr
  | some zs=>exact ⟨zs,rfl⟩
 rw [hzs] at hr
 obtain ⟨m1,m2⟩:=zD hzs
 obtain ⟨a1,a2⟩:=ZL hc
 have hex:∀ (L:List ResultVar) (zs:List IV),L.length=zs.length->(∀ (j:Nat) (r:ResultVar) (z:IV),L[j]?=some r->zs[j]?=some z->∃ y,(resV tm r).run P W=.ok y W/\VR β W z y) ->
   ∃ ys:List Value,VRs β W zs ys/\∀ (j:Nat) (r:ResultVar) (y:Value),L[j]?=some r->ys[j]?=some y->(resV tm r).run P W=.ok y W:=by
  intro L
  induction L with
  | nil =>
   intro zs h1 h2
   have:zs=[]:=by simpa using h1.symm
   subst this
   exact ⟨[],VRs.nil,fun j r y hr=>by simp at hr⟩
  | cons r L ih =>
   intro zs h1 h2
   cases zs with
   | nil=>simp at h1
   | cons z zs =>
    obtain ⟨y,hy,hv⟩:=h2 0 r z rfl rfl
    obtain ⟨ys,g1,g2⟩:=ih zs (by simpa using h1) (fun j r z hr hz=>h2 (j+1) r z (by simpa using hr) (by simpa using hz))
    refine ⟨y::ys,g1.cons hv,fun j r' y' hr hy'=>?_⟩
    cases j with
    | zero=>simp only [zg8,zf5] at hr hy'; subst hr hy'; exact hy
    | succ j=>exact g2 j r' y' (by simpa using hr) (by simpa using hy')
 obtain ⟨ys,g1,g2⟩:=hex fn.results.toList zs (by omega) (fun j r z hr hz=>by
  obtain ⟨r',hr',hc0⟩:=a2 j r hr
  obtain ⟨r0,hr0,hz'⟩:=m2 j z hz
  rw [hr'] at hr0
  cases hr0
  exact one r r' z hc0 hz')
 have hrun:(fn.results.mapM (resV tm)).run P W=.ok ys.toArray W:=by
  rw [Array.mapM_eq_mapM_toList]
  have:=mapM_run (P:=P) (W:=W) (l:=fn.results.toList) (vs:=ys) (by rw [← g1.1]; omega) g2
  rw [map_eq_pure_bind]
  simp [this]
 cases zs with
 | nil =>
  have hy0:ys=[]:=by simpa using g1.1.symm
  subst hy0
  simp only [zf5] at hr
  subst hr
  refine ⟨.tuple #[],?_,.tuple rfl (fun j x y hx=>by simp at hx)⟩
  rw [Y1]
  simp only [zgp,hrun,zf9]
  simp
 | cons z zs =>
  cases ys with
  | nil=>exact absurd g1.1 (by simp)
  | cons y ys =>
   cases zs with
   | nil =>
    have hy0:ys=[]:=by have:=g1.1; simpa using this.symm
    subst hy0
    simp only [zf5] at hr
    subst hr
    refine ⟨y,?_,g1.2 0 _ _ rfl rfl⟩
    rw [Y1]
    simp only [zgp,hrun,zf9]
    simp
   | cons z2 zs =>
    simp only [zf5] at hr
    subst hr
    refine ⟨.tuple (y::ys).toArray,?_,.tuple (by simpa using g1.1) (fun j x y hx hy=>g1.2 j x y hx (by simpa using hy))⟩
    rw [Y1]
    simp only [zgp,hrun,zf9]
    have:(y::ys).toArray.size≠1:=by have:=g1.1; simp only [zf3] at this; simp only [List.size_toArray,zf3]; omega
    rw [dif_neg this]
    rfl
end
end
end Go.Proofs.YtdacpmgnhkmnkaaGreatDoor
end
section
namespace Go.Proofs.YtdacpmgnhkmnkaaGreatDoor
open Go Go.Sort
section
theorem insS_eq (lt:Nat->Nat->Bool) (b:Nat):∀ (k i:Nat) (a:Array Nat),k=b - i->insOuter lt 0 b i a=insS lt k i a
 | 0,i,a,h=>by rw [insOuter,if_neg (by omega)]; rfl
 | k+1,i,a,h=>by rw [insOuter,if_pos (by omega),insS_eq lt b k (i+1) _ (by omega)]; rfl
theorem pdqX_eq (lt:Nat->Nat->Bool) (n:Nat):pdqX lt n=(pdq lt (Array.range n) 0 n (Lib.bitLen n) true true).toList:=by
 unfold pdqX
 split
 ·rename_i h
  rw [pdq,if_pos (by omega),insertionSort,insS_eq lt n (n - 1) (0+1) _ (by omega)]
  have e:(⟨List.range n⟩:Array Nat)=Array.range n:=by
   apply Array.toList_inj.1
   simp
  rw [e]
 ·rfl
theorem zcs {d:Array Nat} {n:Nat} (h:d.size=n):(d.extract 0 n).toList=d.toList:=by
 subst h
 simp
theorem zb1 {lt:Nat->Nat->Bool} (h:SWO lt) (n:Nat):(pdqX lt n).Perm (List.range n)/\∀ (i j x y:Nat),i<j->(pdqX lt n)[i]?=some x->(pdqX lt n)[j]?=some y->lt y x=false:=by
 have hs:(Array.range n).size=n:=by simp
 obtain ⟨⟨p1,_,p3⟩,s⟩:=pdq_sorts lt h (Array.range n) 0 n (Lib.bitLen n) true true (Nat.zero_le _) (by omega) (.inl rfl)
 rw [pdqX_eq]
 generalize pdq lt (Array.range n) 0 n (Lib.bitLen n) true true=d at *
 refine ⟨?_,fun i j x y hij hx hy=>?_⟩
 ·rw [zcs (by omega),zcs hs] at p3
  simpa using p3
 ·have hj:j<d.size:=by
   have:=(zfz.1 hy).1
   simpa using this
  have:=s i j (Nat.zero_le _) hij (by omega)
  rw [zgv] at hx hy
  rwa [getElem!_def,getElem!_def,hx,hy] at this
noncomputable def cfT (n:Nat) (tb:List (List Int)) (i j:Nat):Int:=(tb.getD (i % n) []).getD (j % n) 0
theorem ltT_eq (n:Nat) (tb:List (List Int)):ltT n tb=ltOf (cfT n tb):=by
 funext i j
 unfold ltT ltOf cfT
 generalize (tb.getD (i % n) []).getD (j % n) 0=z
 cases z <;> simp [ltT.Int.blt'] <;> omega
theorem zed {n:Nat} (hn:n≠0) {tb:List (List Int)} (h:swoB n (ltT n tb)=true):SWO (ltT n tb):=by
 have hm:∀ i j,ltT n tb i j=ltT n tb (i % n) (j % n):=fun i j=>by simp [ltT]
 have hr:∀ i,i % n∈List.range n:=fun i=>zht.2 (Nat.mod_lt _ (by omega))
 unfold swoB at h
 rw [zhg] at h
 have h2:∀ x y z,ltT n tb x x=false/\((ltT n tb x y=true->ltT n tb y z=true->ltT n tb x z=true)/\(ltT n tb x y=false->ltT n tb y z=false->ltT n tb x z=false)):=fun x y z=>by
  have h3:=h _ (hr x)
  rw [zf6,zhg] at h3
  have h4:=zhg.1 (h3.2 _ (hr y)) _ (hr z)
  rw [hm x x,hm x y,hm y z,hm x z]
  have h5:=h3.1
  revert h4 h5
  generalize ltT n tb (x % n) (x % n)=p
  generalize ltT n tb (x % n) (y % n)=q
  generalize ltT n tb (y % n) (z % n)=r
  generalize ltT n tb (x % n) (z % n)=s
  cases p <;> cases q <;> cases r <;> cases s <;> decide
 exact ⟨fun x=>(h2 x x x).1,fun x y z=>(h2 x y z).2.1,fun x y z=>(h2 x y z).2.2⟩
theorem zb2 (x:Int):∀ l,(insZ x l).Perm (x::l)
 | []=>.refl _
 | y::l=>by
  unfold insZ
  split
  ·exact .refl _
  ·exact ((zb2 x l).cons y).trans (.swap _ _ _)
theorem Zl:∀ l,(sortZ l).Perm l
 | []=>.refl _
 | x::l=>(zb2 x _).trans ((Zl l).cons x)
theorem insZ_asc (x:Int):∀ l,l.Pairwise (·<=·)->(insZ x l).Pairwise (·<=·)
 | [],_=>by simp [insZ]
 | y::l,h=>by
  obtain ⟨h1,h2⟩:=zib.1 h
  unfold insZ
  split
  ·rename_i hx
   exact zib.2 ⟨fun z hz=>by
    rcases zgf.1 hz with rfl | hz
    ·exact hx
    ·exact Int.le_trans hx (h1 z hz),h⟩
  ·rename_i hx
   refine zib.2 ⟨fun z hz=>?_,insZ_asc x l h2⟩
   rcases zgf.1 ((zb2 x l).mem_iff.1 hz) with rfl | hz
   ·omega
   ·exact h1 z hz
theorem zb3:∀ l,(sortZ l).Pairwise (·<=·)
 | []=>.nil
 | x::l=>insZ_asc x _ (zb3 l)
theorem sortZ_eq (l:List Int):l.mergeSort (fun x y=>decide (x<=y))=sortZ l:=by
 refine List.Perm.eq_of_pairwise (le:=(·<=·)) (fun a b _ _ h1 h2=>by omega) ?_ (zb3 l) ((List.mergeSort_perm _ _).trans (Zl l).symm)
 have:=List.pairwise_mergeSort (le:=fun x y:Int=>decide (x<=y)) (fun a b c=>by simp; omega) (fun a b=>by simp; omega) l
 simpa using this
theorem rowAt_len {α:Type} {r:List α} {sz j n:Nat} (h:r.length=n*sz) (hj:j<n):(rowAt r sz j).length=sz:=by
 unfold rowAt
 have:(j+1)*sz<=n*sz:=ziq _ hj
 rw [Nat.add_mul,zik] at this
 simp
 omega
theorem zb4 {α:Type} {r:List α} {sz j t:Nat} (ht:t<sz):(rowAt r sz j)[t]?=r[j*sz+t]?:=by
 unfold rowAt
 rw [List.getElem?_take,if_pos ht,List.getElem?_drop]
end
end Go.Proofs.YtdacpmgnhkmnkaaGreatDoor
end
section
namespace Go.Proofs.YtdacpmgnhkmnkaaGreatDoor
open Go Go.RowKit
section
theorem Fr.of_below {d:Nat} {β:Pl} {W W':World} (h:Below W.heap.size W W'):Fr d β W β W' where
 keep _ _ _ h:=h
 fresh _ _ _ _ h:=.inl h
 block k hk _:=h.block k hk
 size:=h.size
 rows k c t f hc:=⟨c,by rw [h.block k (zhn.1 hc).1]; exact hc,rfl⟩
 os:=h.os
 tape:=h.tape
 output:=h.output
section
variable {P:Program} {d:Nat} {out:yLM} {β:Pl} {W:World} {own ownV:yLO}
theorem below_grow (W:World) (os:Array Obj):Below W.heap.size W (Sort.grow W os) :=
 ⟨rfl,rfl,rfl,by simp [Sort.grow],fun k hk=>by simp [Sort.grow,Array.getElem?_append_left hk]⟩
theorem row_sim {i k s1 off:Nat} {c:List IV} {α:Type} [Inhabited α] {enc:α->Value} {xs:List IV} {F:Array α} (hR:RS β (look d out own) W) (hg:own[i]?=some (.cells c)) (hb:β d i=some (k,s1)) (hfit:off+xs.length<=c.length) (hl:xs.length=F.size)
  (hrel:∀ (j:Nat) (x:IV),xs[j]?=some x->VR β W x (enc F[j]!)) (hroom:Room W k (off+s1+F.size)) (m:Nat) (os:Array Obj) :
  RS β (look d out (own.set i (.cells (wrN c off xs)))) (Sort.grow (Sort.putRow enc (Sort.ahead W m) k (off+s1) F) os)/\Fr d β W β (Sort.grow (Sort.putRow enc (Sort.ahead W m) k (off+s1) F) os):=by
 have hg':look d out own d i=some (.cells c):=by rw [ya]; exact hg
 obtain ⟨c',ty',hh,hcc⟩:=hR.obj _ _ _ _ _ hb hg'
 obtain ⟨c1,t1,f1,hh1,hrm⟩:=hroom
 rw [hh] at hh1
 cases hh1
 generalize hW1:Sort.putRow enc (Sort.ahead W m) k (off+s1) F=W1
 have hheap:W1.heap=W.heap.modify k (Sort.onCells (Sort.putCells enc (off+s1) F)):=by rw [← hW1]; rfl
 have hk1:W1.heap[k]?=some (.cells (Sort.putCells enc (off+s1) F c') ty' (0,0)):=by
  rw [hheap,Array.getElem?_modify,if_pos rfl,hh]; rfl
 have hoth:∀ k2,k2≠k->W1.heap[k2]?=W.heap[k2]?:=fun k2 hk2=>by
  rw [hheap,Array.getElem?_modify,if_neg (fun e=>hk2 e.symm)]
 have hsz:W1.heap.size=W.heap.size:=by rw [hheap]; simp
 have hO:Ext β W β W1->OR β W1 k s1 (.cells (wrN c off xs)):=fun ex=>by
  refine ⟨_,ty',hk1,fun j z hz=>?_⟩
  rw [Zy _ _ _ _ hfit] at hz
  unfold Sort.putCells
  rw [Array.getElem?_mapIdx]
  by_cases hj:off<=j/\j<off+xs.length
  ·rw [if_pos hj] at hz
   refine ⟨enc F[j - off]!,?_,(hrel _ _ hz).ext ex⟩
   rw [Array.getElem?_eq_getElem (show j+s1<c'.size by omega),zf2,if_pos (by omega),show j+s1 - (off+s1)=j - off by omega]
  ·rw [if_neg hj] at hz
   obtain ⟨r,hr,hvr⟩:=hcc j z hz
   refine ⟨r,?_,hvr.ext ex⟩
   rw [hr,zf2,if_neg (by omega)]
 have hrow:∀ (c2:Array Value) (t2:TypeId) (f2:Nat × Nat),W.heap[k]?=some (.cells c2 t2 f2)->∃ c3,W1.heap[k]?=some (.cells c3 t2 f2)/\c3.size=c2.size:=fun c2 t2 f2 hc2=>by
  rw [hh] at hc2
  cases hc2
  exact ⟨_,hk1,by simp [Sort.putCells]⟩
 obtain ⟨hR1,hF1⟩:=zdx (W':=W1) hR hg rfl hb hoth hsz hrow (by rw [← hW1]; rfl) (by rw [← hW1]; rfl) (by rw [← hW1]; rfl) hO rfl
 have hbel:=below_grow W1 os
 exact ⟨hR1.old hbel.block hbel.size,hF1.trans (Fr.of_below hbel)⟩
theorem row_open {sz i off n:Nat} {c r:List IV} {s:IV} {y:Value} (hR:RS β (look d out own) W) (h:rowsX d own sz s=some (i,off,c,r,n)) (hv:VR β W s y) :
  ∃ k s1 cap',y=.slice (some ⟨k,off+s1,none⟩) n cap'/\own[i]?=some (.cells c)/\β d i=some (k,s1)/\n≠0/\n<=bound/\r.length=n*sz/\off+n*sz<=c.length/\r.all IV.scalar=true /\
   ∃ ys:Array Value,ys.size=n*sz/\VRs β W r ys.toList/\Sort.Holds id W k (off+s1) ys/\k<W.heap.size/\Room W k (off+s1+n*sz):=by
 unfold rowsX at h
 split at h
 rotate_left
 ·simp at h
 rename_i l i' off' len cap sz' tight
 split at h
 rotate_left
 ·simp at h
 rename_i hc
 obtain ⟨rfl,hsz',h0,hbd⟩:=hc
 subst sz'
 split at h
 rotate_left
 ·simp at h
 rename_i c' hg
 cases hseg:seg c' off' (len*sz) with
 | none=>rw [hseg] at h; simp at h
 | some r' =>
  rw [hseg,zge] at h
  split at h
  rotate_left
  ·simp at h
  rename_i hsc
  cases h
  cases hv with
  | @slM _ _ _ _ _ _ _ k s1 o' cap' hb ho hl hcp ht hr =>
   have hcap:cap≠0:=by omega
   obtain rfl:=ho.resolve_left hcap
   have hg':look l out own l i=some (.cells c):=by rw [ya]; exact hg
   obtain ⟨cs,ty',hh,hcc⟩:=hR.obj _ _ _ _ _ hb hg'
   obtain ⟨c1,t1,f1,hh1,hrm⟩:=hr
   rw [hh] at hh1
   cases hh1
   obtain ⟨hl1,hget⟩:=ZA hseg
   have hle:n*sz<=cap'*sz:=ziq _ (zhl hl hcp)
   refine ⟨k,s1,cap',rfl,hg,hb,h0,hbd,hl1,(segE hseg).1,hsc,cs.extract (off+s1) (off+s1+n*sz),by simp; omega,⟨by simp; omega,fun j x z hx hz=>?_⟩,fun j hj=>⟨?_,?_⟩,hR.here _ _ _ _ hb,_,_,_,hh,by omega⟩
   ·obtain ⟨w,hw,hvw⟩:=hcc _ _ (hget j x hx)
    have hjl:=(zfz.1 hx).1
    have:z=w:=by
     rw [zgv,Array.getElem?_extract,if_pos (by omega),show off+s1+j=off+j+s1 by omega,hw] at hz
     exact (zgy hz).symm
    rw [this]
    exact hvw
   ·have hj':j<n*sz:=by simp at hj; omega
    have e:(cs.extract (off+s1) (off+s1+n*sz))[j]! = cs[off+s1+j]:=by
     rw [getElem!_def,Array.getElem?_extract,if_pos (by omega),Array.getElem?_eq_getElem (show off+s1+j<cs.size by omega)]
    rw [e]
    simp only [World.cell?,hh,id]
    rw [Array.getElem?_eq_getElem (show off+s1+j<cs.size by omega)]
    rfl
   ·simp [World.frozen?,hh]
end
end
end Go.Proofs.YtdacpmgnhkmnkaaGreatDoor
end
section
namespace Go.Proofs.YtdacpmgnhkmnkaaGreatDoor
open Go Go.RowKit Go.Shelf
section
def SortOK (P : Program) (f : FuncId) (i : IFn) : Prop := (∃ fn, P.funcs[f]? = some fn ∧ fn.name ≠ "runtime.NumGoroutine" ∧ fn.body.isSome = true) ∧ 4 ≤ i.mode ∧ ∃ ρ : Ren,
 (i.mode=4/\i.ntmps=1/\ρ.f 6=f/\SlLaysF.n6 P ρ)∨(i.mode=5/\i.ntmps≠0/\ρ.f 6=f/\SlLaysF0.n6 P ρ/\(∀ w,(isAgg (ρ.t 24)).run P w=.ok true w)/\∀ w,(Go.sizeOf (ρ.t 24)).run P w=.ok i.ntmps w)∨(i.mode=6/\i.ntmps=1/\ρ.f 189=f/\Lays.n189 P ρ)
section
variable {P:Program} {B:Nat} {W0 W:World} {C:Call} {d:Nat} {out:yLM} {β:Pl} {own ownV:yLO}
theorem seen_gone (h:Seen ownV own) (i:Nat):Seen (ownV.set i .gone) (own.set i .gone):=by
 refine ⟨by simp [h.1],fun j o ho=>?_⟩
 rw [List.getElem?_set] at ho ⊢
 split at ho
 ·split at ho
  ·rename_i e hl
   rw [if_pos e,if_pos (h.1 ▸ hl)]
   exact .inl ho
  ·simp at ho
 ·rename_i e
  rw [if_neg e]
  exact h.2 j o ho
theorem enter_fn {f : FuncId} (h : ∃ fn, P.funcs[f]? = some fn ∧ fn.name ≠ "runtime.NumGoroutine" ∧ fn.body.isSome = true) (args : Array Value) (w : World) : (callFunc f args).run P w = .ok (.enter f args) w := by
 obtain ⟨fn,hfn,hnm,hbd⟩:=h
 have hbn:fn.body.isNone=false:=by cases hb:fn.body <;> simp [hb] at hbd ⊢
 have hbn':fn.body≠none:=by intro h; rw [h] at hbd; simp at hbd
 simp [callFunc,zgp,zg0,zf9,hfn,hnm,hbn,hbn']
theorem cmp_calls (hC:CallOK P B W0 C) (hs:Seen ownV own) {i id:Nat} {g:FuncId} {cap:List IV} {capv:Array Value} {x y:IV} {x' y':Value} {z:Int} (h:cmpQ C d out (ownV.set i .gone) (own.set i .gone) id g cap x y=some z) {wm:World}
  (hb:Base B W0 β wm) (hR:RS β (look d out (own.set i .gone)) wm) (hx:VR β wm x x') (hy:VR β wm y y') (hcap:VRs β wm cap capv.toList) :
  (∃ fn, P.funcs[g]? = some fn ∧ fn.name ≠ "runtime.NumGoroutine" ∧ fn.body.isSome = true) ∧ Calls P g (#[x', y'] ++ capv) wm fun e w' => e = .returned (.int .i64 z) ∧ ∃ q os', w' = Sort.grow (wm.drewN q) os' := by
 unfold cmpQ at h
 split at h
 ·rename_i r o hc
  cases h
  obtain ⟨h1,h2⟩:=hC d out _ _ id g _ _ _ _ (x'::y'::capv.toList) β wm hc hb (seen_gone hs i) hR (.cons hx (.cons hy hcap))
  refine ⟨h1,calls_grow ?_⟩
  have e:(x'::y'::capv.toList).toArray=#[x',y']++capv:=by
   apply Array.toList_inj.1
   simp
  rw [e] at h2
  refine h2.mono fun e w' hx=>?_
  obtain ⟨v,β',rfl,hv,_,_,hbel⟩:=hx
  exact ⟨by rw [Yl hv],hbel rfl⟩
 ·simp at h
theorem tab_get {n:Nat} {E:Nat->IV} {cmp:IV->IV->Option Int} {tb:List (List Int)} (h:(((List.range n).map E).mapM fun x=>((List.range n).map E).mapM fun y=>cmp x y)=some tb) (hn:n≠0) (a b:Nat):cmp (E (a % n)) (E (b % n))=some (cfT n tb a b):=by
 have ha:=Nat.mod_lt a (Nat.pos_of_ne_zero hn)
 have hb:=Nat.mod_lt b (Nat.pos_of_ne_zero hn)
 obtain ⟨h1,h2⟩:=zD h
 rw [zgw,List.length_range] at h1
 have hr:tb[a % n]?=some tb[a % n]:=zf0 (by omega)
 obtain ⟨x,hx,hfx⟩:=h2 _ _ hr
 obtain ⟨h3,h4⟩:=zD hfx
 rw [zgw,List.length_range] at h3
 have hq:tb[a % n][b % n]?=some tb[a % n][b % n]:=zf0 (by omega)
 obtain ⟨y,hy,hfy⟩:=h4 _ _ hq
 simp only [zgd,List.getElem?_range ha,List.getElem?_range hb,zf2,zf5] at hx hy
 rw [hx,hy,hfy]
 unfold cfT
 rw [zf8,zf8,hr,zh7,hq,zh7]
theorem vrs_row {r:List IV} {ys:List Value} (h:VRs β W r ys) (sz j:Nat):VRs β W (rowAt r sz j) (rowAt ys sz j):=(h.drop _).take _
theorem flat_at {α:Type} {r:List α} {sz n:Nat} (hr:r.length=n*sz) (hz:0<sz):∀ (l:List Nat),(∀ j∈l,j<n)->(l.flatMap fun j=>rowAt r sz j).length=l.length*sz/\∀ t,(l.flatMap fun j=>rowAt r sz j)[t]?=(l[t / sz]?).bind fun j=>r[j*sz+t % sz]?
 | [],_=>⟨by simp,fun t=>by simp⟩
 | j::l,h=>by
  obtain ⟨h1,h2⟩:=flat_at hr hz l (fun q hq=>h q (zgn _ hq))
  have hj:=rowAt_len hr (h j (zgi ..))
  refine ⟨by rw [zgj,zga,h1,hj,zf3,Nat.add_mul]; omega,fun t=>?_⟩
  rw [zgj]
  by_cases ht:t<sz
  ·rw [zf1 (by omega),zb4 ht,Nat.div_eq_of_lt ht,Nat.mod_eq_of_lt ht]; rfl
  ·have e:t=(t - sz)+sz:=by omega
   rw [zf4 (by omega),hj,h2,e,Nat.add_div_right _ hz,Nat.add_mod_right,Nat.add_sub_cancel]; rfl
theorem range_at {n j:Nat} (h:j<n):(Array.range n)[j]! = j:=by
 rw [getElem!_def,Array.getElem?_range,if_pos h]
theorem mods {n:Nat} {l:List Nat} (h:∀ j∈l,j<n):l.map (· % n)=l:=by
 induction l with
 | nil=>rfl
 | cons a l ih =>
  rw [zg3,ih (fun j hj=>h j (zgn _ hj)),Nat.mod_eq_of_lt (h a (zgi ..))]
theorem zb7 {α:Type} [Inhabited α] {ys:Array α} {j:Nat} {y:α} (h:ys.toList[j]?=some y):ys[j]! = y:=by
 rw [zgv] at h
 rw [getElem!_def,h]
section
variable {bi off sl n k s1 cap':Nat} {c r:List IV} {g:FuncId} {cap:List IV} {capv ys:Array Value} {tb:List (List Int)}
theorem sim5 (hC:CallOK P B W0 C) (hs:Seen ownV own) (hb:Base B W0 β W) (hR:RS β (look d out own) W) {sz:Nat} (hz:sz≠0) {ρ:Ren} (L:SlLaysF0.n6 P ρ) (aE:∀ w,(isAgg (ρ.t 24)).run P w=.ok true w) (zE:∀ w,(Go.sizeOf (ρ.t 24)).run P w=.ok sz w)
  (htb:(((List.range n).map fun j=>elemI 5 (rowAt r sz j)).mapM fun x=>((List.range n).map fun j=>elemI 5 (rowAt r sz j)).mapM fun y=>cmpQ C d out (ownV.set bi .gone) (own.set bi .gone) sl g cap x y)=some tb) (hswo:swoB n (ltT n tb)=true)
  (hg:own[bi]?=some (.cells c)) (hbk:β d bi=some (k,s1)) (h0:n≠0) (hbd:n<=bound) (hrl:r.length=n*sz) (hfit:off+n*sz<=c.length) (hsc:r.all IV.scalar=true) (hysz:ys.size=n*sz) (hvs:VRs β W r ys.toList) (hH:Sort.Holds id W k (off+s1) ys) (hkl:k<W.heap.size)
  (hroom:Room W k (off+s1+n*sz)) (hcap:VRs β W cap capv.toList) :
  Calls P (ρ.f 6) #[.slice (some ⟨k,off+s1,none⟩) n cap',.func (.func g) #[] capv] W fun x W'=>x=.returned (.tuple #[])/\RS β (look d out (own.set bi (.cells (wrN c off ((pdqX (ltT n tb) n).flatMap fun j=>rowAt r sz j))))) W'/\Fr d β W β W':=by
 have hz':=Nat.pos_of_ne_zero hz
 have hyl:ys.toList.length=n*sz:=by simpa using hysz
 have hml:∀ x,x % n<n:=fun x=>Nat.mod_lt _ (Nat.pos_of_ne_zero h0)
 have hlen:∀ x,(rowAt ys.toList sz (x % n)).length=sz:=fun x=>rowAt_len hyl (hml x)
 have hone:∀ x,∀ v∈rowAt ys.toList sz (x % n),v.oneCell'=true:=fun x v hv=>yS hvs hsc v (List.mem_of_mem_drop (List.mem_of_mem_take hv))
 have hO:Sort.SWO (ltOf (cfT n tb)):=by
  rw [← ltT_eq]
  exact zed h0 hswo
 have hfl:∀ (dk:Array Nat) (t:Nat),t<dk.size*sz->(Sort.flatK (fun x=>rowAt ys.toList sz (x % n)) sz dk)[t]! = ys[dk[t / sz]! % n*sz+t % sz]! := fun dk t ht=>by
  rw [Sort.get_flatK _ _ _ _ ht]
  generalize dk[t / sz]! = q
  rw [List.getElem!_eq_getElem?_getD,zb4 (Nat.mod_lt _ hz'),zgv,getElem!_def]
  cases ys[q % n*sz+t % sz]? <;> rfl
 have hdiv:∀ (dk:Array Nat) (t:Nat),t<dk.size*sz->t / sz<dk.size:=fun dk t ht=>by
  rw [Nat.div_lt_iff_lt_mul hz']; exact ht
 have hH2:Sort.HoldsK (fun x=>rowAt ys.toList sz (x % n)) sz W k (off+s1) (Array.range n):=fun t ht=>by
  have ht':t<n*sz:=by simpa using ht
  have hq:t / sz<n:=by rw [Nat.div_lt_iff_lt_mul hz']; exact ht'
  obtain ⟨g1,g2⟩:=hH t (by omega)
  refine ⟨?_,g2⟩
  rw [hfl _ _ (by simpa using ht'),range_at hq,Nat.mod_eq_of_lt hq,Nat.mul_comm,Nat.div_add_mod]
  exact g1
 have hwm:∀ (m:Nat) (os:Array Obj) (dk:Array Nat),dk.size=n->RS β (look d out (own.set bi (.cells (wrN c off ((dk.toList.map (· % n)).flatMap fun j=>rowAt r sz j))))) (sortWorldK (fun x=>rowAt ys.toList sz (x % n)) sz W k (off+s1) m dk os)/\Fr d β W β (sortWorldK (fun x=>rowAt ys.toList sz (x % n)) sz W k (off+s1) m dk os):=fun m os dk hdk=>by
  obtain ⟨f1,f2⟩:=flat_at hrl hz' (dk.toList.map (· % n)) (fun j hj=>by
   obtain ⟨q,_,rfl⟩:=zgx.1 hj
   exact hml q)
  have fl:((dk.toList.map (· % n)).flatMap fun j=>rowAt r sz j).length=n*sz:=by rw [f1]; simp [hdk]
  refine row_sim (enc:=id) hR hg hbk (by rw [fl]; exact hfit) (by rw [fl]; simp [hdk]) (fun t x hx=>?_) (by rw [show (Sort.flatK (fun x=>rowAt ys.toList sz (x % n)) sz dk).size=n*sz by simp [hdk]]; exact hroom) m os
  have htl:=(zfz.1 hx).1
  rw [fl,← hdk] at htl
  rw [f2,zgd,zgv,Array.getElem?_eq_getElem (hdiv dk t htl),zf2,zge] at hx
  obtain ⟨y,hy,hvy⟩:=hvs.get hx
  have e:dk[t / sz]! = dk[t / sz]'(hdiv dk t htl):=getElem!_pos _ _ _
  rw [id,hfl dk t htl,e,zb7 hy]
  exact hvy
 have hcmp:∀ (m:Nat) (os:Array Obj) (dk:Array Nat),dk.size=n->∀ x y:Nat,_:=fun m os dk hdk x y=>by
  obtain ⟨g1,g2⟩:=hwm m os dk hdk
  have g3:=rs_gone g1 (o0:=.cells (wrN c off ((dk.toList.map (· % n)).flatMap fun j=>rowAt r sz j))) (by rw [zg9 (zfz.1 hg).1])
  rw [List.set_set] at g3
  have hel:∀ x,VR β (sortWorldK (fun x=>rowAt ys.toList sz (x % n)) sz W k (off+s1) m dk os) (elemI 5 (rowAt r sz (x % n))) (.agg (rowAt ys.toList sz (x % n)).toArray):=fun x=>by
   obtain ⟨e1,e2⟩:=(vrs_row hvs sz (x % n)).ext g2.ext
   exact .agg (by simpa using e1) (fun j a b ha hb=>e2 j a b ha (by simpa using hb))
  exact cmp_calls (id:=sl) hC hs (tab_get htb h0 x y) (hb.fr g2) g3 (hel x) (hel y) (hcap.ext g2.ext)
 have hrs:(Array.range n).size=n:=by simp
 have hcon:=AnyQ.slices_SortFunc_eq L sz aE zE (fun x=>rowAt ys.toList sz (x % n)) hlen hone (cfT n tb) hO g capv k (off+s1) cap' (Array.range n) W (enter_fn (hcmp 0 #[] (Array.range n) hrs 0 0).1) (fun m os dk hdk x y=>(hcmp m os dk (hdk.trans hrs) x y).2) hH2 hkl (by rw [hrs]; unfold bound at hbd; omega)
 rw [hrs,← ltT_eq] at hcon
 refine hcon.mono fun x W' hx=>?_
 obtain ⟨rfl,m,os,rfl⟩:=hx
 have hp:=pdqX_eq (ltT n tb) n
 generalize Sort.pdq (ltT n tb) (Array.range n) 0 n (Lib.bitLen n) true true=dk at hp ⊢
 have hperm:=(zb1 (zed h0 hswo) n).1
 rw [hp] at hperm ⊢
 have hdk:dk.size=n:=by simpa using hperm.length_eq
 have:=hwm m os dk hdk
 rw [mods (fun j hj=>zht.1 (hperm.mem_iff.1 hj))] at this
 exact ⟨rfl,this⟩
theorem sim4 (hC:CallOK P B W0 C) (hs:Seen ownV own) (hb:Base B W0 β W) (hR:RS β (look d out own) W) {ρ:Ren} (L:SlLaysF.n6 P ρ)
  (htb:(((List.range n).map fun j=>elemI 4 (rowAt r 1 j)).mapM fun x=>((List.range n).map fun j=>elemI 4 (rowAt r 1 j)).mapM fun y=>cmpQ C d out (ownV.set bi .gone) (own.set bi .gone) sl g cap x y)=some tb) (hswo:swoB n (ltT n tb)=true)
  (hg:own[bi]?=some (.cells c)) (hbk:β d bi=some (k,s1)) (h0:n≠0) (hbd:n<=bound) (hrl:r.length=n) (hfit:off+n<=c.length) (hsc:r.all IV.scalar=true) (hysz:ys.size=n) (hvs:VRs β W r ys.toList) (hH:Sort.Holds id W k (off+s1) ys) (hkl:k<W.heap.size)
  (hroom:Room W k (off+s1+n)) (hcap:VRs β W cap capv.toList) :
  Calls P (ρ.f 6) #[.slice (some ⟨k,off+s1,none⟩) n cap',.func (.func g) #[] capv] W fun x W'=>x=.returned (.tuple #[])/\RS β (look d out (own.set bi (.cells (wrN c off ((pdqX (ltT n tb) n).flatMap fun j=>rowAt r 1 j))))) W'/\Fr d β W β W':=by
 have hml:∀ x,x % n<n:=fun x=>Nat.mod_lt _ (Nat.pos_of_ne_zero h0)
 have hone:OneCell fun x=>ys[x % n]! := fun x=>yS hvs hsc _ (by
  show ys[x % n]! ∈ ys.toList
  rw [getElem!_pos _ _ (by have:=hml x; omega)]
  exact Array.getElem_mem_toList _)
 have hO:Sort.SWO (ltOf (cfT n tb)):=by
  rw [← ltT_eq]
  exact zed h0 hswo
 have hH2:Sort.Holds (fun x=>ys[x % n]!) W k (off+s1) (Array.range n):=fun t ht=>by
  have ht':t<n:=by simpa using ht
  obtain ⟨g1,g2⟩:=hH t (by omega)
  refine ⟨?_,g2⟩
  rw [range_at ht']
  show _=some ys[t % n]!
  rw [Nat.mod_eq_of_lt ht']
  exact g1
 have hwm:∀ (m:Nat) (os:Array Obj) (dk:Array Nat),dk.size=n->RS β (look d out (own.set bi (.cells (wrN c off ((dk.toList.map (· % n)).flatMap fun j=>rowAt r 1 j))))) (sortWorld (fun x=>ys[x % n]!) W k (off+s1) m dk os)/\Fr d β W β (sortWorld (fun x=>ys[x % n]!) W k (off+s1) m dk os):=fun m os dk hdk=>by
  obtain ⟨f1,f2⟩:=flat_at (n:=n) (sz:=1) (by rw [Nat.mul_one]; exact hrl) Nat.one_pos (dk.toList.map (· % n)) (fun j hj=>by
   obtain ⟨q,_,rfl⟩:=zgx.1 hj
   exact hml q)
  have fl:((dk.toList.map (· % n)).flatMap fun j=>rowAt r 1 j).length=n:=by rw [f1]; simp [hdk]
  refine row_sim (enc:=fun x=>ys[x % n]!) hR hg hbk (by rw [fl]; exact hfit) (by rw [fl,hdk]) (fun t x hx=>?_) (by rw [hdk]; exact hroom) m os
  have htl:=(zfz.1 hx).1
  rw [fl,← hdk] at htl
  rw [f2,Nat.div_one,Nat.mod_one,zgd,zgv,Array.getElem?_eq_getElem htl,zf2,zge,Nat.mul_one,Nat.add_zero] at hx
  obtain ⟨y,hy,hvy⟩:=hvs.get hx
  have e:dk[t]! = dk[t]'htl:=getElem!_pos _ _ _
  rw [e,zb7 hy]
  exact hvy
 have hcmp:∀ (m:Nat) (os:Array Obj) (dk:Array Nat),dk.size=n->∀ x y:Nat,_:=fun m os dk hdk x y=>by
  obtain ⟨g1,g2⟩:=hwm m os dk hdk
  have g3:=rs_gone g1 (o0:=.cells (wrN c off ((dk.toList.map (· % n)).flatMap fun j=>rowAt r 1 j))) (by rw [zg9 (zfz.1 hg).1])
  rw [List.set_set] at g3
  have hel:∀ x,VR β (sortWorld (fun x=>ys[x % n]!) W k (off+s1) m dk os) (elemI 4 (rowAt r 1 (x % n))) ys[x % n]! := fun x=>by
   obtain ⟨z,hx⟩:∃ z,r[x % n]?=some z:=⟨_,zf0 (by rw [hrl]; exact hml x)⟩
   obtain ⟨y,hy,hvy⟩:=hvs.get hx
   have e:elemI 4 (rowAt r 1 (x % n))=z:=by
    have h1:=zb4 (r:=r) (sz:=1) (j:=x % n) (t:=0) Nat.one_pos
    rw [Nat.mul_one,Nat.add_zero,hx] at h1
    unfold elemI
    rw [if_neg (by decide)]
    cases hr:rowAt r 1 (x % n) with
    | nil=>rw [hr] at h1; cases h1
    | cons a l=>rw [hr] at h1; cases h1; rfl
   rw [e,zb7 hy]
   exact hvy.ext g2.ext
  exact cmp_calls (id:=sl) hC hs (tab_get htb h0 x y) (hb.fr g2) g3 (hel x) (hel y) (hcap.ext g2.ext)
 have hrs:(Array.range n).size=n:=by simp
 have hcon:=Any.slices_SortFunc_eq L (fun x=>ys[x % n]!) hone (cfT n tb) hO g capv k (off+s1) cap' (Array.range n) W (enter_fn (hcmp 0 #[] (Array.range n) hrs 0 0).1) (fun m os dk hdk x y=>(hcmp m os dk (hdk.trans hrs) x y).2) hH2 hkl (by rw [hrs]; unfold bound at hbd; omega)
 rw [hrs,← ltT_eq] at hcon
 refine hcon.mono fun x W' hx=>?_
 obtain ⟨rfl,m,os,rfl⟩:=hx
 have hp:=pdqX_eq (ltT n tb) n
 generalize Sort.pdq (ltT n tb) (Array.range n) 0 n (Lib.bitLen n) true true=dk at hp ⊢
 have hperm:=(zb1 (zed h0 hswo) n).1
 rw [hp] at hperm ⊢
 have hdk:dk.size=n:=by simpa using hperm.length_eq
 have:=hwm m os dk hdk
 rw [mods (fun j hj=>zht.1 (hperm.mem_iff.1 hj))] at this
 exact ⟨rfl,this⟩
end
theorem zb8 {id:Nat} {kind sz:Nat} {s:IV} (h:s≠.nilsl):sortX C d out ownV own id kind sz [s]=if kind=6 then (rowsX d own sz s).bind fun (i,off,c,r,_)=>(r.mapM i64I).map fun zs=>laidX own i off c ((sortZ zs).map (.int .i64)) else none:=by
 cases s <;> first | rfl | exact absurd rfl h
theorem zb9 {id:Nat} {kind sz:Nat} {s:IV} {g:FuncId} {cap:List IV} (h:s≠.nilsl):sortX C d out ownV own id kind sz [s,.fn g [] cap]=if kind=6 then none else (rowsX d own sz s).bind fun (i,off,c,r,n) =>
   (((List.range n).map fun j=>elemI kind (rowAt r sz j)).mapM fun x=>((List.range n).map fun j=>elemI kind (rowAt r sz j)).mapM fun y=>cmpQ C d out (ownV.set i .gone) (own.set i .gone) id g cap x y).bind fun tb =>
    if swoB n (ltT n tb)=true then some (laidX own i off c ((pdqX (ltT n tb) n).flatMap fun j=>rowAt r sz j)) else none:=by
 cases s <;> first | rfl | exact absurd rfl h
theorem sortX_x {id kind sz:Nat} {args:List IV} {e:Eff} {v:IV} {own1:yLO} (h:sortX C d out ownV own id kind sz args=some (e,v,own1)):e=.x:=by
 unfold sortX at h
 split at h
 ·split at h <;> cases h
  rfl
 ·split at h <;> cases h
  rfl
 ·split at h
  ·obtain ⟨q,_,h⟩:=Option.bind_eq_some_iff.1 h
   obtain ⟨z,_,h⟩:=map_some h
   cases h
   rfl
  ·cases h
 ·split at h
  ·cases h
  ·obtain ⟨q,_,h⟩:=Option.bind_eq_some_iff.1 h
   obtain ⟨tb,_,h⟩:=Option.bind_eq_some_iff.1 h
   split at h <;> cases h
   rfl
 ·cases h
theorem sort_sim (hC:CallOK P B W0 C) {f:FuncId} {i:IFn} {id:Nat} {args:List IV} {args':List Value} {e:Eff} {v:IV} {own1:yLO} (hs0:SortOK P f i) (h:sortX C d out ownV own id i.mode i.ntmps args=some (e,v,own1)) (hb:Base B W0 β W) (hs:Seen ownV own)
  (hR:RS β (look d out own) W) (ha:VRs β W args args'):Calls P f args'.toArray W fun x W'=>∃ y β',x=.returned y/\VR β' W' v y/\RS β' (look d out own1) W'/\Fr d β W β' W'/\(e=.r->Below W.heap.size W W'):=by
 obtain ⟨_,_,ρ,hk⟩:=hs0
 have hsame:∀ {x:Ending} {W':World},x=.returned (.tuple #[])/\W'=W->∃ y β',x=.returned y/\VR β' W' (.tuple []) y/\RS β' (look d out own) W'/\Fr d β W β' W'/\(Eff.x=.r->Below W.heap.size W W'):=fun {x W'} hx=>by
  obtain ⟨rfl,rfl⟩:=hx
  exact ⟨_,β,rfl,.tuple rfl (fun j a b ha=>by simp at ha),hR,Fr.refl _ _ _,fun h=>by cases h⟩
 unfold sortX at h
 split at h
 ·split at h
  rotate_left
  ·simp at h
  rename_i hm
  cases h
  obtain ⟨y,rfl,hy⟩:∃ y,args'=[y]/\VR β W .nilsl y:=by
   obtain ⟨h1,h2⟩:=ha
   match args',h1 with
   | [y],_=>exact ⟨y,rfl,h2 0 _ _ rfl rfl⟩
  cases hy
  rcases hk with ⟨h4,_⟩ | ⟨h5,_⟩ | ⟨_,_,rfl,L⟩
  ·omega
  ·omega
  ·exact (Any.slices_Sort_int_none L none 0 W).mono fun x W' hx=>hsame hx
 ·rename_i a
  split at h
  ·simp at h
  rename_i hm
  cases h
  obtain ⟨y,y2,rfl,hy⟩:∃ y y2,args'=[y,y2]/\VR β W .nilsl y:=by
   obtain ⟨h1,h2⟩:=ha
   match args',h1 with
   | [y,y2],_=>exact ⟨y,y2,rfl,h2 0 _ _ rfl rfl⟩
  cases hy
  rcases hk with ⟨_,_,rfl,L⟩ | ⟨_,_,rfl,L,_⟩ | ⟨h6,_⟩
  ·exact (AnyF.slices_SortFunc_none { L with } none 0 y2 W).mono fun x W' hx=>hsame hx
  ·exact (AnyF.slices_SortFunc_none L none 0 y2 W).mono fun x W' hx=>hsame hx
  ·omega
 ·rename_i s _
  split at h
  rotate_left
  ·simp at h
  rename_i hm
  obtain ⟨y,rfl,hy⟩:∃ y,args'=[y]/\VR β W s y:=by
   obtain ⟨h1,h2⟩:=ha
   match args',h1 with
   | [y],_=>exact ⟨y,rfl,h2 0 _ _ rfl rfl⟩
  cases hrow:rowsX d own i.ntmps s with
  | none=>rw [hrow] at h; simp at h
  | some q =>
   obtain ⟨bi,off,c,r,n⟩:=q
   rw [hrow,zge] at h
   obtain ⟨zs,hzs,hq⟩:=map_some h
   simp only [laidX,zc,zic] at hq
   obtain ⟨rfl,rfl,rfl⟩:=hq
   obtain ⟨k,s1,cap',rfl,hg,hbk,h0,hbd,hrl,hfit,hsc,ys,hysz,hvs,hH,hkl,hroom⟩:=row_open hR hrow hy
   rcases hk with ⟨h4,_⟩ | ⟨h5,_⟩ | ⟨_,hn1,rfl,L⟩
   ·omega
   ·omega
   rw [hn1,Nat.mul_one] at hrl hfit hysz hroom
   obtain ⟨z1,z2⟩:=zD hzs
   have hel:∀ j,j<zs.length->ys[j]! = .int .i64 zs[j]! := fun j hj=>by
    obtain ⟨x,hx,hfx⟩:=z2 j _ (zf0 hj)
    obtain ⟨y,hy,hvy⟩:=hvs.get hx
    unfold i64I at hfx
    split at hfx
    ·cases hfx
     rw [zgv] at hy
     rw [getElem!_def,hy,Yl hvy,List.getElem!_eq_getElem?_getD,zf0 hj]
     rfl
    ·simp at hfx
   have hzn:zs.length=n:=by omega
   have hH2:Sort.Holds (Value.int .i64) W k (off+s1) zs.toArray:=fun j hj=>by
    have hj2:j<zs.length:=by simpa using hj
    obtain ⟨g1,g2⟩:=hH j (by omega)
    refine ⟨?_,g2⟩
    rw [g1]
    show some ys[j]! = _
    rw [hel j hj2]
    simp
   have hcon:=Any.slices_Sort_int L k (off+s1) cap' zs W hH2 hkl (by rw [hzn]; unfold bound at hbd; omega)
   rw [hzn,sortZ_eq] at hcon
   refine hcon.mono fun x W' hx=>?_
   obtain ⟨rfl,m,os,rfl⟩:=hx
   have hpl:(sortZ zs).length=n:=(Zl zs).length_eq.trans hzn
   obtain ⟨g1,g2⟩:=row_sim (enc:=Value.int .i64) (xs:=(sortZ zs).map (.int .i64)) (F:=(sortZ zs).toArray) hR hg hbk (by rw [zgw,hpl]; exact hfit) (by simp) (fun j x hx=>by
    rw [zgd] at hx
    obtain ⟨z,hz,rfl⟩:=Option.map_eq_some_iff.1 hx
    rw [getElem!_def,List.getElem?_toArray,hz]
    exact .int _ _) (by simpa [hpl] using hroom) m os
   exact ⟨_,β,rfl,.tuple rfl (fun j a b ha=>by simp at ha),g1,g2,fun h=>by cases h⟩
 ·rename_i s g cap _
  split at h
  ·simp at h
  rename_i hm
  obtain ⟨y,y2,rfl,hy,hy2⟩:∃ y y2,args'=[y,y2]/\VR β W s y/\VR β W (.fn g [] cap) y2:=by
   obtain ⟨h1,h2⟩:=ha
   match args',h1 with
   | [y,y2],_=>exact ⟨y,y2,rfl,h2 0 _ _ rfl rfl,h2 1 _ _ rfl rfl⟩
  cases hrow:rowsX d own i.ntmps s with
  | none=>rw [hrow] at h; simp at h
  | some q =>
   obtain ⟨bi,off,c,r,n⟩:=q
   rw [hrow,zge] at h
   obtain ⟨tb,htb,hq⟩:=Option.bind_eq_some_iff.1 h
   split at hq
   rotate_left
   ·simp at hq
   rename_i hswo
   simp only [laidX,zc,zf5,zic] at hq
   obtain ⟨rfl,rfl,rfl⟩:=hq
   obtain ⟨k,s1,cap',rfl,hg,hbk,h0,hbd,hrl,hfit,hsc,ys,hysz,hvs,hH,hkl,hroom⟩:=row_open hR hrow hy
   obtain ⟨capv,rfl,hcap⟩:∃ capv:Array Value,y2=.func (.func g) #[] capv/\VRs β W cap capv.toList:=by
    cases hy2 with
    | @fn _ _ _ first' cap2 n1 n2 _ q2 =>
     have:first'=#[]:=Array.size_eq_zero_iff.1 (by simpa using n1.symm)
     subst this
     exact ⟨cap2,rfl,by simpa using n2,fun j a b ha hb=>q2 j a b ha (by simpa using hb)⟩
   rcases hk with ⟨h4,hn1,rfl,L⟩ | ⟨h5,hz,rfl,L,aE,zE⟩ | ⟨h6,_⟩
   ·rw [h4,hn1] at htb
    rw [hn1,Nat.mul_one] at hrl hfit hysz hroom
    refine (sim4 hC hs hb hR L htb hswo hg hbk h0 hbd hrl hfit hsc hysz hvs hH hkl hroom hcap).mono fun x W' hx=>?_
    rw [hn1]
    obtain ⟨rfl,h1,h2⟩:=hx
    exact ⟨_,β,rfl,.tuple rfl (fun j a b ha=>by simp at ha),h1,h2,fun h=>by cases h⟩
   ·rw [h5] at htb
    refine (sim5 hC hs hb hR hz L aE zE htb hswo hg hbk h0 hbd hrl hfit hsc hysz hvs hH hkl hroom hcap).mono fun x W' hx=>?_
    obtain ⟨rfl,h1,h2⟩:=hx
    exact ⟨_,β,rfl,.tuple rfl (fun j a b ha=>by simp at ha),h1,h2,fun h=>by cases h⟩
   ·omega
 ·simp at h
end
end
end Go.Proofs.YtdacpmgnhkmnkaaGreatDoor
end
section
namespace Go.Proofs.YtdacpmgnhkmnkaaGreatDoor
open Go Go.RowKit
section
def SumOK (P:Program) (B:Nat) (W0:World) (S:ySM):Prop:=∀ (f:FuncId) (args:List IV) (v:IV),S f args=some v ->
 (∃ fn, P.funcs[f]? = some fn ∧ fn.name ≠ "runtime.NumGoroutine" ∧ fn.body.isSome = true) ∧
 ∀ (β:Pl) (W:World) (args':List Value),Base B W0 β W->VRs β W args args'->Calls P f args'.toArray W fun x W'=>∃ y,x=.returned y/\Below W.heap.size W W'/\VR β W' v y
def TabOK (P:Program) (F:FuncId->Option IFn):Prop:=∀ (f:FuncId) (i:IFn),F f=some i->(i.mode<4/\∃ fn,P.funcs[f]?=some fn/\cFn P fn i.mode=some i)∨SortOK P f i
section
variable {P:Program} {B:Nat} {W0:World} {F:FuncId->Option IFn} {S:ySM}
theorem rs_in {d:Nat} {out:yLM} {own ownV:yLO} {β:Pl} {W:World} (hR:RS β (look d out own) W) (hs:Seen ownV own):RS β (look (d+1) (fun l=>if l=d then ownV else out l) []) W:=by
 have lk:∀ {l i o},look (d+1) (fun l=>if l=d then ownV else out l) [] l i=some o->look d out own l i=some o∨(o=.gone/\l=d):=fun {l i o} h=>by
  unfold look at h ⊢
  split at h
  ·simp at h
  ·split at h
   ·dsimp only at h
    by_cases hl:l=d
    ·rw [if_pos hl] at h
     rw [if_pos hl]
     exact (hs.2 i o h).imp id fun h=>⟨h,hl⟩
    ·rw [if_neg hl] at h
     rw [if_neg hl,if_pos (by omega)]
     exact .inl h
   ·simp at h
 have nl:∀ {l:Nat} {o:IObj},(o=.gone/\l=d)->o.live=true->False:=fun {l o} h hl=>by rw [h.1] at hl; simp [IObj.live] at hl
 constructor
 ·intro l i k s o hb hg
  rcases lk hg with h | h
  ·exact hR.obj _ _ _ _ _ hb h
  ·rw [h.1]; trivial
 ·intro l i l' i' k s s' o o' hb hb' hg hg' hl hl'
  rcases lk hg with h | h
  ·rcases lk hg' with h' | h'
   ·exact hR.one _ _ _ _ _ _ _ _ _ hb hb' h h' hl hl'
   ·exact (nl h' hl').elim
  ·exact (nl h hl).elim
 ·exact hR.here
 ·intro l i o hg hl
  rcases lk hg with h | h
  ·exact hR.has _ _ _ h hl
  ·exact (nl h hl).elim
 ·intro l i p hb
  obtain ⟨o,ho⟩:=hR.dom _ _ _ hb
  unfold look at ho ⊢
  dsimp only
  by_cases hl:l=d
  ·subst hl
   rw [if_pos rfl] at ho
   rw [if_neg (by omega),if_pos (by omega),if_pos rfl]
   have:i<ownV.length:=by rw [hs.1]; exact (zfz.1 ho).1
   exact ⟨_,zf0 this⟩
  ·rw [if_neg hl] at ho
   split at ho
   ·rename_i hlt
    rw [if_neg (by omega),if_pos (by omega),if_neg hl]
    exact ⟨o,ho⟩
   ·simp at ho
theorem start_tr {β:Pl} {W:World} {args:List IV} {args':List Value} (h:VRs β W args args') (n:Nat):TR β W (args++List.replicate (n - args.length) (.tuple [])) (args'.toArray++Array.replicate (n - args'.toArray.size) undef):=by
 unfold TR
 rw [Array.toList_append,Array.toList_replicate]
 refine h.append ⟨by simp [h.1],fun j x y hx hy=>?_⟩
 rw [List.getElem?_replicate] at hx hy
 split at hx
 ·split at hy
  ·cases hx; cases hy; exact zai
  ·simp at hy
 ·simp at hx
theorem leave_sim {d:Nat} {out:yLM} {ownV ownC own ownC':yLO} {β β1:Pl} {W W1:World} {n id mode:Nat} {v v':IV} {x:Value} {e:Eff} (hR:RS β (look d out ownC) W) (hR1:RS β1 (look (d+1) (fun l=>if l=d then ownV else out l) own) W1)
  (hF:Fr (d+1) β W β1 W1) (hv:VR β1 W1 v x) (hl:leave n d own ownC id mode v=some (e,v',ownC')):∃ β',VR β' W1 v' x/\RS β' (look d out ownC') W1/\Fr d β W β' W1:=by
 have hno:∀ i p,β (d+1) i≠some p:=fun i p hb=>by
  obtain ⟨o,ho⟩:=hR.dom _ _ _ hb
  unfold look at ho
  rw [if_neg (by omega),if_neg (by omega)] at ho
  simp at ho
 have hbel:Below W.heap.size W W1:=hF.below hno
 have hnew:∀ i k s,β1 (d+1) i=some (k,s)->W.heap.size<=k:=fun i k s hb=>by
  rcases hF.fresh _ _ _ _ hb with h | ⟨_,⟨i',s',h⟩ | h⟩
  ·exact absurd h (hno _ _)
  ·exact absurd h (hno _ _)
  ·exact h
 have hold:∀ l i p,l≠d+1->β1 l i=some p->β l i=some p:=fun l i p hl hb=>by
  rcases hF.fresh l i p.1 p.2 hb with h | ⟨h,_⟩
  ·exact h
  ·exact absurd h hl
 have hlk:∀ i,look (d+1) (fun l=>if l=d then ownV else out l) own (d+1) i=own[i]?:=fun i=>ya i
 unfold leave at hl
 split at hl
 ·rename_i i off len cap sz tight r hm
  unfold handed at hl
  split at hl
  ·rename_i c hc
   split at hl
   ·rename_i s hs
    split at hl
    ·rename_i c' hc'
     have hcase:∃ (xs:Value),(VR β1 W1 (.slM (d+1) i off len cap sz tight) xs)/\((r=none/\xs=x/\mkAt ownC id (.cells c') (.slM d id 0 len cap sz tight)=some (e,v',ownC'))∨∃ (rl r':List IV) (ws:List Value),r=some rl/\rl.mapM (freeze n (d+1) (own.set i .gone))=some r'/\VRs β1 W1 rl ws/\x=.tuple (xs::ws).toArray/\mkAt ownC id (.cells c') (.tuple (.slM d id 0 len cap sz tight::r'))=some (e,v',ownC')):=by
      split at hm
      ·split at hm
       ·split at hm
        ·rename_i hl1
         cases hm
         subst hl1
         exact ⟨x,hv,.inl ⟨rfl,rfl,hl⟩⟩
        ·simp at hm
       ·rename_i l0 i0 off0 len0 cap0 sz0 tight0 r0
        split at hm
        ·rename_i hl1
         cases hm
         subst hl1
         obtain ⟨ws,hw,rfl⟩:=tupleI hv
         have h1:=hw.1
         cases hws:ws.toList with
         | nil=>rw [hws] at h1; simp at h1
         | cons y ys =>
          rw [hws] at hw
          simp only at hl
          split at hl
          ·rename_i r' hr'
           refine ⟨y,hw.2 0 _ _ rfl rfl,.inr ⟨_,r',ys,rfl,hr',⟨by have:=hw.1; simpa using this,fun j a b ha hb=>hw.2 (j+1) a b (by simpa using ha) (by simpa using hb)⟩,?_,hl⟩⟩
           rw [← hws]
          ·simp at hl
        ·simp at hm
       ·simp at hm
      ·simp at hm
     obtain ⟨xs,hvs,hcs⟩:=hcase
     obtain ⟨k,s0,o',cap',hb,ho,hl1,hl2,htg,hrm,rfl⟩:=zdz hvs
     have hown:look (d+1) (fun l=>if l=d then ownV else out l) own (d+1) i=some (.cells c):=by rw [hlk]; exact hc
     have hor:=hR1.obj _ _ _ _ _ hb hown
     obtain ⟨g1,g2⟩:=ZA hs
     obtain ⟨m1,m2⟩:=zD hc'
     have hfree:ownC[id]?=some .free:=by
      rcases hcs with ⟨_,_,h⟩ | ⟨_,_,_,_,_,_,_,h⟩
      ·exact (yl h).1
      ·exact (yl h).1
     have hnone:β d id=none:=hR.free (by rw [ya]; exact hfree)
     have hk1:k<W1.heap.size:=hR1.here _ _ _ _ hb
     have frz:∀ (z z':IV) (y:Value),VR β1 W1 z y->freeze n (d+1) (own.set i .gone) z=some z'->VR (upd β d id (k,o')) W1 z' y:=by
      intro z z' y
      refine yd (fun l j p hne hbp=>?_) (fun k2 hk2=>⟨hk2.1,fun l j s2 hbp=>?_⟩) (fun j k2 s2 o2 hbp hg hlv=>?_) n z z' y
      ·have:=hold l j p hne hbp
       rw [yU]
       ·exact this
       ·rintro ⟨rfl,rfl⟩
        rw [hnone] at this
        simp at this
      ·by_cases hq:l=d/\j=id
       ·rw [hq.1,hq.2,zO] at hbp
        cases hbp
        exact hk2.2 _ _ _ hb
       ·rw [yU hq] at hbp
        exact hk2.2 _ _ _ (hF.keep _ _ _ hbp)
      ·have hji:j≠i:=by
        rintro rfl
        rw [zg9 (zfz.1 hc).1] at hg
        cases hg
        simp [IObj.live] at hlv
       rw [zg6 (Ne.symm hji)] at hg
       have hg':look (d+1) (fun l=>if l=d then ownV else out l) own (d+1) j=some o2:=by rw [hlk]; exact hg
       refine ⟨⟨hR1.here _ _ _ _ hbp,fun l j' s3 hbq=>?_⟩,hR1.obj _ _ _ _ _ hbp hg'⟩
       by_cases hq:l=d/\j'=id
       ·rw [hq.1,hq.2,zO] at hbq
        cases hbq
        exact hji (hR1.one _ _ _ _ _ _ _ _ _ hbp hb hg' hown hlv rfl).2
       ·rw [yU hq] at hbq
        have h5:=hR.here _ _ _ _ hbq
        have h6:=hnew _ _ _ hbp
        omega
     have hcells:OR (upd β d id (k,o')) W1 k o' (.cells c'):=by
      obtain ⟨cc,ty,hh,hcc⟩:=hor
      refine ⟨cc,ty,hh,fun j z hz=>?_⟩
      obtain ⟨z0,hz0,hfz⟩:=m2 j z hz
      obtain ⟨y,hy,hvy⟩:=hcc _ _ (g2 j z0 hz0)
      have hne:cap≠0:=by
       intro h0
       have hj:=(zfz.1 hz).1
       rw [m1,g1,h0,zhp] at hj
       omega
      refine ⟨y,?_,frz _ _ _ hvy hfz⟩
      rw [← hy,ho.resolve_left hne]
      congr 1
      omega
     obtain ⟨hRn,hFn⟩:=zdw (W':=W1) (k:=k) (s:=o') (o:=.cells c') hR hfree (fun l j s' o2 hbp _ _=>by have h5:=hR.here _ _ _ _ hbp; have h6:=hnew _ _ _ hb; omega) (.inl (hnew _ _ _ hb)) (fun k2 _ hk2=>hbel.block k2 hk2) hbel.size hk1
      (fun c2 t2 f2 hc2=>absurd (zhn.1 hc2).1 (by have:=hnew _ _ _ hb; omega)) hbel.os hbel.tape hbel.output (fun _=>hcells)
     have hsl:VR (upd β d id (k,o')) W1 (.slM d id 0 len cap sz tight) (.slice (some ⟨k,o',none⟩) len cap'):=.slM (zO _ _ _ _) (.inr (by omega)) hl1 hl2 htg hrm
     rcases hcs with ⟨rfl,hxx,hmk⟩ | ⟨rl,r',ws,rfl,hr',hw,rfl,hmk⟩
     ·obtain ⟨_,_,rfl,rfl⟩:=yl hmk
      subst hxx
      exact ⟨_,hsl,hRn,hFn⟩
     ·obtain ⟨_,_,rfl,rfl⟩:=yl hmk
      refine ⟨_,?_,hRn,hFn⟩
      obtain ⟨r1,r2⟩:=zD hr'
      have hw':VRs (upd β d id (k,o')) W1 r' ws:=⟨r1.trans hw.1,fun j a b ha hb'=>by
       obtain ⟨a0,ha0,hfa⟩:=r2 j a ha
       exact frz _ _ _ (hw.2 j a0 b ha0 hb') hfa⟩
      have hall:=hsl |> fun h=>VRs.cons h hw'
      exact .tuple (by simpa using hall.1) (fun j a b ha hb'=>hall.2 j a b ha (by simpa using hb'))
    ·simp at hl
   ·simp at hl
  ·simp at hl
 ·obtain ⟨v2,hv2,hq⟩:=map_some hl
  cases hq
  refine ⟨β,?_,hR.old hbel.block hbel.size,Fr.of_below hbel⟩
  refine yd (fun l j p hne hbp=>hold l j p hne hbp) (fun k2 hk2=>⟨hk2.1,fun l j s2 hbp=>hk2.2 _ _ _ (hF.keep _ _ _ hbp)⟩) (fun j k2 s2 o2 hbp hg hlv=>?_) n v v' x hv hv2
  refine ⟨⟨hR1.here _ _ _ _ hbp,fun l j' s3 hbq=>?_⟩,hR1.obj _ _ _ _ _ hbp (by rw [hlk]; exact hg)⟩
  have h5:=hR.here _ _ _ _ hbq
  have h6:=hnew _ _ _ hbp
  omega
theorem leave_eff {d:Nat} {out:yLM} {ownV ownC own ownC':yLO} {n id mode:Nat} {v v':IV} {e:Eff} (hl:leave n d own ownC id mode v=some (e,v',ownC')) :
  (e=.r/\ownC'=ownC/\∀ o,leave n d own o id mode v=some (.r,v',o))∨∃ O,∀ o,leave n d own o id mode v=mkAt o id O v':=by
 unfold leave at hl ⊢
 split at hl
 ·rename_i i off len cap sz tight r hm
  try simp only [hm]
  unfold handed at hl ⊢
  split at hl
  ·rename_i c hc
   try simp only [hc]
   split at hl
   ·rename_i s hs
    try simp only [hs]
    split at hl
    ·rename_i c' hc'
     try simp only [hc']
     split at hl
     ·obtain ⟨_,_,rfl,_⟩:=yl hl
      exact .inr ⟨_,fun o=>rfl⟩
     ·split at hl
      ·rename_i r' hr'
       obtain ⟨_,_,rfl,_⟩:=yl hl
       refine .inr ⟨.cells c',fun o=>?_⟩
       try simp only [hr']
      ·simp at hl
    ·simp at hl
   ·simp at hl
  ·simp at hl
 ·rename_i hm
  obtain ⟨v2,hv2,hq⟩:=map_some hl
  cases hq
  refine .inl ⟨rfl,rfl,fun o=>?_⟩
  simp only [hm,hv2,zf2]
theorem zca {α:Type} {x:Option (Out × St)} {k:St->Option α} {r:α} (h:ended x k=some r):∃ o st,x=some (o,st)/\(o=.normal∨o=.ret)/\k st=some r:=by
 unfold ended at h
 split at h
 ·exact ⟨_,_,rfl,.inl rfl,h⟩
 ·exact ⟨_,_,rfl,.inr rfl,h⟩
 ·simp at h
theorem callN_eff:∀ n,CallE (callN F S n)
 | 0=>fun d out ownV own id f args e v own1 h=>by simp [callN] at h
 | n+1=>fun d out ownV own id f args e v own1 h=>by
  unfold callN at h ⊢
  split at h
  ·rename_i w hw
   cases h
   try simp only [hw]
   exact ⟨rfl,fun o=>rfl⟩
  ·rename_i hw
   try simp only [hw]
   split at h
   ·simp at h
   ·rename_i fn hfn
    try simp only [hfn]
    split at h
    ·obtain ⟨o,st,_,_,hk⟩:=zca h
     obtain ⟨w,_,hq⟩:=map_some hk
     cases hq
     trivial
    ·rename_i hmode
     try simp only [if_neg hmode]
     split at h
     ·rename_i h3
      try simp only [if_pos h3]
      cases has:args.mapM (freezeA 12 d ownV) with
      | none=>rw [has] at h; simp at h
      | some az =>
       rw [has] at h
       simp only [zge] at h
       obtain ⟨o,st,hx,ho,hk⟩:=zca h
       cases hr:resultI 0 (fun _=>[]) st fn.res with
       | none=>rw [hr] at hk; simp at hk
       | some w =>
        rw [hr] at hk
        simp only [zge] at hk
        have hfun:∀ o2,((some az).bind fun az=>ended (exec (callN F S n) 0 (fun _=>[]) n fn.body ⟨lit (az++List.replicate (fn.ntmps - az.length) (.tuple [])),[]⟩) fun st=>(resultI 0 (fun _=>[]) st fn.res).bind fun v=>scalarR o2 v)=scalarR o2 w:=fun o2=>by
         simp only [zge]
         rw [hx]
         rcases ho with rfl | rfl <;> simp only [ended,hr,zge]
        cases w with
        | int k x =>
         cases hk
         refine ⟨rfl,fun o2=>?_⟩
         simp only [has]
         exact hfun o2
        | bool b =>
         cases hk
         refine ⟨rfl,fun o2=>?_⟩
         simp only [has]
         exact hfun o2
        | _=>simp [scalarR] at hk
     rename_i h3
     try simp only [if_neg h3]
     split at h
     ·obtain rfl:=sortX_x h
      trivial
     rename_i h4
     try simp only [if_neg h4]
     obtain ⟨o,st,hx,ho,hk⟩:=zca h
     cases hr:resultI (d+1) (fun l=>if l=d then ownV else out l) st fn.res with
     | none=>rw [hr] at hk; simp at hk
     | some w =>
      rw [hr] at hk
      simp only [zge] at hk
      have hfun:∀ o2,ended (exec (callN F S n) (d+1) (fun l=>if l=d then ownV else out l) n fn.body ⟨lit (args++List.replicate (fn.ntmps - args.length) (.tuple [])),[]⟩) (fun st=>(resultI (d+1) (fun l=>if l=d then ownV else out l) st fn.res).bind fun v=>leave n d st.own o2 id fn.mode v)=leave n d st.own o2 id fn.mode w:=fun o2=>by
       rw [hx]
       rcases ho with rfl | rfl <;> simp only [ended,hr,zge]
      rcases leave_eff (out:=out) (ownV:=ownV) hk with ⟨rfl,rfl,hall⟩ | ⟨O,hall⟩
      ·exact ⟨rfl,fun o2=>(hfun o2).trans (hall o2)⟩
      ·exact Z7 (fun o2=>(hfun o2).trans (hall o2)) h
theorem rs_noPl {W:World}:RS noPl (look 0 (fun _=>[]) []) W:=by
 refine ⟨fun l i k s o hb=>?_,fun l i l' i' k s s' o o' hb=>?_,fun l i k s hb=>?_,fun l i o hg hl=>?_,fun l i p hb=>?_⟩
 ·simp [noPl] at hb
 ·simp [noPl] at hb
 ·simp [noPl] at hb
 ·unfold look at hg
  split at hg
  ·simp at hg
  ·split at hg
   ·omega
   ·simp at hg
 ·simp [noPl] at hb
theorem rs_noPl_base {β:Pl} {W:World} (h:Base B W0 β W):Base B W0 noPl W:=by
 obtain ⟨_,h2,h3⟩:=h
 exact ⟨fun l i k s hb=>by simp [noPl] at hb,h2,h3⟩
theorem zeh (hm:P.follows .mixedOrders=true) (hF:TabOK P F) (hS:SumOK P B W0 S):∀ n,CallOK P B W0 (callN F S n)
 | 0=>fun d out ownV own id f args e v own1 args' β W h=>by simp [callN] at h
 | n+1=>fun d out ownV own id f args e v own1 args' β W h hb hs hR hargs=>by
  have hC:=zeh hm hF hS n
  have hE:=callN_eff (F:=F) (S:=S) n
  unfold callN at h
  split at h
  ·rename_i w hw
   cases h
   obtain ⟨h1,h2⟩:=hS f args v hw
   refine ⟨h1,(h2 β W args' hb hargs).mono fun x W' hx=>?_⟩
   obtain ⟨y,rfl,hbel,hv⟩:=hx
   exact ⟨y,β,rfl,hv,hR.old hbel.block hbel.size,Fr.of_below hbel,fun _=>hbel⟩
  ·split at h
   ·simp at h
   ·rename_i i hi
    rcases hF f i hi with ⟨hlt,fn,hfn,hcf⟩ | hsrt
    rotate_left
    ·have h4:=hsrt.2.1
     rw [if_neg (by omega),if_neg (by omega),if_pos h4] at h
     exact ⟨hsrt.1,sort_sim hC hsrt h hb hs hR hargs⟩
    unfold cFn at hcf
    split at hcf
    ·simp at hcf
    ·rename_i hnm
     split at hcf
     ·simp at hcf
     ·rename_i c hbody
      split at hcf
      ·rename_i ib ir hcb hcr
       have hi2:i=⟨fn.ntmps,ir,ib,i.mode⟩:=(zgy hcf).symm
       refine ⟨⟨fn,hfn,hnm,by rw [hbody]; rfl⟩,?_⟩
       refine calls_of_wp hfn hbody ?_
       rw [hi2] at h
       simp only at h
       have hst:=start_tr hargs fn.ntmps
       split at h
       ·obtain ⟨o,st,hx,ho,hk⟩:=zca h
        obtain ⟨w,hw,hq⟩:=map_some hk
        cases hq
        rw [zc] at hx
        refine zec hC hE hm c hcb hx hb hst hR fun β1 W1 a1 g1 g2 g3 g4=>?_
        obtain ⟨y,hy,hvy⟩:=Y3 hcr g1 g2 hw
        have hgoal:a1.defers=[]/\∃ u,(results fn a1.tmps).run P W1=.ok u W1/\∃ y β',Ending.returned u=.returned y/\VR β' W1 v y/\RS β' (look d out st.own) W1/\Fr d β W β' W1/\(Eff.x=.r->Below W.heap.size W W1) :=
         ⟨g4,y,hy,y,β1,rfl,hvy,g2,g3,fun h=>by cases h⟩
        rcases ho with rfl | rfl
        ·exact hgoal
        ·exact hgoal
       ·split at h
        ·cases has:args.mapM (freezeA 12 d ownV) with
         | none=>rw [has] at h; simp at h
         | some az =>
          rw [has] at h
          simp only [zge] at h
          obtain ⟨o,st,hx,ho,hk⟩:=zca h
          rw [zc] at hx
          cases hr:resultI 0 (fun _=>[]) st ir with
          | none=>rw [hr] at hk; simp at hk
          | some w =>
           rw [hr] at hk
           simp only [zge] at hk
           have hargs2:VRs noPl W az args':=freezeAs_sim (fun i k s o hbp hg hlv=>by
            have hg2:own[i]?=some o:=by
             rcases hs.2 i o hg with h | h
             ·exact h
             ·rw [h] at hlv; simp [IObj.live] at hlv
            exact ⟨hR.here _ _ _ _ hbp,hR.obj _ _ _ _ _ hbp (by rw [ya]; exact hg2)⟩) hargs has
           refine zec hC hE hm c hcb hx (rs_noPl_base hb) (start_tr hargs2 fn.ntmps) rs_noPl fun β1 W1 a1 g1 g2 g3 g4=>?_
           obtain ⟨y,hy,hvy⟩:=Y3 hcr g1 g2 hr
           have hbel:Below W.heap.size W W1:=g3.below fun i p hb=>by simp [noPl] at hb
           have hvv:own1=own/\VR β W1 v y:=by
            cases w with
            | int k x=>cases hk; refine ⟨rfl,?_⟩; rw [Yl hvy]; exact .int k x
            | bool b=>cases hk; refine ⟨rfl,?_⟩; rw [ZM hvy]; exact .bool b
            | _=>simp [scalarR] at hk
           obtain ⟨rfl,hvv⟩:=hvv
           have hgoal:a1.defers=[]/\∃ u,(results fn a1.tmps).run P W1=.ok u W1/\∃ y β',Ending.returned u=.returned y/\VR β' W1 v y/\RS β' (look d out own1) W1/\Fr d β W β' W1/\(e=.r->Below W.heap.size W W1) :=
            ⟨g4,y,hy,y,β,rfl,hvv,hR.old hbel.block hbel.size,Fr.of_below hbel,fun _=>hbel⟩
           rcases ho with rfl | rfl
           ·exact hgoal
           ·exact hgoal
        ·rw [if_neg (by omega)] at h
         obtain ⟨o,st,hx,ho,hk⟩:=zca h
         rw [zc] at hx
         cases hr:resultI (d+1) (fun l=>if l=d then ownV else out l) st ir with
         | none=>rw [hr] at hk; simp at hk
         | some w =>
          rw [hr] at hk
          simp only [zge] at hk
          refine zec hC hE hm c hcb hx hb hst (rs_in hR hs) fun β1 W1 a1 g1 g2 g3 g4=>?_
          obtain ⟨y,hy,hvy⟩:=Y3 hcr g1 g2 hr
          obtain ⟨β',q1,q2,q3⟩:=leave_sim hR g2 g3 hvy hk
          have hgoal:a1.defers=[]/\∃ u,(results fn a1.tmps).run P W1=.ok u W1/\∃ y β',Ending.returned u=.returned y/\VR β' W1 v y/\RS β' (look d out own1) W1/\Fr d β W β' W1/\(e=.r->Below W.heap.size W W1) :=
           ⟨g4,y,hy,y,β',rfl,q1,q2,q3,fun _=>g3.below fun i p hbp=>by
            obtain ⟨o3,ho3⟩:=hR.dom _ _ _ hbp
            unfold look at ho3
            rw [if_neg (by omega),if_neg (by omega)] at ho3
            cases ho3⟩
          rcases ho with rfl | rfl
          ·exact hgoal
          ·exact hgoal
      ·simp at hcf
theorem run_calls (hm:P.follows .mixedOrders=true) (hF:TabOK P F) {W:World} (hS:SumOK P W.heap.size W S) {n:Nat} {f:FuncId} {args:List IV} {e:Eff} {v:IV} {own1:yLO} (h:callN F S n 0 (fun _=>[]) [] [] 0 f args=some (e,v,own1)) {args':List Value} (ha:VRs noPl W args args') :
  Calls P f args'.toArray W fun x W'=>∃ y β',x=.returned y/\VR β' W' v y/\Below W.heap.size W W':=by
 have hR:RS noPl (look 0 (fun _=>[]) []) W:=by
  refine ⟨fun l i k s o hb=>?_,fun l i l' i' k s s' o o' hb=>?_,fun l i k s hb=>?_,fun l i o hg hl=>?_,fun l i p hb=>?_⟩
  ·simp [noPl] at hb
  ·simp [noPl] at hb
  ·simp [noPl] at hb
  ·unfold look at hg
   split at hg
   ·simp at hg
   ·split at hg
    ·omega
    ·simp at hg
  ·simp [noPl] at hb
 obtain ⟨_,h2⟩:=zeh hm hF hS n 0 (fun _=>[]) [] [] 0 f args e v own1 args' noPl W h ⟨fun l i k s hb=>by simp [noPl] at hb,zf7 _,Below.refl _ _⟩ ⟨rfl,fun i o h=>.inl h⟩ hR ha
 refine h2.mono fun x W' hx=>?_
 obtain ⟨y,β',h3,h4,_,h6,_⟩:=hx
 exact ⟨y,β',h3,h4,h6.below fun i p hb=>by simp [noPl] at hb⟩
end
end
section
section
variable {C:Call} {d:Nat} {out:yLM} {n n0:Nat} {st st':St} {K:yKM}
def Ex (C:Call) (d:Nat) (out:yLM) (n:Nat) (ic:IC) (K:yKM) (st:St):Prop:=∃ o st',exec C d out n ic st=some (o,st')/\K o st'
theorem Ex.mono {ic:IC} {K':yKM} (h:Ex C d out n ic K st) (hk:∀ o st',K o st'->K' o st'):Ex C d out n ic K' st:=let ⟨o,st',h1,h2⟩:=h; ⟨o,st',h1,hk o st' h2⟩
theorem ex_skip (h:K .normal st):Ex C d out n .skip K st:=⟨_,_,rfl,h⟩
theorem ex_ret (h:K .ret st):Ex C d out n .ret K st:=⟨_,_,rfl,h⟩
theorem ex_exit {id:Nat} (h:K (.exit id) st):Ex C d out n (.exit id) K st:=⟨_,_,rfl,h⟩
def andThen (k:St->Prop) (K:yKM):yKM
 | .normal,st=>k st
 | o,st=>K o st
theorem ex_seq {a b:IC} (h:Ex C d out n a (andThen (Ex C d out n b K) K) st):Ex C d out n (.seq a b) K st:=by
 obtain ⟨o,st1,h1,h2⟩:=h
 cases o with
 | normal =>
  obtain ⟨o2,st2,h3,h4⟩:=h2
  exact ⟨o2,st2,by simp only [exec,h1,seqX,h3],h4⟩
 | exit id=>exact ⟨_,st1,by simp only [exec,h1,seqX],h2⟩
 | ret=>exact ⟨_,st1,by simp only [exec,h1,seqX],h2⟩
def inBlock (id:Nat) (K:yKM):yKM
 | .exit j,st=>if j=id then K .normal st else K (.exit j) st
 | o,st=>K o st
theorem ex_block {id:Nat} {a:IC} (h:Ex C d out n a (inBlock id K) st):Ex C d out n (.block id a) K st:=by
 obtain ⟨o,st1,h1,h2⟩:=h
 cases o with
 | normal=>exact ⟨_,st1,by simp only [exec,h1,blockX],h2⟩
 | ret=>exact ⟨_,st1,by simp only [exec,h1,blockX],h2⟩
 | exit j =>
  by_cases hj:j=id
  ·simp only [inBlock,if_pos hj] at h2
   exact ⟨.normal,st1,by simp only [exec,h1,blockX,if_pos hj],h2⟩
  ·simp only [inBlock,if_neg hj] at h2
   exact ⟨.exit j,st1,by simp only [exec,h1,blockX,if_neg hj],h2⟩
theorem ex_loop {a:IC} (I:Nat->St->Prop) (j:Nat) (hn:j<n) (h0:I j st) (h:∀ j st,I j st->Ex C d out n a (andThen (fun st'=>∃ j',j'<j/\I j' st') K) st):Ex C d out n (.loop a) K st:=by
 have key:∀ (m j:Nat) (st:St),j<m->I j st->∃ o st',iter (exec C d out n a) m st=some (o,st')/\K o st':=by
  intro m
  induction m with
  | zero=>intro j st hj; omega
  | succ m ih =>
   intro j st hj hI
   obtain ⟨o,st1,h1,h2⟩:=h j st hI
   cases o with
   | normal =>
    obtain ⟨j',hj',hI'⟩:=h2
    obtain ⟨o2,st2,h3,h4⟩:=ih j' st1 (by omega) hI'
    exact ⟨o2,st2,by simp only [iter,h1,h3],h4⟩
   | exit id=>exact ⟨_,st1,by simp only [iter,h1],h2⟩
   | ret=>exact ⟨_,st1,by simp only [iter,h1],h2⟩
 obtain ⟨o,st',h1,h2⟩:=key n j st hn h0
 exact ⟨o,st',by simp only [exec,h1],h2⟩
def Rn (C:Call) (d:Nat) (out:yLM) (n0:Nat) (ops:List IOpR) (k:St->Prop) (t:List IV) (own:yLO):Prop:=∃ es st',runR C d out false n0 ops ⟨t,own⟩=some (es,st')/\k st'
theorem ex_text {slots:Nat} {ops:List IOpR} {fr:List (Nat × Nat)} (h:Rn C d out st.own.length ops (K .normal) st.t (st.own++List.replicate slots .free)):Ex C d out n (.region false slots ops fr) K st:=by
 obtain ⟨es,st',h1,h2⟩:=h
 refine ⟨.normal,st',?_,h2⟩
 simp only [exec,regionX,zc,h1,zh6,zhu,if_true]
variable {t:List IV} {own own':yLO} {k:St->Prop} {rest:List IOpR}
theorem rn_nil (h:k ⟨t,own⟩):Rn C d out n0 [] k t own:=⟨_,_,rfl,h⟩
theorem rn_cons {dst:Option Nat} {op:IOp} {vis:List Nat} {e:Eff} {v:IV} (he:evOp C d out n0 own own t op=some (e,v,own')) (h:Rn C d out n0 rest k (put t dst v) own'):Rn C d out n0 (⟨dst,op,none,vis⟩::rest) k t own:=by
 obtain ⟨es,st',h1,h2⟩:=h
 refine ⟨e::es,st',?_,h2⟩
 simp only [runR,stepR,wantedI,if_true,zgk,if_false,he,h1]
theorem rn_no {dst:Option Nat} {op:IOp} {vis:List Nat} {g:Nat × Bool} (hg:wantedI t (some g)=false) (h:Rn C d out n0 rest k (put t dst (.tuple [])) own):Rn C d out n0 (⟨dst,op,some g,vis⟩::rest) k t own:=by
 obtain ⟨es,st',h1,h2⟩:=h
 refine ⟨.p::es,st',?_,h2⟩
 simp only [runR,stepR,hg,zgk,if_false,h1]
def Rd (C:Call) (d:Nat) (out:yLM) (n0:Nat) (ops:List IOpR) (k:List Eff->St->Prop) (t:List IV) (own:yLO):Prop:=∃ es st',runR C d out true n0 ops ⟨t,own⟩=some (es,st')/\k es st'
theorem ex_drawn {slots:Nat} {ops:List IOpR} {fr:List (Nat × Nat)} (h:Rd C d out st.own.length ops (fun es st'=>fr.all (fun ji=>comm (es.getD ji.1 .x) (es.getD ji.2 .x))=true/\K .normal st') st.t (st.own++List.replicate slots .free)):Ex C d out n (.region true slots ops fr) K st:=by
 obtain ⟨es,st',h1,h2,h3⟩:=h
 refine ⟨.normal,st',?_,h3⟩
 simp only [exec,regionX,zc,h1,zh2,zhm]
 rw [if_pos h2]
variable {kd:List Eff->St->Prop}
theorem rd_nil (h:kd [] ⟨t,own⟩):Rd C d out n0 [] kd t own:=⟨_,_,rfl,h⟩
theorem rd_cons {dst:Option Nat} {op:IOp} {vis:List Nat} {e:Eff} {v:IV} (he:evOp C d out n0 (hide vis n0 own) own t op=some (e,v,own')) (h:Rd C d out n0 rest (fun es st'=>kd (e::es) st') (put t dst v) own'):Rd C d out n0 (⟨dst,op,none,vis⟩::rest) kd t own:=by
 obtain ⟨es,st',h1,h2⟩:=h
 refine ⟨e::es,st',?_,h2⟩
 simp only [runR,stepR,wantedI,if_true,he,h1]
theorem rd_no {dst:Option Nat} {op:IOp} {vis:List Nat} {g:Nat × Bool} (hg:wantedI t (some g)=false) (h:Rd C d out n0 rest (fun es st'=>kd (.p::es) st') (put t dst (.tuple [])) own):Rd C d out n0 (⟨dst,op,some g,vis⟩::rest) kd t own:=by
 obtain ⟨es,st',h1,h2⟩:=h
 refine ⟨.p::es,st',?_,h2⟩
 simp only [runR,stepR,hg,zgk,if_false,h1]
end
def Fz (k:Nat) (v:IV):Prop:=∀ m,k<=m->∀ lv own,freeze m lv own v=some v
theorem Fz.le {k k':Nat} {v:IV} (h:Fz k v) (hk:k<=k'):Fz k' v:=fun m hm=>h m (zhl hk hm)
theorem zR {f:IV->Option IV}:∀ {l:List IV},(∀ x∈l,f x=some x)->l.mapM f=some l
 | [],_=>rfl
 | x::l,h=>by
  rw [zhy,h x (zgi ..),zR (l:=l) fun y hy=>h y (zgn _ hy)]
  rfl
theorem zn {b:Bool}:Fz 1 (.bool b):=fun m hm lv own=>by obtain ⟨m,rfl⟩:∃ q,m=q+1:=⟨m - 1,by omega⟩; rfl
theorem zo {k:IntKind} {i:Int}:Fz 1 (.int k i):=fun m hm lv own=>by obtain ⟨m,rfl⟩:∃ q,m=q+1:=⟨m - 1,by omega⟩; rfl
theorem fz_str {s:ByteArray}:Fz 1 (.str s):=fun m hm lv own=>by obtain ⟨m,rfl⟩:∃ q,m=q+1:=⟨m - 1,by omega⟩; rfl
theorem ZQ:Fz 1 .nilsl:=fun m hm lv own=>by obtain ⟨m,rfl⟩:∃ q,m=q+1:=⟨m - 1,by omega⟩; rfl
theorem fz_slC {k:Nat} {cs:List IV} {len sz:Nat} {tight:Bool} (h:∀ x∈cs,Fz k x):Fz (k+1) (.slC cs len sz tight):=fun m hm lv own=>by
 obtain ⟨m,rfl⟩:∃ q,m=q+1:=⟨m - 1,by omega⟩
 simp only [freeze,zR fun x hx=>h x hx m (by omega) lv own,zf2]
theorem fz_agg {k:Nat} {cs:List IV} (h:∀ x∈cs,Fz k x):Fz (k+1) (.agg cs):=fun m hm lv own=>by
 obtain ⟨m,rfl⟩:∃ q,m=q+1:=⟨m - 1,by omega⟩
 simp only [freeze,zR fun x hx=>h x hx m (by omega) lv own,zf2]
theorem zei {k:Nat} {cs:List IV} (h:∀ x∈cs,Fz k x):Fz (k+1) (.tuple cs):=fun m hm lv own=>by
 obtain ⟨m,rfl⟩:∃ q,m=q+1:=⟨m - 1,by omega⟩
 simp only [freeze,zR fun x hx=>h x hx m (by omega) lv own,zf2]
def Gives (F:FuncId->Option IFn) (S:ySM) (f:FuncId) (args:List IV) (v:IV):Prop :=
 ∃ N,∀ m,N<=m->∀ d out ownV own id,callN F S m d out ownV own id f args=some (.r,v,own)
section
variable {F:FuncId->Option IFn} {S:ySM}
theorem gives_of {f:FuncId} {i:IFn} {args:List IV} {v w:IV} (hS:S f args=none) (hi:F f=some i) (hm:i.mode=0) (N:Nat)
  (h:∀ m,N<=m->∀ d out,Ex (callN F S m) d out m i.body (fun o st=>(o=.normal∨o=.ret)/\resultI d out st i.res=some v/\freeze m d st.own v=some w) ⟨args++List.replicate (i.ntmps - args.length) (.tuple []),[]⟩):Gives F S f args w:=by
 refine ⟨N+1,fun m hN d out ownV own id=>?_⟩
 obtain ⟨m,rfl⟩:∃ q,m=q+1:=⟨m - 1,by omega⟩
 obtain ⟨o,st,h1,h2,h3,h4⟩:=h m (by omega) (d+1) (fun l=>if l=d then ownV else out l)
 have hm2:¬ i.mode=2:=by omega
 have hm3:¬ i.mode=3:=by omega
 have hm4:¬ 4<=i.mode:=by omega
 have hm1:¬ i.mode=1:=by omega
 simp only [callN,hS,hi,if_neg hm2,if_neg hm3,if_neg hm4,zc,h1]
 rcases h2 with rfl | rfl <;> simp only [ended,h3,zge,leave,if_neg hm1,h4,zf2]
end
theorem yu {i:Nat} (h:i+1<9223372036854775808):wrapI .i64 ((i:Int)+1)=((i+1:Nat):Int):=by
 rw [zC,IntWalk.i64_in _ (by omega)]
 rfl
theorem yb {k:IntKind} {i:Nat}:natI (.int k (i:Int))=some i:=by
 show (if 0<=(i:Int) then some (i:Int).toNat else none)=some i
 rw [if_pos (by omega)]
 simp
theorem zb {α:Type} {g:α->List IV} {sz:Nat} (hg:∀ x,(g x).length=sz):∀ {l:List α} {i:Nat} {x:α} (k n:Nat),l[i]?=some x->k+n<=sz->rdN (l.flatMap g) (i*sz+k) n=rdN (g x) k n
 | [],i,x,k,n,h,_=>by simp at h
 | y::l,0,x,k,n,h,hk=>by
  simp only [zg8,zf5] at h
  subst h
  rw [zgj,zhp,zg5]
  have key:∀ (n k:Nat),k+n<=sz->rdN (g y++l.flatMap g) k n=rdN (g y) k n:=by
   intro n
   induction n with
   | zero=>intro k _; rfl
   | succ n ih =>
    intro k hk
    simp only [rdN]
    rw [zf1 (by rw [hg]; omega),ih (k+1) (by omega)]
  exact key n k hk
 | y::l,i+1,x,k,n,h,hk=>by
  simp only [zgc] at h
  rw [← zb hg k n h hk,zgj]
  have key:∀ (n k:Nat),rdN (g y++l.flatMap g) (sz+k) n=rdN (l.flatMap g) k n:=by
   intro n
   induction n with
   | zero=>intro k; rfl
   | succ n ih =>
    intro k
    simp only [rdN]
    rw [zf4 (by rw [hg]; omega),hg,show sz+k - sz=k by omega,show sz+k+1=sz+(k+1) by omega,ih (k+1)]
  rw [show (i+1)*sz+k=sz+(i*sz+k) by rw [Nat.succ_mul]; omega]
  exact key n _
inductive Sl (sz:Nat):List IV->Nat->IV->Prop where
 | nil:Sl sz [] 0 .nilsl
 | row (cs:List IV) (len:Nat) (tight:Bool) (h:cs.length=len*sz):Sl sz cs len (.slC cs len sz tight)
end
end Go.Proofs.YtdacpmgnhkmnkaaGreatDoor
end
section
namespace Go.Proofs.YtdacpmgnhkmnkaaGreatDoor
open Go Go.RowKit Go.ChangeShapes Go.WideShapes
section
structure SlOf (sz:Nat) {α:Type} (g:α->List IV) where
 l:List α
 v:IV
 ok:Sl sz (l.flatMap g) l.length v
 few:l.length<9223372036854775808
def Reads (P:Program) (W:World) (t:TypeId) {α:Type} (g:α->List IV):Prop :=
 ∀ (H:Type) (enc:TypeId × Value->H) (fuel:Nat) (cs:List Value) (x:DataW H × List MemPlace),DataW.trod enc P W 0 (fun _=>true) true fuel t cs=some x->∃ a:α,VRs noPl W (g a) cs
section
variable {P:Program} {W:World} {t:TypeId}
theorem reads_int {k:IntKind} (ht:P.underlying t=some (.int k)):Reads P W t (fun n:Int=>[IV.int k n]):=fun H enc fuel cs x h=>by
 obtain ⟨n,rfl,_,_⟩:=DataW.trod_int ht h
 exact ⟨n,(VRs.nil).cons (.int k n)⟩
theorem reads_str (ht:P.underlying t=some .string):Reads P W t (fun s:{ s:ByteArray // s.size<=maxLen }=>[IV.str s.1]):=fun H enc fuel cs x h=>by
 obtain ⟨s,rfl,_,hs⟩:=DataW.trod_string ht h
 exact ⟨⟨s,hs⟩,(VRs.nil).cons (.str s)⟩
theorem list_by {α:Type} (Q:Nat->α->Prop):∀ n,(∀ i,i<n->∃ a,Q i a)->∃ l:List α,l.length=n/\∀ i a,l[i]?=some a->Q i a
 | 0,_=>⟨[],rfl,fun i a h=>by simp at h⟩
 | n+1,hp=>by
  obtain ⟨l,hl,hh⟩:=list_by Q n (fun i hi=>hp i (by omega))
  obtain ⟨a,ha⟩:=hp n (by omega)
  refine ⟨l++[a],by simp [hl],fun i b h=>?_⟩
  by_cases hi:i<l.length
  ·rw [zf1 hi] at h; exact hh i b h
  ·rw [zf4 (by omega)] at h
   have hi2:i - l.length=0:=by
    have:=(zfz.1 h).1
    simp at this; omega
   rw [hi2] at h
   simp only [zg8,zf5] at h
   subst h
   have:i=n:=by omega
   subst this
   exact ha
theorem flat_get {α:Type} {g:α->List IV} {sz:Nat} (hg:∀ x,(g x).length=sz):∀ {l:List α} {j:Nat} {z:IV},(l.flatMap g)[j]?=some z->∃ i r x,l[i]?=some x/\r<sz/\(g x)[r]?=some z/\j=i*sz+r
 | [],j,z,h=>by simp at h
 | y::l,j,z,h=>by
  rw [zgj] at h
  by_cases hj:j<(g y).length
  ·rw [zf1 hj] at h
   exact ⟨0,j,y,rfl,by rw [← hg y]; exact hj,h,by omega⟩
  ·rw [zf4 (by omega)] at h
   obtain ⟨i,r,x,h1,h2,h3,h4⟩:=flat_get hg h
   refine ⟨i+1,r,x,by simpa using h1,h2,h3,?_⟩
   rw [hg] at h4 hj
   rw [Nat.succ_mul]
   omega
theorem zq {α:Type} {g:α->List IV} {sz:Nat} (hg:∀ x,(g x).length=sz):∀ {l:List α},(l.flatMap g).length=l.length*sz
 | []=>by simp
 | y::l=>by rw [zgj,zga,hg,zq hg,zf3,Nat.succ_mul]; omega
theorem y7 {α:Type} {g:α->List IV} {e:TypeId} {sz:Nat} (ht:P.underlying t=some (.slice e)) (hc:P.cellsOf e=sz) (hsz:0<sz) (hg:∀ a,(g a).length=sz) (he:Reads P W e g):Reads P W t (fun q:SlOf sz g=>[q.v]):=fun H enc fuel cs x h=>by
 have hlt:=fun p hp=>DataW.trod_lt _ _ _ _ h p hp
 rcases Go.Deep.open_slice ht h with ⟨rfl,_⟩ | ⟨a,len,cap,m,n,D,Pl,rfl,hb,hl,hm,hmm,hx,hel⟩
 ·exact ⟨⟨[],.nilsl,.nil,by simp⟩,(VRs.nil).cons .nilsl⟩
 ·simp only [if_true] at hmm
  subst hmm
  rw [hc] at hel hx
  obtain ⟨l,hll,hls⟩:=list_by (fun i (q:α)=>∃ cs',W.cells? 0 (a.add (i*sz)) sz=some cs'/\VRs noPl W (g q) cs') len (fun i hi=>by
   obtain ⟨cs',h1,h2⟩:=hel i (by omega)
   obtain ⟨q,hq⟩:=he _ _ _ _ _ h2
   exact ⟨q,cs',h1,hq⟩)
  have hcell:∀ (j:Nat) (z:IV),(l.flatMap g)[j]?=some z->∃ y,W.cell? (a.add j)=some y/\VR noPl W z y:=fun j z hz=>by
   obtain ⟨i,r,q,h1,h2,h3,rfl⟩:=flat_get hg hz
   obtain ⟨cs',hcs,hv⟩:=hls i q h1
   obtain ⟨_,_,hat⟩:=World.cells?_some hcs
   obtain ⟨y,hy,hvy⟩:=hv.get h3
   refine ⟨y,?_,hvy⟩
   have:=hat r h2
   rw [Go.Deep.add_add] at this
   rw [this,hy]
  have hfl:=zq (l:=l) hg
  have hspot:len≠0->a.spot=none:=fun h0=>by
   have h1:0<(l.flatMap g).length:=by rw [hfl,hll]; exact Nat.mul_pos (by omega) hsz
   obtain ⟨y,hy,_⟩:=hcell 0 _ (zf0 h1)
   cases hs:a.spot with
   | none=>rfl
   | some s =>
    simp only [World.cell?,Addr.add] at hy
    split at hy
    ·simp [hs] at hy
    ·simp at hy
  have hblk:len≠0->a.block<W.heap.size:=fun h0=>by
   have hrow:MemPlace.cell a.block (a.off+0)∈x.2:=by
    rw [hx]
    refine zhf.2 (Or.inl (MemPlace.mem_row.2 ⟨0,Nat.mul_pos (by omega) hsz,rfl⟩))
   exact hlt _ hrow
  subst hll
  refine ⟨⟨l,.slC (l.flatMap g) l.length sz false,.row _ _ _ hfl,Nat.lt_of_le_of_lt (zhl hl hm) (by decide)⟩,(VRs.nil).cons ?_⟩
  refine zak (k:=a.block) (s:=a.off) (fun h0=>⟨hblk h0,fun l i s hb=>by simp [noPl] at hb⟩) (fun j z hz=>?_) hfl hl (fun h=>by simp at h) (fun h0=>?_)
  ·obtain ⟨y,hy,hvy⟩:=hcell j z hz
   refine ⟨y,?_,hvy⟩
   have h0:l.length≠0:=by
    intro h0
    have:=(zfz.1 hz).1
    rw [hfl,h0] at this
    simp at this
   rw [← hy,Za (hspot h0)]
  ·have:=hspot h0
   cases a
   simp only at this
   rw [this]
end
end
end Go.Proofs.YtdacpmgnhkmnkaaGreatDoor
end
section
namespace Go.Proofs.YtdacpmgnhkmnkaaGreatDoor
open Go Go.RowKit
section
def iv (n:Int):IV:=.int .i64 n
theorem zf (n:Int):iv n=.int .i64 n:=zgr rfl rfl
def intc (n:Int):List IV:=[iv n]
structure Pt where
 x:Int
 y:Int
def Pt.c (p:Pt):List IV:=[iv p.x,iv p.y]
structure Nd where
 id:Int
 at':Pt
def Nd.c (n:Nd):List IV:=[iv n.id,iv n.at'.x,iv n.at'.y]
structure Ac where
 id:Int
 fr:Int
 to:Int
 via:SlOf 2 Pt.c
 l:Int
 r:Int
def Ac.c (a:Ac):List IV:=[iv a.id,iv a.fr,iv a.to,a.via.v,iv a.l,iv a.r]
structure Ft where
 id:Int
 kind:Int
 cls:Int
 name:{ s:ByteArray // s.size<=maxLen }
 parts:SlOf 1 intc
def Ft.c (f:Ft):List IV:=[iv f.id,iv f.kind,iv f.cls,.str f.name.1,f.parts.v]
structure Pn where
 ns:SlOf 3 Nd.c
 az:SlOf 6 Ac.c
 fs:SlOf 1 intc
def Pn.c (p:Pn):List IV:=[p.ns.v,p.az.v,p.fs.v]
structure Sv where
 pl:Pn
 ft:SlOf 5 Ft.c
def Sv.c (s:Sv):List IV:=[s.pl.ns.v,s.pl.az.v,s.pl.fs.v,s.ft.v]
theorem zk (n:Int):(intc n).length=1:=rfl
theorem Pt.c_len (p:Pt):p.c.length=2:=rfl
theorem Nd.c_len (p:Nd):p.c.length=3:=rfl
theorem Ac.c_len (p:Ac):p.c.length=6:=rfl
theorem Ft.c_len (p:Ft):p.c.length=5:=rfl
end
end Go.Proofs.YtdacpmgnhkmnkaaGreatDoor
end
section
namespace Go.Proofs.YtdacpmgnhkmnkaaGreatDoor
open Go Go.RowKit Go.ChangeShapes Go.WideShapes
section
theorem zaw:Tryz.prog.cellsOf 3=1:=by kernel_rfl
theorem rdc_str:Tryz.prog.cellsOf 9=1:=by kernel_rfl
theorem rdc_pt:Tryz.prog.cellsOf 70=2:=by kernel_rfl
theorem rdc_node:Tryz.prog.cellsOf 72=3:=by kernel_rfl
theorem rdc_arc:Tryz.prog.cellsOf 65=6:=by kernel_rfl
theorem rdc_ft:Tryz.prog.cellsOf 36=5:=by kernel_rfl
theorem rdc_plan:Tryz.prog.cellsOf 26=3:=by kernel_rfl
theorem rdc_survey:Tryz.prog.cellsOf 29=4:=by kernel_rfl
theorem rdc_ints:Tryz.prog.cellsOf 24=1:=by kernel_rfl
theorem rdc_points:Tryz.prog.cellsOf 63=1:=by kernel_rfl
theorem rdc_nodes:Tryz.prog.cellsOf 22=1:=by kernel_rfl
theorem rdc_arcs:Tryz.prog.cellsOf 23=1:=by kernel_rfl
theorem rdc_fts:Tryz.prog.cellsOf 27=1:=by kernel_rfl
section
variable {W:World}
theorem Zb:Reads Tryz.prog W 3 intc:=reads_int Tryz.underlying3
theorem rd_ints:Reads Tryz.prog W 24 (fun q:SlOf 1 intc=>[q.v]):=y7 Tryz.underlying24 zaw (by omega) zk Zb
theorem rd_str:Reads Tryz.prog W 9 (fun s:{ s:ByteArray // s.size<=maxLen }=>[IV.str s.1]):=reads_str Tryz.underlying9
theorem rd_pt:Reads Tryz.prog W 70 Pt.c:=fun H enc fuel cs x h=>by
 obtain ⟨xs,n,rfl,hx,hl,hxl,hall⟩:=DataW.trod_struct Tryz.underlying70 h
 rw [rdc_pt] at hl
 match cs,hl,xs,hxl with
 | [v0,v1],_,[x0,x1],_ =>
  have h0:=hall 0 _ rfl
  have h1:=hall 1 _ rfl
  simp [zaw] at h0 h1
  obtain ⟨a,ha⟩:=Zb _ _ _ _ _ h0
  obtain ⟨b,hb⟩:=Zb _ _ _ _ _ h1
  exact ⟨⟨a,b⟩,ha.append hb⟩
theorem rd_points:Reads Tryz.prog W 63 (fun q:SlOf 2 Pt.c=>[q.v]):=y7 Tryz.underlying63 rdc_pt (by omega) Pt.c_len rd_pt
theorem rd_node:Reads Tryz.prog W 72 Nd.c:=fun H enc fuel cs x h=>by
 obtain ⟨xs,n,rfl,hx,hl,hxl,hall⟩:=DataW.trod_struct Tryz.underlying72 h
 rw [rdc_node] at hl
 match cs,hl,xs,hxl with
 | [v0,v1,v2],_,[x0,x1],_ =>
  have h0:=hall 0 _ rfl
  have h1:=hall 1 _ rfl
  simp [zaw,rdc_pt] at h0 h1
  obtain ⟨a,ha⟩:=Zb _ _ _ _ _ h0
  obtain ⟨b,hb⟩:=rd_pt _ _ _ _ _ h1
  exact ⟨⟨a,b⟩,ha.append hb⟩
theorem rd_nodes:Reads Tryz.prog W 22 (fun q:SlOf 3 Nd.c=>[q.v]):=y7 Tryz.underlying22 rdc_node (by omega) Nd.c_len rd_node
theorem rd_arc:Reads Tryz.prog W 65 Ac.c:=fun H enc fuel cs x h=>by
 obtain ⟨xs,n,rfl,hx,hl,hxl,hall⟩:=DataW.trod_struct Tryz.underlying65 h
 rw [rdc_arc] at hl
 match cs,hl,xs,hxl with
 | [v0,v1,v2,v3,v4,v5],_,[x0,x1,x2,x3,x4,x5],_ =>
  have h0:=hall 0 _ rfl
  have h1:=hall 1 _ rfl
  have h2:=hall 2 _ rfl
  have h3:=hall 3 _ rfl
  have h4:=hall 4 _ rfl
  have h5:=hall 5 _ rfl
  simp [zaw,rdc_points] at h0 h1 h2 h3 h4 h5
  obtain ⟨a,ha⟩:=Zb _ _ _ _ _ h0
  obtain ⟨b,hb⟩:=Zb _ _ _ _ _ h1
  obtain ⟨c,hc⟩:=Zb _ _ _ _ _ h2
  obtain ⟨q,hq⟩:=rd_points _ _ _ _ _ h3
  obtain ⟨e,he⟩:=Zb _ _ _ _ _ h4
  obtain ⟨f,hf⟩:=Zb _ _ _ _ _ h5
  exact ⟨⟨a,b,c,q,e,f⟩,((((ha.append hb).append hc).append hq).append he).append hf⟩
theorem rd_arcs:Reads Tryz.prog W 23 (fun q:SlOf 6 Ac.c=>[q.v]):=y7 Tryz.underlying23 rdc_arc (by omega) Ac.c_len rd_arc
theorem rd_ft:Reads Tryz.prog W 36 Ft.c:=fun H enc fuel cs x h=>by
 obtain ⟨xs,n,rfl,hx,hl,hxl,hall⟩:=DataW.trod_struct Tryz.underlying36 h
 rw [rdc_ft] at hl
 match cs,hl,xs,hxl with
 | [v0,v1,v2,v3,v4],_,[x0,x1,x2,x3,x4],_ =>
  have h0:=hall 0 _ rfl
  have h1:=hall 1 _ rfl
  have h2:=hall 2 _ rfl
  have h3:=hall 3 _ rfl
  have h4:=hall 4 _ rfl
  simp [zaw,rdc_str,rdc_ints] at h0 h1 h2 h3 h4
  obtain ⟨a,ha⟩:=Zb _ _ _ _ _ h0
  obtain ⟨b,hb⟩:=Zb _ _ _ _ _ h1
  obtain ⟨c,hc⟩:=Zb _ _ _ _ _ h2
  obtain ⟨q,hq⟩:=rd_str _ _ _ _ _ h3
  obtain ⟨e,he⟩:=rd_ints _ _ _ _ _ h4
  exact ⟨⟨a,b,c,q,e⟩,(((ha.append hb).append hc).append hq).append he⟩
theorem rd_fts:Reads Tryz.prog W 27 (fun q:SlOf 5 Ft.c=>[q.v]):=y7 Tryz.underlying27 rdc_ft (by omega) Ft.c_len rd_ft
theorem rd_plan:Reads Tryz.prog W 26 Pn.c:=fun H enc fuel cs x h=>by
 obtain ⟨xs,n,rfl,hx,hl,hxl,hall⟩:=DataW.trod_struct Tryz.underlying26 h
 rw [rdc_plan] at hl
 match cs,hl,xs,hxl with
 | [v0,v1,v2],_,[x0,x1,x2],_ =>
  have h0:=hall 0 _ rfl
  have h1:=hall 1 _ rfl
  have h2:=hall 2 _ rfl
  simp [rdc_nodes,rdc_arcs,rdc_ints] at h0 h1 h2
  obtain ⟨a,ha⟩:=rd_nodes _ _ _ _ _ h0
  obtain ⟨b,hb⟩:=rd_arcs _ _ _ _ _ h1
  obtain ⟨c,hc⟩:=rd_ints _ _ _ _ _ h2
  exact ⟨⟨a,b,c⟩,(ha.append hb).append hc⟩
theorem rd_survey:Reads Tryz.prog W 29 Sv.c:=fun H enc fuel cs x h=>by
 obtain ⟨xs,n,rfl,hx,hl,hxl,hall⟩:=DataW.trod_struct Tryz.underlying29 h
 rw [rdc_survey] at hl
 match cs,hl,xs,hxl with
 | [v0,v1,v2,v3],_,[x0,x1],_ =>
  have h0:=hall 0 _ rfl
  have h1:=hall 1 _ rfl
  simp [rdc_plan,rdc_fts] at h0 h1
  obtain ⟨a,ha⟩:=rd_plan _ _ _ _ _ h0
  obtain ⟨b,hb⟩:=rd_fts _ _ _ _ _ h1
  exact ⟨⟨a,b⟩,ha.append hb⟩
theorem open_survey {r:Reach} {b0:Nat} {v:Value} {H:Type} {enc:TypeId × Value->H} {d:DataW H} {ps:List MemPlace} (hval:Value.okWide Tryz.prog W r b0 29 v) (hd:DataW.Trod enc Tryz.prog W 0 (fun _=>true) true 29 v d ps):∃ s:Sv,VR noPl W (.agg s.c) v:=by
 obtain ⟨cs,rfl,_⟩:=okWide_struct Tryz.underlying29 hval
 obtain ⟨fuel,hf⟩:=hd
 obtain ⟨s,hs⟩:=rd_survey _ _ _ _ _ hf
 refine ⟨s,?_⟩
 simp only [Value.cells] at hs
 exact .agg (by simpa using hs.1) (fun j x y hx hy=>hs.2 j x y hx (by simpa using hy))
end
end
end Go.Proofs.YtdacpmgnhkmnkaaGreatDoor
end
section
namespace Go.Proofs.YtdacpmgnhkmnkaaGreatDoor
open Go.ChangeShapes Go.WideShapes Go.ChangeAt Go.RowKit
section
theorem laid_out:laidOutB Tryz.prog=true:=by kernel_rfl
section
variable {H:Type} {enc:TypeId × Value->H}
theorem shut_any {t:TypeId} (hr:Tryz.prog.readableRec t=true) (hrow:t<Tryz.prog.types.size) {W W':World} {v:Value} {d:DataW H} {ps:List MemPlace} {sp:Nat->Bool}
  (h:DataW.Trod enc Tryz.prog W 0 (fun _=>true) true t v d ps) (hb:Below W.heap.size W W') (hsp:∀ p∈ps,sp p.block=true):DataW.Trod enc Tryz.prog W' 0 sp true t v d ps:=by
 obtain ⟨fuel,hf⟩:=h
 exact WideElems.Trod_stays laid_out hr hrow ⟨fuel,hf⟩ (fun x hx=>hb.same (DataW.trod_lt _ _ _ _ hf x hx)) hsp
end
end
end Go.Proofs.YtdacpmgnhkmnkaaGreatDoor
end
section
namespace Go.Proofs.YtdacpmgnhkmnkaaGreatDoor
open Go Go.RowKit
section
section
variable {C:Call} {d:Nat} {out:yLM} {n n0:Nat} {st st':St} {K:yKM}
theorem Ex_skip:Ex C d out n .skip K st=K .normal st:=propext ⟨fun ⟨o,st',h,hk⟩=>by simp only [exec,zf5,zic] at h; obtain ⟨rfl,rfl⟩:=h; exact hk,ex_skip⟩
theorem Ex_ret:Ex C d out n .ret K st=K .ret st:=propext ⟨fun ⟨o,st',h,hk⟩=>by simp only [exec,zf5,zic] at h; obtain ⟨rfl,rfl⟩:=h; exact hk,ex_ret⟩
theorem Ex_exit {id:Nat}:Ex C d out n (.exit id) K st=K (.exit id) st:=propext ⟨fun ⟨o,st',h,hk⟩=>by simp only [exec,zf5,zic] at h; obtain ⟨rfl,rfl⟩:=h; exact hk,ex_exit⟩
theorem Ex_seq {a b:IC}:Ex C d out n (.seq a b) K st=Ex C d out n a (andThen (Ex C d out n b K) K) st:=by
 refine propext ⟨fun ⟨o,st',h,hk⟩=>?_,ex_seq⟩
 simp only [exec] at h
 unfold seqX at h
 split at h
 ·rename_i st1 he
  exact ⟨.normal,st1,he,o,st',h,hk⟩
 ·rename_i hne
  refine ⟨o,st',h,?_⟩
  cases o with
  | normal=>exact absurd h (hne _)
  | exit id=>exact hk
  | ret=>exact hk
theorem Ex_block {id:Nat} {a:IC}:Ex C d out n (.block id a) K st=Ex C d out n a (inBlock id K) st:=by
 refine propext ⟨fun ⟨o,st',h,hk⟩=>?_,ex_block⟩
 simp only [exec] at h
 unfold blockX at h
 split at h
 ·rename_i j st1 he
  split at h
  ·rename_i hj
   cases h
   refine ⟨.exit j,st',he,?_⟩
   simp only [inBlock,if_pos hj]
   exact hk
  ·rename_i hj
   cases h
   refine ⟨.exit j,st',he,?_⟩
   simp only [inBlock,if_neg hj]
   exact hk
 ·rename_i hne
  refine ⟨o,st',h,?_⟩
  cases o with
  | normal=>exact hk
  | exit id=>exact absurd h (hne _ _)
  | ret=>exact hk
def ExC (C:Call) (d:Nat) (out:yLM) (n:Nat) (v:IV) (a b:IC) (K:yKM) (st:St):Prop:=match v with
 | .bool true=>Ex C d out n a K st
 | .bool false=>Ex C d out n b K st
 | _=>False
theorem Ex_cond {c:Opd} {a b:IC} {t:List IV} {own:yLO}:Ex C d out n (.cond c a b) K ⟨t,own⟩=ExC C d out n (ρ t c) a b K ⟨t,own⟩:=by
 unfold Ex
 simp only [exec]
 generalize ρ t c=v
 cases v with
 | bool b=>cases b <;> rfl
 | _=>simp [condX,ExC]
theorem ExC_true {a b:IC}:ExC C d out n (.bool true) a b K st=Ex C d out n a K st:=zgr rfl rfl
theorem ExC_false {a b:IC}:ExC C d out n (.bool false) a b K st=Ex C d out n b K st:=zgr rfl rfl
theorem Ex_text {slots:Nat} {ops:List IOpR} {fr:List (Nat × Nat)} {t:List IV} {own:yLO}:Ex C d out n (.region false slots ops fr) K ⟨t,own⟩=Rn C d out own.length ops (K .normal) t (own++List.replicate slots .free):=by
 refine propext ⟨fun ⟨o,st',h,hk⟩=>?_,fun h=>ex_text (st:=⟨t,own⟩) h⟩
 simp only [exec,regionX,zc] at h
 split at h
 ·rename_i es st1 hr
  simp only [zh6,zhu,if_true,zf5,zic] at h
  obtain ⟨rfl,rfl⟩:=h
  exact ⟨es,st1,hr,hk⟩
 ·simp at h
theorem Ex_drawn0 {slots:Nat} {ops:List IOpR} {fr:List (Nat × Nat)} {t:List IV} {own:yLO}:Ex C d out n (.region true slots ops fr) K ⟨t,own⟩=Rd C d out own.length ops (fun es st'=>fr.all (fun ji=>comm (es.getD ji.1 .x) (es.getD ji.2 .x))=true/\K .normal st') t (own++List.replicate slots .free):=by
 refine propext ⟨fun ⟨o,st',h,hk⟩=>?_,fun h=>ex_drawn (st:=⟨t,own⟩) h⟩
 simp only [exec,regionX,zc] at h
 split at h
 ·rename_i es st1 hr
  simp only [zh2,zhm] at h
  split at h
  ·rename_i hc
   cases h
   exact ⟨es,st',hr,hc,hk⟩
  ·simp at h
 ·simp at h
variable {t t':List IV} {own own':yLO} {k:St->Prop} {rest:List IOpR} {kd:List Eff->St->Prop} {acc:List Eff}
def RnP (C:Call) (d:Nat) (out:yLM) (n0:Nat) (rest:List IOpR) (k:St->Prop) (dst:Option Nat) (t:List IV) (r:Res):Prop:=match r with
 | some (_,v,own')=>Rn C d out n0 rest k (put t dst v) own'
 | none=>False
def Ra (C:Call) (d:Nat) (out:yLM) (n0:Nat) (ops:List IOpR) (kd:List Eff->St->Prop) (acc:List Eff) (t:List IV) (own:yLO):Prop:=Rd C d out n0 ops (fun es st'=>kd (acc++es) st') t own
def RaP (C:Call) (d:Nat) (out:yLM) (n0:Nat) (rest:List IOpR) (kd:List Eff->St->Prop) (acc:List Eff) (dst:Option Nat) (t:List IV) (r:Res):Prop:=match r with
 | some (e,v,own')=>Ra C d out n0 rest kd (acc++[e]) (put t dst v) own'
 | none=>False
def Free (fr:List (Nat × Nat)) (K:yKM) (es:List Eff) (st:St):Prop:=fr.all (fun ji=>comm (es.getD ji.1 .x) (es.getD ji.2 .x))=true/\K .normal st
theorem Ex_drawn {slots:Nat} {ops:List IOpR} {fr:List (Nat × Nat)} {t:List IV} {own:yLO}:Ex C d out n (.region true slots ops fr) K ⟨t,own⟩=Ra C d out own.length ops (Free fr K) [] t (own++List.replicate slots .free):=by
 rw [Ex_drawn0]
 rfl
theorem RnP_some {e:Eff} {v:IV} {dst:Option Nat}:RnP C d out n0 rest k dst t (some (e,v,own'))=Rn C d out n0 rest k (put t dst v) own':=zgr rfl rfl
theorem RaP_some {e:Eff} {v:IV} {dst:Option Nat}:RaP C d out n0 rest kd acc dst t (some (e,v,own'))=Ra C d out n0 rest kd (acc++[e]) (put t dst v) own':=zgr rfl rfl
theorem Rn_nil:Rn C d out n0 [] k t own=k ⟨t,own⟩:=propext ⟨fun ⟨es,st',h,hk⟩=>by simp only [runR,zf5,zic] at h; obtain ⟨rfl,rfl⟩:=h; exact hk,rn_nil⟩
theorem Ra_nil:Ra C d out n0 [] kd acc t own=kd acc ⟨t,own⟩:=by
 unfold Ra
 refine propext ⟨fun ⟨es,st',h,hk⟩=>?_,fun h=>rd_nil (by simpa using h)⟩
 simp only [runR,zf5,zic] at h
 obtain ⟨rfl,rfl⟩:=h
 simpa using hk
theorem Rn_cons {dst:Option Nat} {op:IOp} {vis:List Nat}:Rn C d out n0 (⟨dst,op,none,vis⟩::rest) k t own=RnP C d out n0 rest k dst t (evOp C d out n0 own own t op):=by
 refine propext ⟨fun ⟨es,st',h,hk⟩=>?_,fun h=>?_⟩
 ·simp only [runR,stepR,wantedI,if_true,zgk,if_false] at h
  cases he:evOp C d out n0 own own t op with
  | none=>rw [he] at h; simp at h
  | some r =>
   obtain ⟨e,v,o⟩:=r
   rw [he] at h
   simp only at h
   split at h
   ·rename_i es2 st2 hr
    cases h
    exact ⟨es2,st',hr,hk⟩
   ·simp at h
 ·cases he:evOp C d out n0 own own t op with
  | none=>rw [he] at h; exact h.elim
  | some r =>
   obtain ⟨e,v,o⟩:=r
   rw [he] at h
   exact rn_cons he h
theorem Rn_yes {dst:Option Nat} {op:IOp} {vis:List Nat} {g:Nat × Bool} (hg:wantedI t (some g)=true):Rn C d out n0 (⟨dst,op,some g,vis⟩::rest) k t own=RnP C d out n0 rest k dst t (evOp C d out n0 own own t op):=by
 rw [← Rn_cons (vis:=vis)]
 have h0:wantedI t none=true:=zgr rfl rfl
 unfold Rn
 simp only [runR,stepR,hg,h0]
theorem Rn_no {dst:Option Nat} {op:IOp} {vis:List Nat} {g:Nat × Bool} (hg:wantedI t (some g)=false):Rn C d out n0 (⟨dst,op,some g,vis⟩::rest) k t own=Rn C d out n0 rest k (put t dst (.tuple [])) own:=by
 refine propext ⟨fun ⟨es,st',h,hk⟩=>?_,rn_no hg⟩
 simp only [runR,stepR,hg,zgk,if_false] at h
 split at h
 ·rename_i es2 st2 hr
  cases h
  exact ⟨es2,st',hr,hk⟩
 ·simp at h
def RnG (C:Call) (d:Nat) (out:yLM) (n0:Nat) (op:IOp) (v:Option IV) (b:Bool) (rest:List IOpR) (k:St->Prop) (dst:Option Nat) (t:List IV) (own:yLO):Prop:=match v with
 | some (.bool c)=>if c=b then RnP C d out n0 rest k dst t (evOp C d out n0 own own t op) else Rn C d out n0 rest k (put t dst (.tuple [])) own
 | _=>Rn C d out n0 rest k (put t dst (.tuple [])) own
theorem Rn_guard {dst:Option Nat} {op:IOp} {vis:List Nat} {j:Nat} {b:Bool}:Rn C d out n0 (⟨dst,op,some (j,b),vis⟩::rest) k t own=RnG C d out n0 op t[j]? b rest k dst t own:=by
 unfold RnG
 split
 ·rename_i c hc
  split
  ·rename_i hcb
   exact Rn_yes (by simp [wantedI,hc,hcb])
  ·rename_i hcb
   exact Rn_no (by simp [wantedI,hc,hcb])
 ·rename_i hne
  refine Rn_no ?_
  cases hv:t[j]? with
  | none=>simp [wantedI,hv]
  | some v=>cases v with
   | bool c=>exact absurd hv (hne c)
   | _=>simp [wantedI,hv]
def RaG (C:Call) (d:Nat) (out:yLM) (n0:Nat) (op:IOp) (vis:List Nat) (v:Option IV) (b:Bool) (rest:List IOpR) (kd:List Eff->St->Prop) (acc:List Eff) (dst:Option Nat) (t:List IV) (own:yLO):Prop:=match v with
 | some (.bool c)=>if c=b then RaP C d out n0 rest kd acc dst t (evOp C d out n0 (hide vis n0 own) own t op) else Ra C d out n0 rest kd (acc++[.p]) (put t dst (.tuple [])) own
 | _=>Ra C d out n0 rest kd (acc++[.p]) (put t dst (.tuple [])) own
theorem RnG_tt {op:IOp} {dst:Option Nat}:RnG C d out n0 op (some (.bool true)) true rest k dst t own=RnP C d out n0 rest k dst t (evOp C d out n0 own own t op):=by simp [RnG]
theorem RnG_ff {op:IOp} {dst:Option Nat}:RnG C d out n0 op (some (.bool false)) false rest k dst t own=RnP C d out n0 rest k dst t (evOp C d out n0 own own t op):=by simp [RnG]
theorem RnG_tf {op:IOp} {dst:Option Nat}:RnG C d out n0 op (some (.bool true)) false rest k dst t own=Rn C d out n0 rest k (put t dst (.tuple [])) own:=by simp [RnG]
theorem RnG_ft {op:IOp} {dst:Option Nat}:RnG C d out n0 op (some (.bool false)) true rest k dst t own=Rn C d out n0 rest k (put t dst (.tuple [])) own:=by simp [RnG]
theorem RnG_un {op:IOp} {dst:Option Nat} {b:Bool}:RnG C d out n0 op (some (.tuple [])) b rest k dst t own=Rn C d out n0 rest k (put t dst (.tuple [])) own:=by simp [RnG]
theorem Ra_cons {dst:Option Nat} {op:IOp} {vis:List Nat}:Ra C d out n0 (⟨dst,op,none,vis⟩::rest) kd acc t own=RaP C d out n0 rest kd acc dst t (evOp C d out n0 (hide vis n0 own) own t op):=by
 refine propext ⟨fun ⟨es,st',h,hk⟩=>?_,fun h=>?_⟩
 ·simp only [runR,stepR,wantedI,if_true] at h
  cases he:evOp C d out n0 (hide vis n0 own) own t op with
  | none=>rw [he] at h; simp at h
  | some r =>
   obtain ⟨e,v,o⟩:=r
   rw [he] at h
   simp only at h
   split at h
   ·rename_i es2 st2 hr
    cases h
    exact ⟨es2,st',hr,by simpa using hk⟩
   ·simp at h
 ·cases he:evOp C d out n0 (hide vis n0 own) own t op with
  | none=>rw [he] at h; exact h.elim
  | some r =>
   obtain ⟨e,v,o⟩:=r
   rw [he] at h
   obtain ⟨es,st',h1,h2⟩:=h
   exact rd_cons he ⟨es,st',h1,by simpa using h2⟩
theorem Ra_yes {dst:Option Nat} {op:IOp} {vis:List Nat} {g:Nat × Bool} (hg:wantedI t (some g)=true):Ra C d out n0 (⟨dst,op,some g,vis⟩::rest) kd acc t own=RaP C d out n0 rest kd acc dst t (evOp C d out n0 (hide vis n0 own) own t op):=by
 rw [← Ra_cons]
 have h0:wantedI t none=true:=zgr rfl rfl
 unfold Ra Rd
 simp only [runR,stepR,hg,h0]
theorem Ra_no {dst:Option Nat} {op:IOp} {vis:List Nat} {g:Nat × Bool} (hg:wantedI t (some g)=false):Ra C d out n0 (⟨dst,op,some g,vis⟩::rest) kd acc t own=Ra C d out n0 rest kd (acc++[.p]) (put t dst (.tuple [])) own:=by
 unfold Ra
 refine propext ⟨fun ⟨es,st',h,hk⟩=>?_,fun ⟨es,st',h,hk⟩=>rd_no hg ⟨es,st',h,by simpa using hk⟩⟩
 simp only [runR,stepR,hg,zgk,if_false] at h
 split at h
 ·rename_i es2 st2 hr
  cases h
  exact ⟨es2,st',hr,by simpa using hk⟩
 ·simp at h
theorem Ra_guard {dst:Option Nat} {op:IOp} {vis:List Nat} {j:Nat} {b:Bool}:Ra C d out n0 (⟨dst,op,some (j,b),vis⟩::rest) kd acc t own=RaG C d out n0 op vis t[j]? b rest kd acc dst t own:=by
 unfold RaG
 split
 ·rename_i c hc
  split
  ·rename_i hcb
   exact Ra_yes (by simp [wantedI,hc,hcb])
  ·rename_i hcb
   exact Ra_no (by simp [wantedI,hc,hcb])
 ·rename_i hne
  refine Ra_no ?_
  cases hv:t[j]? with
  | none=>simp [wantedI,hv]
  | some v=>cases v with
   | bool c=>exact absurd hv (hne c)
   | _=>simp [wantedI,hv]
theorem RaG_tt {op:IOp} {vis:List Nat} {dst:Option Nat}:RaG C d out n0 op vis (some (.bool true)) true rest kd acc dst t own=RaP C d out n0 rest kd acc dst t (evOp C d out n0 (hide vis n0 own) own t op):=by simp [RaG]
theorem RaG_ff {op:IOp} {vis:List Nat} {dst:Option Nat}:RaG C d out n0 op vis (some (.bool false)) false rest kd acc dst t own=RaP C d out n0 rest kd acc dst t (evOp C d out n0 (hide vis n0 own) own t op):=by simp [RaG]
theorem RaG_tf {op:IOp} {vis:List Nat} {dst:Option Nat}:RaG C d out n0 op vis (some (.bool true)) false rest kd acc dst t own=Ra C d out n0 rest kd (acc++[.p]) (put t dst (.tuple [])) own:=by simp [RaG]
theorem RaG_ft {op:IOp} {vis:List Nat} {dst:Option Nat}:RaG C d out n0 op vis (some (.bool false)) true rest kd acc dst t own=Ra C d out n0 rest kd (acc++[.p]) (put t dst (.tuple [])) own:=by simp [RaG]
theorem RaG_un {op:IOp} {vis:List Nat} {dst:Option Nat} {b:Bool}:RaG C d out n0 op vis (some (.tuple [])) b rest kd acc dst t own=Ra C d out n0 rest kd (acc++[.p]) (put t dst (.tuple [])) own:=by simp [RaG]
theorem yJ {k:St->Prop}:andThen k K .normal st=k st:=zgr rfl rfl
theorem zcv {k:St->Prop}:andThen k K .ret st=K .ret st:=zgr rfl rfl
theorem zax {k:St->Prop} {j:Nat}:andThen k K (.exit j) st=K (.exit j) st:=zgr rfl rfl
theorem Yr {id:Nat}:inBlock id K .normal st=K .normal st:=zgr rfl rfl
theorem zcw {id:Nat}:inBlock id K .ret st=K .ret st:=zgr rfl rfl
theorem zay {id j:Nat}:inBlock id K (.exit j) st=if j=id then K .normal st else K (.exit j) st:=zgr rfl rfl
theorem ρ_at {i:Nat}:ρ t (.tmp i)=getK (.tuple []) t i:=zgr rfl rfl
theorem getK_zero {α:Type} {z x:α} {l:List α}:getK z (x::l) 0=x:=zgr rfl rfl
theorem getK_succ {α:Type} {z x:α} {l:List α} {i:Nat}:getK z (x::l) (i+1)=getK z l i:=zgr rfl rfl
theorem set_zero {α:Type} {x v:α} {l:List α}:(x::l).set 0 v=v::l:=zgr rfl rfl
theorem set_succ {α:Type} {x v:α} {l:List α} {i:Nat}:(x::l).set (i+1) v=x::l.set i v:=zgr rfl rfl
end
section
variable {C:Call} {d:Nat} {out:yLM} {n0:Nat} {own ownV:yLO} {t:List IV}
theorem ev_mov (x:Opd):evOp C d out n0 ownV own t (.mov x)=some (.p,ρ t x,own):=zgr rfl rfl
theorem ev_nilchk (x:Opd):evOp C d out n0 ownV own t (.nilchk x)=e_nilchk own t x:=zgr rfl rfl
theorem ev_pick (c a b:Opd):evOp C d out n0 ownV own t (.pick c a b)=e_pick own t c a b:=zgr rfl rfl
theorem ev_newv (cs:List IV) (slot:Nat):evOp C d out n0 ownV own t (.newv cs slot)=mkAt own (n0+slot) (.cells cs) (.ptrM d (n0+slot) 0):=zgr rfl rfl
theorem ev_box (x:Opd) (slot:Nat):evOp C d out n0 ownV own t (.box x slot)=e_box d n0 own t x slot:=zgr rfl rfl
theorem ev_build (z:List IV) (ps:List (Nat × Nat × Opd)):evOp C d out n0 ownV own t (.build z ps)=(fillI t z ps).map fun c=>(.p,.agg c,own):=zgr rfl rfl
theorem ev_bslice (z:List IV) (sz len:Nat) (ps:List (Nat × Nat × Opd)):evOp C d out n0 ownV own t (.bslice z sz len ps)=e_bslice own t z sz len ps:=zgr rfl rfl
theorem ev_mslice (z:List IV) (sz len:Nat) (ps:List (Nat × Nat × Opd)) (slot:Nat):evOp C d out n0 ownV own t (.mslice z sz len ps slot)=e_mslice d n0 own t z sz len ps slot:=zgr rfl rfl
theorem ev_load (agg:Bool) (n:Nat) (x:Opd):evOp C d out n0 ownV own t (.load agg n x)=e_load d out ownV own t agg n x:=zgr rfl rfl
theorem ev_store (n:Nat) (x v:Opd):evOp C d out n0 ownV own t (.store n x v)=e_store d own t n x v:=zgr rfl rfl
theorem ev_bin (op:BinOp) (x y:Opd):evOp C d out n0 ownV own t (.bin op x y)=(binI op (ρ t x) (ρ t y)).map fun v=>(.p,v,own):=zgr rfl rfl
theorem ev_eqagg (neg:Bool) (ks:List Nat) (x y:Opd):evOp C d out n0 ownV own t (.eqagg neg ks x y)=e_eqagg own t neg ks x y:=zgr rfl rfl
theorem ev_eqb (neg:Bool) (x y:Opd):evOp C d out n0 ownV own t (.eqb neg x y)=e_eqb own t neg x y:=zgr rfl rfl
theorem ev_eqp (neg:Bool) (x y:Opd):evOp C d out n0 ownV own t (.eqp neg x y)=e_eqp own t neg x y:=zgr rfl rfl
theorem ev_eqs (neg:Bool) (x y:Opd):evOp C d out n0 ownV own t (.eqs neg x y)=e_eqs own t neg x y:=zgr rfl rfl
theorem ev_un (op:UnOp) (x:Opd):evOp C d out n0 ownV own t (.un op x)=(unI op (ρ t x)).map fun v=>(.p,v,own):=zgr rfl rfl
theorem ev_conv (k:IntKind) (x:Opd):evOp C d out n0 ownV own t (.conv k x)=e_conv own t k x:=zgr rfl rfl
theorem ev_cstr (x:Opd):evOp C d out n0 ownV own t (.cstr x)=e_cstr own t x:=zgr rfl rfl
theorem ev_mkfn (f:FuncId) (a b:List Opd):evOp C d out n0 ownV own t (.mkfn f a b)=some (.p,.fn f (a.map (ρ t)) (b.map (ρ t)),own):=zgr rfl rfl
theorem ev_mkmap (slot:Nat):evOp C d out n0 ownV own t (.mkmap slot)=mkAt own (n0+slot) (.map [] [] [] 0) (.mapM d (n0+slot)):=zgr rfl rfl
theorem zaz (sz:Nat) (x:Opd) (lo hi mx:Option Opd):evOp C d out n0 ownV own t (.slice sz x lo hi mx)=(sliceI sz t (ρ t x) lo hi mx).map fun v=>(.p,v,own):=zgr rfl rfl
theorem ev_faddr (off:Nat) (x:Opd):evOp C d out n0 ownV own t (.faddr off x)=e_faddr own t off x:=zgr rfl rfl
theorem ev_field (agg:Bool) (off n:Nat) (x:Opd):evOp C d out n0 ownV own t (.field agg off n x)=e_field own t agg off n x:=zgr rfl rfl
theorem ev_iaddrA (sz len:Nat) (x ix:Opd):evOp C d out n0 ownV own t (.iaddrA sz len x ix)=e_iaddrA own t sz len x ix:=zgr rfl rfl
theorem zy (agg:Bool) (sz len:Nat) (x ix:Opd):evOp C d out n0 ownV own t (.index agg sz len x ix)=e_index own t agg sz len x ix:=zgr rfl rfl
theorem Zf (z:IV) (kt:Bool × List Nat) (ok:Bool) (x ix:Opd):evOp C d out n0 ownV own t (.lookup z kt ok x ix)=e_lookup d out ownV own t z kt ok x ix:=zgr rfl rfl
theorem ZR (kt:Bool × List Nat) (m k v:Opd):evOp C d out n0 ownV own t (.mapupd kt m k v)=e_mapupd d own t kt m k v:=zgr rfl rfl
theorem zej (x:Opd) (i:Nat):evOp C d out n0 ownV own t (.extract x i)=e_extract own t x i:=zgr rfl rfl
theorem ev_call (f:Opd) (xs:List Opd) (slot:Nat):evOp C d out n0 ownV own t (.call f xs slot)=e_call C d out n0 ownV own t f xs slot:=zgr rfl rfl
theorem zt (z:List IV) (sz:Nat) (zeros:Bool) (s x:Opd) (slot:Nat):evOp C d out n0 ownV own t (.append z sz zeros s x slot)=e_append d out n0 ownV own t z sz zeros s x slot:=zgr rfl rfl
theorem ev_mx (m:Bool) (x y:Opd):evOp C d out n0 ownV own t (.mx m x y)=e_mx own t m x y:=zgr rfl rfl
theorem ev_cap (x:Opd):evOp C d out n0 ownV own t (.cap x)=e_cap own t x:=zgr rfl rfl
end
theorem zdg {x:IV} {l:List IV} {k:Nat}:∀ {n:Nat},rdN (x::l) (k+1) n=rdN l k n
 | 0=>rfl
 | n+1=>by simp only [rdN,zgc]; rw [zdg (k:=k+1)]
theorem rd_here {x:IV} {l:List IV} {n:Nat}:rdN (x::l) 0 (n+1)=(rdN l 0 n).map (x::·):=by
 simp only [rdN,zg8,zg5]
 rw [zdg]
theorem rd_none {l:List IV} {k:Nat}:rdN l k 0=some []:=zgr rfl rfl
theorem zdh {x:IV} {l:List IV} {k:Nat}:∀ {vs:List IV},wrN (x::l) (k+1) vs=x::wrN l k vs
 | []=>rfl
 | v::vs=>by simp only [wrN,zim]; rw [zdh (k:=k+1)]
theorem wr_here {x v:IV} {l vs:List IV}:wrN (x::l) 0 (v::vs)=v::wrN l 0 vs:=by
 simp only [wrN,List.set_cons_zero,zg5]
 rw [zdh]
theorem wr_none {l:List IV} {k:Nat}:wrN l k []=l:=zgr rfl rfl
end
section
section
variable {α:Type} {g:α->List IV} {sz:Nat} {C:Call} {d:Nat} {out:yLM} {n0:Nat} {own ownV:yLO} {t:List IV}
noncomputable def lenV (d:Nat) (out:yLM) (ownV own:yLO) (k:Nat) (v:IV):Res :=
 match v with
  | .nilsl=>if k=1 then some (.p,.int .i64 0,own) else none
  | .slM _ _ _ n _ _ _=>if k=1 then some (.p,.int .i64 n,own) else none
  | .slC _ n _ _=>if k=1 then some (.p,.int .i64 n,own) else none
  | .str s=>if k=0 then some (.p,.int .i64 s.size,own) else none
  | .nilmap=>if k=2 then some (.p,.int .i64 0,own) else none
  | .mapC ks _=>if k=2 then some (.p,.int .i64 ks.length,own) else none
  | .mapM l i=>if k=2 then match look d out ownV l i with
   | some (.map ks _ _ _)=>some (.r,.int .i64 ks.length,own)
   | _=>none
   else none
  | _=>none
theorem ev_len {k:Nat} {x:Opd}:evOp C d out n0 ownV own t (.len k x)=lenV d out ownV own k (ρ t x):=zgr rfl rfl
theorem lenV_sl (q:SlOf sz g):lenV d out ownV own 1 q.v=some (.p,.int .i64 (q.l.length:Nat),own):=by
 obtain ⟨l,v,ok,few⟩:=q
 have hh:∀ (cs:List IV) (n:Nat) (v:IV),Sl sz cs n v->lenV d out ownV own 1 v=some (.p,.int .i64 (n:Nat),own):=fun cs n v h=>by cases h <;> rfl
 exact hh _ _ _ ok
theorem lenV_slM {l i off n cap z:Nat} {tight:Bool}:lenV d out ownV own 1 (.slM l i off n cap z tight)=some (.p,.int .i64 n,own):=zgr rfl rfl
theorem lenV_slC {cs:List IV} {n z:Nat} {tight:Bool}:lenV d out ownV own 1 (.slC cs n z tight)=some (.p,.int .i64 n,own):=zgr rfl rfl
theorem lenV_nil:lenV d out ownV own 1 .nilsl=some (.p,.int .i64 0,own):=zgr rfl rfl
noncomputable def iaddrV (own:yLO) (sz:Nat) (v ix:IV):Res :=
 match v,natI ix with
  | .slM l i off len _ _ _,some j=>if j<len then some (.p,.ptrM l i (off+j*sz),own) else none
  | .slC cs len _ _,some j=>if j<len then some (.p,.ptrC cs (j*sz),own) else none
  | _,_=>none
theorem ev_iaddr {z:Nat} {x ix:Opd}:evOp C d out n0 ownV own t (.iaddr z x ix)=iaddrV own z (ρ t x) (ρ t ix):=zgr rfl rfl
theorem za (q:SlOf sz g) {k:IntKind} {i:Nat} (h:i<q.l.length):iaddrV own sz q.v (.int k i)=some (.p,.ptrC (q.l.flatMap g) (i*sz),own):=by
 obtain ⟨l,v,ok,few⟩:=q
 have hh:∀ (cs:List IV) (n:Nat) (v:IV),Sl sz cs n v->i<n->iaddrV own sz v (.int k i)=some (.p,.ptrC cs (i*sz),own):=fun cs n v h hi=>by
  cases h
  ·omega
  ·unfold iaddrV
   rw [yb]
   exact if_pos hi
 exact hh _ _ _ ok h
theorem zZ {cs:List IV} {n z:Nat} {tight:Bool} {k:IntKind} {i:Nat} (h:i<n):iaddrV own z (.slC cs n sz tight) (.int k i)=some (.p,.ptrC cs (i*z),own):=by
 unfold iaddrV
 rw [yb]
 exact if_pos h
theorem zK {l b off n cap z z':Nat} {tight:Bool} {k:IntKind} {i:Nat} (h:i<n):iaddrV own z (.slM l b off n cap z' tight) (.int k i)=some (.p,.ptrM l b (off+i*z),own):=by
 unfold iaddrV
 rw [yb]
 exact if_pos h
theorem za0 (q:SlOf sz g):q.v.scalar=true:=by
 obtain ⟨l,v,ok,few⟩:=q
 have hh:∀ (cs:List IV) (n:Nat) (v:IV),Sl sz cs n v->v.scalar=true:=fun cs n v h=>by cases h <;> rfl
 exact hh _ _ _ ok
theorem sl_cells (q:SlOf sz g):q.v.cells=[q.v]:=by
 obtain ⟨l,v,ok,few⟩:=q
 have hh:∀ (cs:List IV) (n:Nat) (v:IV),Sl sz cs n v->v.cells=[v]:=fun cs n v h=>by cases h <;> rfl
 exact hh _ _ _ ok
theorem yV (q:SlOf sz g) {lk:Nat->Nat->Option IObj}:cellsI lk sz q.v=some (q.l.flatMap g,q.l.length):=by
 obtain ⟨l,v,ok,few⟩:=q
 have hh:∀ (cs:List IV) (n:Nat) (v:IV),Sl sz cs n v->cellsI lk sz v=some (cs,n):=fun cs n v h=>by
  cases h
  ·rfl
  ·rename_i h
   simp only [cellsI,seg,zc,zg5,h,zf7,if_true,List.drop_zero,zf2]
   rw [zgg (by omega)]
 exact hh _ _ _ ok
end
theorem cells_agg {cs:List IV}:(IV.agg cs).cells=cs:=zgr rfl rfl
theorem cells_int {k:IntKind} {n:Int}:(IV.int k n).cells=[.int k n]:=zgr rfl rfl
theorem zek {b:Bool}:(IV.bool b).cells=[.bool b]:=zgr rfl rfl
theorem cells_str {s:ByteArray}:(IV.str s).cells=[.str s]:=zgr rfl rfl
theorem zcx:IV.nilsl.cells=[.nilsl]:=zgr rfl rfl
theorem za1:IV.nilptr.cells=[.nilptr]:=zgr rfl rfl
theorem zel {k:IntKind} {n:Int}:(IV.int k n).scalar=true:=zgr rfl rfl
theorem scal_bool {b:Bool}:(IV.bool b).scalar=true:=zgr rfl rfl
theorem scal_str {s:ByteArray}:(IV.str s).scalar=true:=zgr rfl rfl
theorem Y4:IV.nilsl.scalar=true:=zgr rfl rfl
theorem scal_ptrM {l i o:Nat}:(IV.ptrM l i o).scalar=true:=zgr rfl rfl
theorem scal_slM {l i o n c z:Nat} {tight:Bool}:(IV.slM l i o n c z tight).scalar=true:=zgr rfl rfl
theorem scal_slC {cs:List IV} {n z:Nat} {tight:Bool}:(IV.slC cs n z tight).scalar=true:=zgr rfl rfl
theorem cells_slM {l i o n c z:Nat} {tight:Bool}:(IV.slM l i o n c z tight).cells=[.slM l i o n c z tight]:=zgr rfl rfl
theorem cells_slC {cs:List IV} {n z:Nat} {tight:Bool}:(IV.slC cs n z tight).cells=[.slC cs n z tight]:=zgr rfl rfl
theorem scal_fn {f:FuncId} {a b:List IV}:(IV.fn f a b).scalar=true:=zgr rfl rfl
section
variable {vis:List Nat} {n:Nat} {x y z w:IObj} {l:yLO}
theorem hide_k0:(hide vis (n+1) (x::l))[0]?=some x:=by rw [zw]; simp
theorem hide_k1:(hide vis (n+1+1) (x::y::l))[1]?=some y:=by rw [zw]; simp
theorem hide_k2:(hide vis (n+1+1+1) (x::y::z::l))[2]?=some z:=by rw [zw]; simp
variable {a b c e:IObj}
theorem hide_k4:(hide vis (n+1+1+1+1+1) (x::y::z::w::a::l))[4]?=some a:=by rw [zw]; simp
theorem hide_k5:(hide vis (n+1+1+1+1+1+1) (x::y::z::w::a::b::l))[5]?=some b:=by rw [zw]; simp
theorem hide_k6:(hide vis (n+1+1+1+1+1+1+1) (x::y::z::w::a::b::c::l))[6]?=some c:=by rw [zw]; simp
theorem hide_end {J:yLO}:(hide vis (J.length+1+1) (x::(J++[y])))[J.length+1]?=some y:=by rw [zw]; simp
theorem hide_k3:(hide vis (n+1+1+1+1) (x::y::z::w::l))[3]?=some w:=by rw [zw]; simp
end
section
variable {α:Type} {l r:List α} {x y v:α}
theorem YI:(l++x::r)[l.length]?=some x:=by simp
theorem zem:(l++x::y::r)[l.length+1]?=some y:=by simp
variable {z w:α}
theorem za2:(l++x::y::z::r)[l.length+2]?=some z:=by simp
theorem get_end3:(l++x::y::z::w::r)[l.length+3]?=some w:=by simp
theorem YJ:(l++x::r).set l.length v=l++v::r:=by simp
theorem set_end1:(l++x::y::r).set (l.length+1) v=l++x::v::r:=by simp
end
section
variable {C:Call} {d:Nat} {out:yLM} {n:Nat} {st:St} {K:yKM}
theorem zd {a:IC} (I:Nat->St->Prop) (j:Nat) (hn:j<n) (h0:I j st)
  (h:∀ (j:Nat) (st:St) (K':yKM),I j st->(∀ st' j',j'<j->I j' st'->K' .normal st')->(∀ id st',K (.exit id) st'->K' (.exit id) st')->(∀ st',K .ret st'->K' .ret st')->Ex C d out n a K' st):Ex C d out n (.loop a) K st :=
 ex_loop I j hn h0 fun j st hI=>h j st _ hI (fun st' j' h1 h2=>⟨j',h1,h2⟩) (fun id st' hk=>hk) (fun st' hk=>hk)
end
section
variable {F:FuncId->Option IFn} {S:ySM} {d:Nat} {out:yLM} {rs:List IRes} {v:IV} {st:St}
def Fin (d:Nat) (out:yLM) (rs:List IRes) (v:IV) (o:Out) (st:St):Prop:=(o=.normal∨o=.ret)/\resultI d out st rs=some v
theorem Fin_ret:Fin d out rs v .ret st=(resultI d out st rs=some v):=propext ⟨fun h=>h.2,fun h=>⟨.inr rfl,h⟩⟩
theorem zen:Fin d out rs v .normal st=(resultI d out st rs=some v):=propext ⟨fun h=>h.2,fun h=>⟨.inl rfl,h⟩⟩
theorem zdc {r:IRes}:resultI d out st [r]=resI d out st r:=by
 unfold resultI
 cases h:resI d out st r <;> simp [h]
theorem res2 {r r':IRes}:resultI d out st [r,r']=(resI d out st r).bind fun v=>(resI d out st r').map fun w=>.tuple [v,w]:=by
 unfold resultI
 cases h:resI d out st r with
 | none=>simp [h]
 | some v=>cases h':resI d out st r' <;> simp [h,h']
noncomputable def cellV (d:Nat) (out:yLM) (own:yLO) (agg:Bool) (n:Nat) (v:IV):Option IV:=match v with
 | .ptrM l i off=>match look d out own l i with
  | some (.cells c)=>(rdN c off n).bind (mkv agg)
  | _=>none
 | _=>none
theorem Ys {t:List IV} {own:yLO} {i:Nat}:resI d out ⟨t,own⟩ (.tmp i)=some (getK (.tuple []) t i):=by
 simp only [resI]
 rw [zI]
theorem resI_cell {t:List IV} {own:yLO} {agg:Bool} {n a:Nat}:resI d out ⟨t,own⟩ (.cell agg n a)=cellV d out own agg n (getK (.tuple []) t a):=by
 simp only [resI]
 rw [zI]
 rfl
theorem zH {f:FuncId} {i:IFn} {args:List IV} {k:Nat} (hS:S f args=none) (hi:F f=some i) (hm:i.mode=0) (hv:Fz k v) (N:Nat) (hN:k<=N)
  (h:∀ m,N<=m->∀ d out,Ex (callN F S m) d out m i.body (Fin d out i.res v) ⟨args++List.replicate (i.ntmps - args.length) (.tuple []),[]⟩):Gives F S f args v :=
 gives_of hS hi hm N fun m hm2 d out=>(h m hm2 d out).mono fun o st' hk=>⟨hk.1,hk.2,hv m (by omega) _ _⟩
end
section
variable {F:FuncId->Option IFn} {S:ySM}
def FinF (d:Nat) (out:yLM) (rs:List IRes) (m:Nat) (w:IV) (o:Out) (st:St):Prop:=(o=.normal∨o=.ret)/\∃ v,resultI d out st rs=some v/\freeze m d st.own v=some w
variable {d m:Nat} {out:yLM} {rs:List IRes} {w:IV} {st:St}
theorem yo:FinF d out rs m w .ret st=∃ v,resultI d out st rs=some v/\freeze m d st.own v=some w:=propext ⟨fun h=>h.2,fun h=>⟨.inr rfl,h⟩⟩
theorem zcy:FinF d out rs m w .normal st=∃ v,resultI d out st rs=some v/\freeze m d st.own v=some w:=propext ⟨fun h=>h.2,fun h=>⟨.inl rfl,h⟩⟩
theorem zeo {f:FuncId} {i:IFn} {args:List IV} {w:IV} (hS:S f args=none) (hi:F f=some i) (hm:i.mode=0) (N:Nat)
  (h:∀ m,N<=m->∀ d out,Ex (callN F S m) d out m i.body (FinF d out i.res m w) ⟨args++List.replicate (i.ntmps - args.length) (.tuple []),[]⟩):Gives F S f args w:=by
 refine ⟨N+1,fun m hN d out ownV own id=>?_⟩
 obtain ⟨m,rfl⟩:∃ q,m=q+1:=⟨m - 1,by omega⟩
 obtain ⟨o,st,h1,h2,v,h3,h4⟩:=h m (by omega) (d+1) (fun l=>if l=d then ownV else out l)
 have hm2:¬ i.mode=2:=by omega
 have hm3:¬ i.mode=3:=by omega
 have hm4:¬ 4<=i.mode:=by omega
 have hm1:¬ i.mode=1:=by omega
 simp only [callN,hS,hi,if_neg hm2,if_neg hm3,if_neg hm4,zc,h1]
 rcases h2 with rfl | rfl <;> simp only [ended,h3,zge,leave,if_neg hm1,h4,zf2]
end
section
variable {α:Type} {g:α->List IV} {sz:Nat}
theorem sl_fz {k:Nat} (hg:∀ a,∀ x∈g a,Fz k x) {l:List α} {len:Nat} {tight:Bool}:Fz (k+1) (.slC (l.flatMap g) len sz tight):=fz_slC fun x hx=>by
 obtain ⟨a,_,h⟩:=zh1.1 hx
 exact hg a x h
theorem yW {k m d i n:Nat} (hg:∀ a,∀ x∈g a,Fz k x) (hk:k+1<=m) {l:List α} {own:yLO} {tight:Bool} (hl:l.length=n) (hs:∀ a,(g a).length=sz) (ho:own[i]?=some (.cells (l.flatMap g))):freeze m d own (.slM d i 0 n n sz tight)=some (.slC (l.flatMap g) n sz (tight&&true)):=by
 obtain ⟨m,rfl⟩:∃ q,m=q+1:=⟨m - 1,by omega⟩
 have hseg:seg (l.flatMap g) 0 (n*sz)=some (l.flatMap g):=by
  unfold seg
  rw [zc,zq hs,hl,if_pos (by omega),List.drop_zero,zgg (by rw [zq hs,hl]; exact zf7 _)]
 simp only [freeze,if_true,ho,hseg,zge]
 rw [zR fun x hx=>by
  obtain ⟨a,_,h⟩:=zh1.1 hx
  exact hg a x h m (by omega) d own]
 simp
end
end
section
theorem Wc:(type_of% @Ex_seq)/\(type_of% @Ex_text)/\(type_of% @Ex_drawn)/\(type_of% @Ex_block)/\(type_of% @Ex_skip)/\(type_of% @Ex_ret)/\(type_of% @Ex_exit)/\(type_of% @yJ)/\(type_of% @zcv)/\(type_of% @zax)/\(type_of% @Yr)/\(type_of% @zcw)/\(type_of% @zay)/\(type_of% @Rn_cons)/\(type_of% @Rn_nil)/\(type_of% @RnP_some)/\(type_of% @Ra_cons)/\(type_of% @Ra_nil)/\(type_of% @RaP_some)/\(type_of% @ev_len)/\(type_of% @ev_iaddr)/\(type_of% @ev_mov)/\(type_of% @ev_nilchk)/\(type_of% @ev_pick)/\(type_of% @ev_newv)/\(type_of% @ev_box)/\(type_of% @ev_build)/\(type_of% @ev_bslice)/\(type_of% @ev_load)/\(type_of% @ev_store)/\(type_of% @ev_bin)/\(type_of% @ev_eqagg)/\(type_of% @ev_eqb)/\(type_of% @ev_eqp)/\(type_of% @ev_eqs)/\(type_of% @ev_un)/\(type_of% @ev_conv)/\(type_of% @ev_cstr)/\(type_of% @ev_mkfn)/\(type_of% @ev_mkmap)/\(type_of% @ev_faddr)/\(type_of% @ev_field)/\(type_of% @ev_iaddrA)/\(type_of% @zy)/\(type_of% @zej)/\(type_of% @ev_call)/\(type_of% @ev_mx)/\(type_of% @lenV_sl)/\(type_of% @lenV_slM)/\(type_of% @lenV_slC)/\(type_of% @lenV_nil)/\(type_of% @zc)/\(type_of% @ρ_at)/\(type_of% @ρ_const)/\(type_of% @put_none)/\(type_of% @set_zero)/\(type_of% @set_succ)/\(type_of% @cells_agg)/\(type_of% @cells_int)/\(type_of% @zek)/\(type_of% @cells_str)/\(type_of% @zcx)/\(type_of% @za1)/\(type_of% @sl_cells)/\(type_of% @zel)/\(type_of% @scal_bool)/\(type_of% @scal_str)/\(type_of% @Y4)/\(type_of% @scal_ptrM)/\(type_of% @scal_fn)/\(type_of% @za0)/\(type_of% @zdg)/\(type_of% @rd_here)/\(type_of% @rd_none)/\(type_of% @zdh)/\(type_of% @wr_here)/\(type_of% @wr_none)/\(type_of% @YI)/\(type_of% @zem)/\(type_of% @YJ)/\(type_of% @set_end1)/\(type_of% @Fin_ret)/\(type_of% @zen)/\(type_of% @Ex_cond)/\(type_of% @ExC_true)/\(type_of% @ExC_false)/\(type_of% @Rn_guard)/\(type_of% @RnG_tt)/\(type_of% @RnG_ff)/\(type_of% @RnG_tf)/\(type_of% @RnG_ft)/\(type_of% @RnG_un)/\(type_of% @zf)/\(type_of% @zdc)/\(type_of% @res2)/\(type_of% @Ys)/\(type_of% @resI_cell)/\(type_of% @yo)/\(type_of% @zcy)/\(type_of% @scal_slM)/\(type_of% @scal_slC)/\(type_of% @cells_slM)/\(type_of% @cells_slC)/\(type_of% @hide_k0)/\(type_of% @hide_k1)/\(type_of% @hide_k2)/\(type_of% @hide_k3)/\(type_of% @hide_k4)/\(type_of% @hide_k5)/\(type_of% @hide_k6)/\(type_of% @Ra_guard)/\(type_of% @RaG_tt)/\(type_of% @RaG_ff)/\(type_of% @RaG_tf)/\(type_of% @RaG_ft)/\(type_of% @RaG_un)/\(type_of% @za2)/\(type_of% @get_end3)/\(type_of% @hide_end) :=
 ⟨@Ex_seq,@Ex_text,@Ex_drawn,@Ex_block,@Ex_skip,@Ex_ret,@Ex_exit,@yJ,@zcv,@zax,@Yr,@zcw,@zay,@Rn_cons,@Rn_nil,@RnP_some,@Ra_cons,@Ra_nil,@RaP_some,@ev_len,@ev_iaddr,@ev_mov,@ev_nilchk,@ev_pick,@ev_newv,@ev_box,@ev_build,@ev_bslice,@ev_load,@ev_store,@ev_bin,@ev_eqagg,@ev_eqb,@ev_eqp,@ev_eqs,@ev_un,@ev_conv,@ev_cstr,@ev_mkfn,@ev_mkmap,@ev_faddr,@ev_field,@ev_iaddrA,@zy,@zej,@ev_call,@ev_mx,@lenV_sl,@lenV_slM,@lenV_slC,@lenV_nil,@zc,@ρ_at,@ρ_const,@put_none,@set_zero,@set_succ,@cells_agg,@cells_int,@zek,@cells_str,@zcx,@za1,@sl_cells,@zel,@scal_bool,@scal_str,@Y4,@scal_ptrM,@scal_fn,@za0,@zdg,@rd_here,@rd_none,@zdh,@wr_here,@wr_none,@YI,@zem,@YJ,@set_end1,@Fin_ret,@zen,@Ex_cond,@ExC_true,@ExC_false,@Rn_guard,@RnG_tt,@RnG_ff,@RnG_tf,@RnG_ft,@RnG_un,@zf,@zdc,@res2,@Ys,@resI_cell,@yo,@zcy,@scal_slM,@scal_slC,@cells_slM,@cells_slC,@hide_k0,@hide_k1,@hide_k2,@hide_k3,@hide_k4,@hide_k5,@hide_k6,@Ra_guard,@RaG_tt,@RaG_ff,@RaG_tf,@RaG_ft,@RaG_un,@za2,@get_end3,@hide_end⟩
theorem Wall:(type_of% @Wc)/\(type_of% @getK_zero)/\(type_of% @getK_succ)/\(type_of% @zN) :=
 ⟨@Wc,@getK_zero,@getK_succ,@zN⟩
end
end Go.Proofs.YtdacpmgnhkmnkaaGreatDoor
end
section
namespace Go.Proofs.YtdacpmgnhkmnkaaGreatDoor
open Go
section
abbrev oR (d:Nat) (o:IOp):IOpR:=⟨some d,o,none,[]⟩
abbrev oM (d a:Nat):IOpR:=⟨some d,.mov (.tmp a),none,[]⟩
abbrev oG (d:Nat) (o:IOp) (j:Nat) (b:Bool):IOpR:=⟨some d,o,some (j,b),[]⟩
abbrev oN (o:IOp):IOpR:=⟨none,o,none,[]⟩
abbrev oL (d a:Nat):IOpR:=⟨some d,.load false 1 (.tmp a),none,[]⟩
abbrev oA (d n a:Nat):IOpR:=⟨some d,.load true n (.tmp a),none,[]⟩
abbrev oD (d n a b:Nat):IOpR:=⟨some d,.iaddr n (.tmp a) (.tmp b),none,[]⟩
abbrev oF (d k a:Nat):IOpR:=⟨some d,.faddr k (.tmp a),none,[]⟩
abbrev oK (d:Nat) (x:Int):IOpR:=⟨some d,.mov (.const (.int .i64 x)),none,[]⟩
abbrev oJ (d:Nat) (o:BinOp) (a:Nat) (x:Int):IOpR:=⟨some d,.bin o (.tmp a) (.const (.int .i64 x)),none,[]⟩
abbrev oB (d:Nat) (o:BinOp) (a b:Nat):IOpR:=⟨some d,.bin o (.tmp a) (.tmp b),none,[]⟩
abbrev oE (d n a:Nat):IOpR:=⟨some d,.len n (.tmp a),none,[]⟩
abbrev oX (d a i:Nat):IOpR:=⟨some d,.extract (.tmp a) i,none,[]⟩
abbrev oH (d a s:Nat):IOpR:=⟨some d,.box (.tmp a) s,none,[]⟩
abbrev oZ (s:Nat) (l:List IOpR):IC:=.region false s l []
abbrev oC (a e:Nat):IC:=.cond (.tmp a) .skip (.exit e)
abbrev oT (a:Nat):Opd:=.tmp a
abbrev oI (x:Int):Opd:=.const (.int .i64 x)
def upL:Nat->List Nat->List Nat
 | 0,a=>a
 | n+1,a=>upL n (n::a)
def setV:List IOpR->Nat->List Nat->List (Nat × Nat)->List IOpR
 | [],_,_,_=>[]
 | o::l,i,cur,[]=>{ o with vis:=cur }::setV l (i+1) cur []
 | o::l,i,cur,(k,n)::vs=>match Nat.beq i k with
  | true=>{ o with vis:=upL n [] }::setV l (i+1) (upL n []) vs
  | false=>{ o with vis:=cur }::setV l (i+1) cur ((k,n)::vs)
abbrev Ann:Type:=List (List (Nat × Nat) × List (Nat × Nat))
def uK (P:Program):Nat->TypeId->Option (List Nat)
 | 0,_=>none
 | D+1,t=>match P.underlying t with
  | some .bool=>some [0]
  | some (.int _)=>some [1]
  | some .string=>some [2]
  | some (.struct fs)=>catK (uK P D) fs.toList 0
  | some (.array len e)=>(uK P D e).map fun l=>repK l len
  | _=>none
def uOp (P:Program) (o:Op) (slot:Nat):Option IOp :=
 match o with
 | .binOp op t x y z=>match P.underlying t,cOpd x,cOpd y with
  | some (.struct _),some x,some y=>(uK P 40 t).map fun ks=>.eqagg (match op with | .neq=>true | _=>false) ks x y
  | some (.array _ _),some x,some y=>(uK P 40 t).map fun ks=>.eqagg (match op with | .neq=>true | _=>false) ks x y
  | _,_,_=>cOp P (.binOp op t x y z) slot
 | .lookup t x ix ok=>match P.underlying t,cOpd x,cOpd ix with
  | some (.map k e),some y,some j=>match uK P 40 k,P.underlying k with
   | some kt,some u=>(zeroT P e).map fun z=>.lookup z (aggD u,kt) ok y j
   | _,_=>none
  | _,_,_=>none
 | .mapUpdate t m k v=>match P.underlying t,cOpd m,cOpd k,cOpd v with
  | some (.map kt _),some a,some b,some c=>match uK P 40 kt,P.underlying kt with
   | some l,some u=>some (.mapupd (aggD u,l) a b c)
   | _,_=>none
  | _,_,_,_=>none
 | o=>cOp P o slot
def uOps (P:Program) (ops:Array Oper):List Oper->Nat->Option (List IOpR × Nat)
 | [],s=>some ([],s)
 | o::rest,s=>match uOp P o.op s,cGuard ops o.guard with
  | some op,some g=>match uOps P ops rest (if op.makes then s+1 else s) with
   | some (l,s')=>some (⟨o.dst,op,g,[]⟩::l,s')
   | none=>none
  | _,_=>none
def uCode (P:Program):Code->Ann->Option (IC × Ann)
 | .skip,an=>some (.skip,an)
 | .region _ ops draw,an=>match uOps P ops ops.toList 0 with
  | none=>none
  | some (l,s)=>match draw,an with
   | false,an=>some (.region false s l [],an)
   | true,(vs,fr)::an=>some (.region true s (setV l 0 [] vs) fr,an)
   | true,[]=>none
 | .seq a b,an=>match uCode P a an with
  | some (x,an)=>match uCode P b an with
   | some (y,an)=>some (.seq x y,an)
   | none=>none
  | none=>none
 | .cond c a b,an=>match cOpd c,uCode P a an with
  | some z,some (x,an)=>match uCode P b an with
   | some (y,an)=>some (.cond z x y,an)
   | none=>none
  | _,_=>none
 | .block id a,an=>match uCode P a an with
  | some (x,an)=>some (.block id x,an)
  | none=>none
 | .loop a,an=>match uCode P a an with
  | some (x,an)=>some (.loop x,an)
  | none=>none
 | .exit id,an=>some (.exit id,an)
 | .ret,an=>some (.ret,an)
 | _,_=>none
def uCF (P:Program) (fn:Func) (an:Ann) (mode:Nat):Option IFn:=match fn.body with
 | none=>none
 | some c=>match uCode P c an,allM (cRes P) fn.results.toList with
  | some (b,_),some r=>some ⟨fn.ntmps,r,b,mode⟩
  | _,_=>none
abbrev uFn (mode:Nat) (fn:Func) (an:Ann) {i:IFn} (_:uCF Tryz.prog fn an mode=some i:=by conv=>lhs; reduce; simp only [Int.reduceOfNat,Int.reduceNegSucc]):IFn:=i
noncomputable section
def i4:IFn:=⟨70,[(.tmp 2)],(.seq (oZ 1 [oH 1 0 0,oR 2 (.mov (.const (.bool false)))]) (.seq (.seq (oZ 1 [oA 8 4 1,oR 9 (.call (.const (.fn 9 [] [])) [(oT 8)] 0),oR 10 (.un .not (oT 9))]) (.cond (oT 10) (.seq (oZ 1 [oR 11 (.call (.const (.fn 6 [] [])) [] 0),oM 2 11]) .ret) .skip)) (.seq (.seq (oZ 0 [oK 3 0]) (.block 0 (.loop (.seq (.seq (oZ 0 [oM 12 3,oF 13 3 1,oL 14 13,oE 15 1 14,oB 16 .lss 12 15]) (oC 16 0)) (.seq (.block 1 (.seq (oZ 1 [oF 19 3 1,oL 20 19,oM 21 3,oD 22 5 20 21,oA 23 5 22,oR 4 (.newv [(.int .i64 0),(.int .i64 0),(.int .i64 0),(.str (bs [])),.nilsl] 0),oN (.store 5 (oT 4) (oT 23))]) (.seq (oZ 1 [oA 24 4 1,oF 25 0 4,oL 26 25,oR 27 (.call (.const (.fn 10 [] [])) [(oT 24),(oT 26)] 0),oM 5 27]) (.seq (.seq (oZ 1 [oF 28 1 4,oL 29 28,oR 30 (.call (.const (.fn 11 [] [])) [(oT 29)] 0),oJ 31 .neq 30 3]) (.cond (oT 31) (.seq (.seq (oZ 0 [oM 32 5,oJ 33 .neq 32 0]) (.cond (oT 33) (.seq (oZ 0 [oR 2 (.mov (.const (.bool false)))]) .ret) .skip)) (.exit 1)) .skip)) (.seq (.region true 4 [oA 34 4 1,oM 35 3,oF 36 4 4,oL 37 36,oR 38 (.slice 1 (oT 37) .none (.some (oI 1)) .none),oR 39 (.call (.const (.fn 12 [] [])) [(oT 34),(oT 35),(oT 38)] 0),oF 40 0 4,oL 41 40,⟨(.some 42),(.call (.const (.fn 10 [] [])) [(oT 39),(oT 41)] 1),.none,[0]⟩,oA 43 4 1,oM 44 3,oF 45 4 4,oL 46 45,oR 47 (.slice 1 (oT 46) (.some (oI 1)) .none .none),⟨(.some 48),(.call (.const (.fn 12 [] [])) [(oT 43),(oT 44),(oT 47)] 2),.none,[0,1]⟩,oF 49 0 4,oL 50 49,⟨(.some 51),(.call (.const (.fn 10 [] [])) [(oT 48),(oT 50)] 3),.none,[0,1,2]⟩,⟨(.some 6),(.mov (oT 42)),.none,[0,1,2,3]⟩,⟨(.some 7),(.mov (oT 51)),.none,[0,1,2,3]⟩] [(0,3),(0,7),(3,7),(5,7),(0,9),(3,9),(5,9),(7,9),(8,9),(0,12),(3,12),(5,12),(7,12),(8,12),(9,12),(0,16),(3,16),(5,16),(7,16),(8,16),(9,16),(12,16),(14,16)]) (.seq (oZ 0 [oM 52 5,oJ 53 .lss 52 1,oM 54 53,oG 55 (.mov (oT 6)) 54 false,oG 56 (.bin .lss (oT 55) (oI 1)) 54 false,oR 57 (.pick (oT 54) (.const (.bool true)) (oT 56)),oM 58 57,oG 59 (.mov (oT 7)) 58 false,oG 60 (.bin .lss (oT 59) (oI 0)) 58 false,oR 61 (.pick (oT 58) (.const (.bool true)) (oT 60)),oM 62 61,oG 63 (.mov (oT 6)) 62 false,oG 64 (.mov (oT 7)) 62 false,oG 65 (.bin .add (oT 63) (oT 64)) 62 false,oG 66 (.mov (oT 5)) 62 false,oG 67 (.bin .neq (oT 65) (oT 66)) 62 false,oR 68 (.pick (oT 62) (.const (.bool true)) (oT 67))]) (.cond (oT 68) (.seq (oZ 0 [oR 2 (.mov (.const (.bool false)))]) .ret) .skip))))))) (oZ 0 [oM 17 3,oJ 18 .add 17 1,oM 3 18])))))) (.seq (oZ 1 [oR 69 (.call (.const (.fn 6 [] [])) [] 0),oM 2 69]) .ret)))),0⟩
def i5:IFn:=uFn 0 Tryz.f5 []
def i6:IFn:=uFn 0 Tryz.f6 [([(2,1),(3,2),(7,3),(8,4),(13,5),(14,6),(19,7),(20,8),(25,9),(26,10),(30,11),(31,12),(35,13),(41,14),(42,15),(47,16),(48,17)],[(38,40),(44,46)])]
def i7:IFn:=uFn 3 Tryz.f7 []
def i9:IFn:=uFn 0 Tryz.f9 []
def i10:IFn:=⟨105,[(.tmp 4)],(.seq (oZ 1 [oH 2 0 0,oK 4 0]) (.seq (oZ 2 [oA 16 4 2,oM 17 1,oR 18 (.call (.const (.fn 16 [] [])) [(oT 16),(oT 17)] 0),oM 15 18,oX 19 15 0,oX 20 15 1,oR 5 (.newv [(.int .i64 0),(.int .i64 0),(.int .i64 0),(.str (bs [])),.nilsl] 1),oN (.store 5 (oT 5) (oT 19)),oM 6 20]) (.seq (.seq (oZ 2 [oM 21 6,oR 22 (.un .not (oT 21)),oM 23 22,oG 24 (.faddr 1 (oT 5)) 23 false,oG 25 (.load false 1 (oT 24)) 23 false,oG 26 (.call (.const (.fn 11 [] [])) [(oT 25)] 0) 23 false,oG 27 (.bin .neq (oT 26) (oI 3)) 23 false,oR 28 (.pick (oT 23) (.const (.bool true)) (oT 27)),oM 29 28,oG 30 (.faddr 0 (oT 2)) 29 false,oG 31 (.load true 3 (oT 30)) 29 false,oG 32 (.call (.const (.fn 36 [] [])) [(oT 31)] 1) 29 false,oG 33 (.bin .neq (oT 32) (oI 0)) 29 false,oR 34 (.pick (oT 29) (.const (.bool true)) (oT 33))]) (.cond (oT 34) (.seq (oZ 0 [oK 4 0]) .ret) .skip)) (.seq (.seq (oZ 0 [oF 35 0 2,oF 36 1 35,oL 37 36,oE 38 1 37,oK 39 0]) (.block 0 (.loop (.seq (oZ 0 [oB 40 .lss 39 38]) (.seq (oC 40 0) (.seq (.block 1 (.seq (oZ 1 [oD 41 6 37 39,oA 42 6 41,oR 8 (.newv [(.int .i64 0),(.int .i64 0),(.int .i64 0),.nilsl,(.int .i64 0),(.int .i64 0)] 0),oN (.store 6 (oT 8) (oT 42))]) (.seq (.region true 2 [oF 43 4 5,oL 44 43,oF 45 4 8,oL 46 45,oR 47 (.call (.const (.fn 37 [] [])) [(oT 44),(oT 46)] 0),oF 48 4 5,oL 49 48,oF 50 5 8,oL 51 50,⟨(.some 52),(.call (.const (.fn 37 [] [])) [(oT 49),(oT 51)] 1),.none,[0]⟩,⟨(.some 9),(.mov (oT 47)),.none,[0,1]⟩,⟨(.some 10),(.mov (oT 52)),.none,[0,1]⟩] [(1,3),(1,6),(3,6),(4,6),(1,8),(3,8),(4,8),(6,8)]) (.seq (.seq (oZ 0 [oM 53 9,oM 54 10,oR 55 (.eqb false (oT 53) (oT 54))]) (.cond (oT 55) (.exit 1) .skip)) (.seq (oZ 0 [oK 11 0]) (.seq (oZ 1 [oF 57 0 2,oA 58 3 57,oF 59 0 8,oL 60 59,oR 61 (.call (.const (.fn 38 [] [])) [(oT 58),(oT 60)] 0),oM 56 61,oX 62 56 0,oX 63 56 1,oM 12 62,oM 13 63]) (.seq (.seq (oZ 0 [oK 14 1]) (.block 2 (.loop (.seq (.seq (oZ 0 [oM 64 14,oM 65 12,oE 66 1 65,oB 67 .lss 64 66]) (oC 67 2)) (.seq (.block 3 (.region true 0 [oM 70 11,oM 71 12,oM 72 14,oJ 73 .sub 72 1,oD 74 2 71 73,oF 75 0 74,oL 76 75,oM 77 12,oM 78 14,oD 79 2 77 78,oF 80 1 79,oL 81 80,oB 82 .mul 76 81,oM 83 12,oM 84 14,oD 85 2 83 84,oF 86 0 85,oL 87 86,oM 88 12,oM 89 14,oJ 90 .sub 89 1,oD 91 2 88 90,oF 92 1 91,oL 93 92,oB 94 .mul 87 93,oB 95 .sub 82 94,oB 96 .add 70 95,oM 11 96] [(6,11),(6,17),(11,17),(6,23),(11,23),(17,23)])) (oZ 0 [oM 68 14,oJ 69 .add 68 1,oM 14 69])))))) (.seq (.seq (oZ 0 [oM 97 10]) (.cond (oT 97) (oZ 0 [oM 98 11,oR 99 (.un .neg (oT 98)),oM 11 99]) .skip)) (oZ 0 [oM 100 4,oM 101 11,oB 102 .add 100 101,oM 4 102]))))))))) (oZ 0 [oJ 103 .add 39 1,oM 39 103]))))))) (.seq (oZ 0 [oM 104 4,oM 4 104]) .ret))))),0⟩
def i11:IFn:=uFn 0 Tryz.f11 []
def i12:IFn:=⟨19,[(.cell true 4 6)],(.seq (oZ 2 [oH 3 0 0,oR 6 (.newv [.nilsl,.nilsl,.nilsl,.nilsl] 1)]) (.seq (oZ 1 [oR 7 (.bslice [(.int .i64 0),(.int .i64 0),(.int .i64 0),(.str (bs [])),.nilsl] 5 0 []),oF 8 3 3,oL 9 8,oR 10 (.append [(.int .i64 0),(.int .i64 0),(.int .i64 0),(.str (bs [])),.nilsl] 5 false (oT 7) (oT 9) 0),oF 11 3 3,oN (.store 1 (oT 11) (oT 10))]) (.seq (oZ 0 [oF 12 3 3,oL 13 12,oM 14 1,oM 15 2,oD 16 5 13 14,oF 17 4 16,oN (.store 1 (oT 17) (oT 15))]) (.seq (oZ 0 [oA 18 4 3,oN (.store 4 (oT 6) (oT 18))]) .ret)))),0⟩
def i13:IFn:=uFn 0 Tryz.f13 []
def i14:IFn:=⟨28,[(.cell true 4 8)],(.seq (oZ 1 [oR 8 (.newv [.nilsl,.nilsl,.nilsl,.nilsl] 0)]) (.seq (oZ 1 [oR 10 (.build [(.int .i64 0),(.int .i64 0),(.int .i64 0)] [(0,(1,(oI 1)))]),oR 11 (.bslice [(.int .i64 0),(.int .i64 0),(.int .i64 0)] 3 1 [(0,(3,(oT 10)))]),oR 12 (.build [(.int .i64 0),(.int .i64 0)] [(0,(1,(oI 10)))]),oR 13 (.build [(.int .i64 0),(.int .i64 0)] [(0,(1,(oI 10))),(1,(1,(oI 10)))]),oR 14 (.build [(.int .i64 0),(.int .i64 0)] [(1,(1,(oI 10)))]),oR 15 (.bslice [(.int .i64 0),(.int .i64 0)] 2 3 [(0,(2,(oT 12))),(2,(2,(oT 13))),(4,(2,(oT 14)))]),oR 16 (.build [(.int .i64 0),(.int .i64 0),(.int .i64 0),.nilsl,(.int .i64 0),(.int .i64 0)] [(0,(1,(oI 1))),(1,(1,(oI 1))),(2,(1,(oI 1))),(3,(1,(oT 15))),(4,(1,(oI 1)))]),oR 17 (.bslice [(.int .i64 0),(.int .i64 0),(.int .i64 0),.nilsl,(.int .i64 0),(.int .i64 0)] 6 1 [(0,(6,(oT 16)))]),oR 18 (.bslice [(.int .i64 0)] 1 1 [(0,(1,(oI 1)))]),oR 19 (.build [.nilsl,.nilsl,.nilsl] [(0,(1,(oT 11))),(1,(1,(oT 17))),(2,(1,(oT 18)))]),oR 9 (.newv [.nilsl,.nilsl,.nilsl] 0),oN (.store 3 (oT 9) (oT 19))]) (.seq (oZ 0 [oA 20 3 9,oM 21 0,oM 22 1,oM 23 2,oM 24 3,oR 25 (.build [(.int .i64 0),(.int .i64 0),(.int .i64 0),(.str (bs [])),.nilsl] [(0,(1,(oI 5))),(1,(1,(oT 21))),(2,(1,(oT 22))),(3,(1,(oT 23))),(4,(1,(oT 24)))]),oR 26 (.bslice [(.int .i64 0),(.int .i64 0),(.int .i64 0),(.str (bs [])),.nilsl] 5 1 [(0,(5,(oT 25)))]),oR 27 (.build [.nilsl,.nilsl,.nilsl,.nilsl] [(0,(3,(oT 20))),(3,(1,(oT 26)))]),oN (.store 4 (oT 8) (oT 27))]) .ret))),0⟩
def i15:IFn:=⟨99,[(.cell true 4 4),(.tmp 5)],(.seq (oZ 2 [oH 2 0 0,oR 4 (.newv [(.int .i64 0),(.int .i64 0),(.int .i64 0),(.int .i64 0)] 1),oR 5 (.mov (.const (.bool false)))]) (.seq (oZ 2 [oA 18 4 2,oM 19 1,oR 20 (.call (.const (.fn 16 [] [])) [(oT 18),(oT 19)] 0),oM 17 20,oX 21 17 0,oX 22 17 1,oR 6 (.newv [(.int .i64 0),(.int .i64 0),(.int .i64 0),(.str (bs [])),.nilsl] 1),oN (.store 5 (oT 6) (oT 21)),oM 5 22]) (.seq (.seq (oZ 0 [oM 23 5,oR 24 (.un .not (oT 23))]) (.cond (oT 24) (.seq (oZ 0 [oA 25 4 4,oN (.store 4 (oT 4) (oT 25)),oR 5 (.mov (.const (.bool false)))]) .ret) .skip)) (.seq (oZ 1 [oR 7 (.newv [.nilsl] 0)]) (.seq (oZ 0 [oR 26 (.mkfn 39 [] [(oT 2),(oT 7)]),oM 8 26]) (.seq (.seq (oZ 1 [oF 27 1 6,oL 28 27,oR 29 (.call (.const (.fn 11 [] [])) [(oT 28)] 0)]) (.block 0 (.seq (oZ 0 [oJ 31 .eql 29 1,oM 30 31]) (.cond (oT 30) (.seq (oZ 0 [oF 32 4 6,oL 33 32,oE 34 1 33,oK 35 0]) (.block 1 (.loop (.seq (oZ 0 [oB 36 .lss 35 34]) (.seq (oC 36 1) (.seq (.block 2 (.seq (oZ 0 [oD 37 1 33 35,oL 38 37,oM 10 38]) (.seq (oZ 2 [oF 40 0 2,oA 41 3 40,oM 42 10,oR 43 (.call (.const (.fn 40 [] [])) [(oT 41),(oT 42)] 0),oM 39 43,oX 44 39 0,oX 45 39 1,oR 11 (.newv [(.int .i64 0),(.int .i64 0),(.int .i64 0)] 1),oN (.store 3 (oT 11) (oT 44)),oM 12 45]) (.seq (oZ 0 [oM 46 12]) (.cond (oT 46) (oZ 1 [oL 47 7,oF 48 1 11,oA 49 2 48,oR 50 (.bslice [(.int .i64 0),(.int .i64 0)] 2 1 [(0,(2,(oT 49)))]),oR 51 (.append [(.int .i64 0),(.int .i64 0)] 2 false (oT 47) (oT 50) 0),oN (.store 1 (oT 7) (oT 51))]) .skip))))) (oZ 0 [oJ 52 .add 35 1,oM 35 52]))))))) (.seq (oZ 0 [oJ 54 .eql 29 2,oM 53 54]) (.cond (oT 53) (.seq (oZ 0 [oF 55 4 6,oL 56 55,oE 57 1 56,oK 58 0]) (.block 3 (.loop (.seq (oZ 0 [oB 59 .lss 58 57]) (.seq (oC 59 3) (.seq (.block 4 (.seq (oZ 0 [oD 60 1 56 58,oL 61 60,oM 14 61]) (oZ 1 [oM 62 8,oM 63 14,oR 64 (.call (oT 62) [(oT 63)] 0)]))) (oZ 0 [oJ 65 .add 58 1,oM 58 65]))))))) (.seq (oZ 0 [oJ 67 .eql 29 3,oM 66 67]) (.cond (oT 66) (.seq (oZ 0 [oF 68 0 2,oF 69 1 68,oL 70 69,oE 71 1 70,oK 72 0]) (.block 5 (.loop (.seq (oZ 0 [oB 73 .lss 72 71]) (.seq (oC 73 5) (.seq (.block 6 (.seq (oZ 1 [oD 74 6 70 72,oA 75 6 74,oR 16 (.newv [(.int .i64 0),(.int .i64 0),(.int .i64 0),.nilsl,(.int .i64 0),(.int .i64 0)] 0),oN (.store 6 (oT 16) (oT 75))]) (.seq (oZ 2 [oF 76 4 6,oL 77 76,oF 78 4 16,oL 79 78,oR 80 (.call (.const (.fn 37 [] [])) [(oT 77),(oT 79)] 0),oM 81 80,oG 82 (.faddr 4 (oT 6)) 81 false,oG 83 (.load false 1 (oT 82)) 81 false,oG 84 (.faddr 5 (oT 16)) 81 false,oG 85 (.load false 1 (oT 84)) 81 false,oG 86 (.call (.const (.fn 37 [] [])) [(oT 83),(oT 85)] 1) 81 false,oR 87 (.pick (oT 81) (.const (.bool true)) (oT 86))]) (.cond (oT 87) (oZ 1 [oM 88 8,oF 89 0 16,oL 90 89,oR 91 (.call (oT 88) [(oT 90)] 0)]) .skip)))) (oZ 0 [oJ 92 .add 72 1,oM 72 92]))))))) .skip)))))))) (.seq (.seq (oZ 0 [oL 93 7,oE 94 1 93,oJ 95 .eql 94 0]) (.cond (oT 95) (.seq (oZ 0 [oA 96 4 4,oN (.store 4 (oT 4) (oT 96)),oR 5 (.mov (.const (.bool false)))]) .ret) .skip)) (.seq (oZ 1 [oL 97 7,oR 98 (.call (.const (.fn 41 [] [])) [(oT 97)] 0),oN (.store 4 (oT 4) (oT 98)),oR 5 (.mov (.const (.bool true)))]) .ret)))))))),0⟩
def i16:IFn:=⟨26,[(.cell true 5 4),(.tmp 5)],(.seq (oZ 2 [oH 2 0 0,oR 4 (.newv [(.int .i64 0),(.int .i64 0),(.int .i64 0),(.str (bs [])),.nilsl] 1),oR 5 (.mov (.const (.bool false)))]) (.seq (.seq (oZ 0 [oF 8 3 2,oL 9 8,oE 10 1 9,oK 11 0]) (.block 0 (.loop (.seq (oZ 0 [oB 12 .lss 11 10]) (.seq (oC 12 0) (.seq (.block 1 (.seq (oZ 1 [oD 13 5 9 11,oA 14 5 13,oR 7 (.newv [(.int .i64 0),(.int .i64 0),(.int .i64 0),(.str (bs [])),.nilsl] 0),oN (.store 5 (oT 7) (oT 14))]) (.seq (oZ 0 [oF 15 0 7,oL 16 15,oM 17 1,oB 18 .eql 16 17]) (.cond (oT 18) (.seq (oZ 1 [oF 19 4 7,oL 20 19,oR 21 (.call (.const (.fn 42 [] [])) [(oT 20)] 0),oF 22 4 7,oN (.store 1 (oT 22) (oT 21))]) (.seq (oZ 0 [oA 23 5 7,oN (.store 5 (oT 4) (oT 23)),oR 5 (.mov (.const (.bool true)))]) .ret)) .skip)))) (oZ 0 [oJ 24 .add 11 1,oM 11 24]))))))) (.seq (oZ 0 [oA 25 5 4,oN (.store 5 (oT 4) (oT 25)),oR 5 (.mov (.const (.bool false)))]) .ret))),0⟩
def i17:IFn:=uFn 0 Tryz.f17 [([],[(3,7)])]
def i18:IFn:=⟨40,[(.tmp 6)],(.seq (oZ 1 [oH 3 0 0,oR 6 (.mov (.const .nilsl))]) (.seq (.seq (oZ 0 [oM 9 1,oJ 10 .lss 9 1,oM 11 10,oG 12 (.mov (oT 1)) 11 false,oG 13 (.bin .gtr (oT 12) (oI 3)) 11 false,oR 14 (.pick (oT 11) (.const (.bool true)) (oT 13))]) (.cond (oT 14) (.seq (oZ 0 [oR 6 (.mov (.const .nilsl))]) .ret) .skip)) (.seq (.seq (oZ 0 [oF 15 3 3,oL 16 15,oE 17 1 16,oK 18 0]) (.block 0 (.loop (.seq (oZ 0 [oB 19 .lss 18 17]) (.seq (oC 19 0) (.seq (.block 1 (.seq (oZ 1 [oD 20 5 16 18,oA 21 5 20,oR 8 (.newv [(.int .i64 0),(.int .i64 0),(.int .i64 0),(.str (bs [])),.nilsl] 0),oN (.store 5 (oT 8) (oT 21))]) (.seq (oZ 2 [oF 22 1 8,oL 23 22,oR 24 (.call (.const (.fn 11 [] [])) [(oT 23)] 0),oM 25 1,oB 26 .eql 24 25,oM 27 26,oG 28 (.faddr 4 (oT 8)) 27 true,oG 29 (.load false 1 (oT 28)) 27 true,oG 30 (.mov (oT 2)) 27 true,oG 31 (.call (.const (.fn 37 [] [])) [(oT 29),(oT 30)] 1) 27 true,oR 32 (.pick (oT 27) (oT 31) (.const (.bool false)))]) (.cond (oT 32) (oZ 1 [oM 33 6,oF 34 0 8,oL 35 34,oR 36 (.bslice [(.int .i64 0)] 1 1 [(0,(1,(oT 35)))]),oR 37 (.append [(.int .i64 0)] 1 false (oT 33) (oT 36) 0),oM 6 37]) .skip)))) (oZ 0 [oJ 38 .add 18 1,oM 18 38]))))))) (.seq (oZ 0 [oM 39 6,oM 6 39]) .ret)))),0⟩
def i19:IFn:=uFn 0 Tryz.f19 []
def i20:IFn:=uFn 0 Tryz.f20 []
def i21:IFn:=uFn 0 Tryz.f21 []
def i22:IFn:=uFn 2 Tryz.f22 []
def i23:IFn:=uFn 0 Tryz.f23 []
def i24:IFn:=uFn 0 Tryz.f24 []
def i25:IFn:=⟨12,[(.tmp 2)],(.seq (oZ 1 [oH 1 0 0,oR 2 (.mov (.const (.bool false)))]) (.seq (oZ 1 [oF 3 3 1,oL 4 3,oR 5 (.bin .neq (oT 4) (.const (.str (bs [])))),oM 6 5,oG 7 (.faddr 3 (oT 1)) 6 true,oG 8 (.load false 1 (oT 7)) 6 true,oG 9 (.call (.const (.fn 26 [] [])) [(oT 8)] 0) 6 true,oG 10 (.bin .neq (oT 9) (oI 0)) 6 true,oR 11 (.pick (oT 6) (oT 10) (.const (.bool false))),oM 2 11]) .ret)),0⟩
def i26:IFn:=uFn 0 Tryz.f26 []
def i27:IFn:=uFn 0 Tryz.f27 []
def i28:IFn:=uFn 0 Tryz.f28 []
def i29:IFn:=uFn 0 Tryz.f29 []
def i30:IFn:=uFn 2 Tryz.f30 []
def i31:IFn:=uFn 2 Tryz.f31 []
def i36:IFn:=uFn 0 Tryz.f36 []
def i37:IFn:=uFn 0 Tryz.f37 []
def i38:IFn:=uFn 0 Tryz.f38 []
def i39:IFn:=uFn 2 Tryz.f39 []
def i40:IFn:=uFn 0 Tryz.f40 []
def i41:IFn:=uFn 0 Tryz.f41 [([],[(3,7),(3,11),(7,11),(3,15),(7,15),(11,15)]),([],[(1,3),(1,6),(3,6),(1,8),(3,8),(6,8),(8,11)]),([],[(1,3),(1,6),(3,6),(1,8),(3,8),(6,8),(8,11)])]
def i42:IFn:=uFn 0 Tryz.f42 []
def i43:IFn:=uFn 0 Tryz.f43 []
def i44:IFn:=⟨32,[(.tmp 6)],(.seq (oZ 0 [oR 6 (.mov (.const (.bool false)))]) (.seq (.seq (oZ 0 [oM 10 0,oE 11 1 10,oM 12 1,oE 13 1 12,oB 14 .neq 11 13]) (.cond (oT 14) (.seq (oZ 0 [oR 6 (.mov (.const (.bool false)))]) .ret) .skip)) (.seq (.seq (oZ 0 [oM 15 0,oE 16 1 15,oK 17 0]) (.block 0 (.loop (.seq (oZ 0 [oB 18 .lss 17 16]) (.seq (oC 18 0) (.seq (.block 1 (.seq (oZ 1 [oM 19 17,oD 20 5 15 17,oA 21 5 20,oR 8 (.newv [(.int .i64 0),(.int .i64 0),(.int .i64 0),(.str (bs [])),.nilsl] 0),oM 7 19,oN (.store 5 (oT 8) (oT 21))]) (.seq (oZ 1 [oM 22 1,oM 23 7,oD 24 5 22 23,oA 25 5 24,oR 9 (.newv [(.int .i64 0),(.int .i64 0),(.int .i64 0),(.str (bs [])),.nilsl] 0),oN (.store 5 (oT 9) (oT 25))]) (.seq (oZ 1 [oM 26 2,oA 27 5 8,oA 28 5 9,oR 29 (.call (oT 26) [(oT 27),(oT 28)] 0),oR 30 (.un .not (oT 29))]) (.cond (oT 30) (.seq (oZ 0 [oR 6 (.mov (.const (.bool false)))]) .ret) .skip))))) (oZ 0 [oJ 31 .add 17 1,oM 17 31]))))))) (.seq (oZ 0 [oR 6 (.mov (.const (.bool true)))]) .ret)))),0⟩
def i45:IFn:=uFn 0 Tryz.f45 []
def i46:IFn:=uFn 0 Tryz.f46 [([],[(3,7)])]
def i47:IFn:=uFn 0 Tryz.f47 []
def i48:IFn:=uFn 2 Tryz.f48 [([(18,1)],[(4,5),(4,11),(5,11),(9,11)])]
def i49:IFn:=uFn 0 Tryz.f49 [([],[(4,8)])]
def i50:IFn:=⟨45,[(.tmp 2),(.tmp 3)],(.seq (oZ 0 [oR 2 (.mov (.const .nilsl)),oK 3 0]) (.seq (.seq (oZ 0 [oM 6 0,oR 7 (.bin .eql (oT 6) (.const (.str (bs []))))]) (.cond (oT 7) (.seq (oZ 0 [oR 2 (.mov (.const .nilsl)),oK 3 14]) .ret) .skip)) (.seq (.seq (oZ 0 [oM 8 0,oE 9 0 8,oJ 10 .gtr 9 40]) (.cond (oT 10) (.seq (oZ 0 [oR 2 (.mov (.const .nilsl)),oK 3 3]) .ret) .skip)) (.seq (oZ 1 [oM 12 0,oR 13 (.call (.const (.fn 77 [] [])) [(oT 12)] 0),oM 11 13,oX 14 11 0,oX 15 11 1,oM 2 14,oM 3 15]) (.seq (.seq (oZ 0 [oM 16 3,oJ 17 .neq 16 0]) (.cond (oT 17) (.seq (oZ 0 [oM 18 3,oR 2 (.mov (.const .nilsl)),oM 3 18]) .ret) .skip)) (.seq (.seq (oZ 1 [oM 19 0,oR 20 (.indexS (oT 19) (oI 0)),oR 21 (.bin .eql (oT 20) (.const (.int .u8 32))),oM 22 21,oG 23 (.mov (oT 0)) 22 false,oG 24 (.mov (oT 0)) 22 false,oG 25 (.len 0 (oT 24)) 22 false,oG 26 (.bin .sub (oT 25) (oI 1)) 22 false,oG 27 (.indexS (oT 23) (oT 26)) 22 false,oG 28 (.bin .eql (oT 27) (.const (.int .u8 32))) 22 false,oR 29 (.pick (oT 22) (.const (.bool true)) (oT 28)),oM 30 29,oG 31 (.mov (oT 0)) 30 false,oG 32 (.call (.const (.fn 78 [] [])) [(oT 31),(.const (.str (bs [32,32])))] 0) 30 false,oR 33 (.pick (oT 30) (.const (.bool true)) (oT 32))]) (.cond (oT 33) (.seq (oZ 0 [oR 2 (.mov (.const .nilsl)),oK 3 14]) .ret) .skip)) (.seq (.seq (oZ 0 [oM 34 2,oE 35 1 34,oK 36 0]) (.block 0 (.loop (.seq (oZ 0 [oB 37 .lss 36 35]) (.seq (oC 37 0) (.seq (.block 1 (.seq (oZ 0 [oD 38 1 34 36,oL 39 38,oM 5 39]) (.seq (oZ 1 [oM 40 5,oR 41 (.call (.const (.fn 79 [] [])) [(oT 40)] 0),oJ 42 .neq 41 0]) (.cond (oT 42) (.seq (oZ 0 [oM 43 2,oM 2 43,oK 3 0]) .ret) .skip)))) (oZ 0 [oJ 44 .add 36 1,oM 36 44]))))))) (.seq (oZ 0 [oR 2 (.mov (.const .nilsl)),oK 3 14]) .ret)))))))),0⟩
def i51:IFn:=uFn 0 Tryz.f51 []
def i52:IFn:=uFn 0 Tryz.f52 []
def i53:IFn:=uFn 0 Tryz.f53 []
def i54:IFn:=uFn 0 Tryz.f54 []
def i55:IFn:=uFn 2 Tryz.f55 []
def i56:IFn:=uFn 2 Tryz.f56 []
def i61:IFn:=uFn 0 Tryz.f61 []
def i62:IFn:=uFn 0 Tryz.f62 [([],[(4,8)])]
def i63:IFn:=uFn 0 Tryz.f63 []
def i64:IFn:=uFn 0 Tryz.f64 []
def i65:IFn:=uFn 0 Tryz.f65 []
def i66:IFn:=uFn 0 Tryz.f66 [([(3,1),(4,2)],[(0,2),(1,2)]),([(5,1),(8,2),(24,3)],[(0,1),(0,3),(1,3),(10,16),(14,16),(26,32),(30,32)])]
def i67:IFn:=uFn 0 Tryz.f67 []
def i68:IFn:=uFn 0 Tryz.f68 []
def i69:IFn:=uFn 0 Tryz.f69 []
def i70:IFn:=uFn 0 Tryz.f70 [([],[(3,7)])]
def i71:IFn:=uFn 0 Tryz.f71 [([],[(3,7)])]
def i72:IFn:=uFn 0 Tryz.f72 []
def i73:IFn:=uFn 0 Tryz.f73 [([(6,1)],[(0,5)])]
def i74:IFn:=uFn 0 Tryz.f74 []
def i75:IFn:=uFn 0 Tryz.f75 [([],[(3,6)]),([(11,1)],[(6,8)])]
def i76:IFn:=uFn 0 Tryz.f76 [([(6,1)],[(0,2),(0,4)]),([],[(2,4),(2,5)])]
def i78:IFn:=uFn 0 Tryz.f78 []
def i80:IFn:=uFn 0 Tryz.f80 []
def i81:IFn:=uFn 0 Tryz.f81 []
def i100:IFn:=uFn 0 Tryz.f100 []
def i101:IFn:=uFn 0 Tryz.f101 []
def i102:IFn:=uFn 0 Tryz.f102 []
def i103:IFn:=uFn 1 Tryz.f103 [([],[(3,8)])]
def i104:IFn:=⟨2,[],.skip,5⟩
def i105:IFn:=uFn 0 Tryz.f105 [([(3,1),(4,2),(5,3)],[(0,2),(1,2)])]
def i106:IFn:=uFn 0 Tryz.f106 []
def i107:IFn:=uFn 0 Tryz.f107 []
def i108:IFn:=uFn 0 Tryz.f108 []
def i109:IFn:=uFn 0 Tryz.f109 [([],[(1,7),(5,7),(1,11),(5,11)]),([(23,1),(27,2)],[(1,4),(8,14),(12,14),(8,18),(12,18)]),([],[(1,7),(5,7),(1,11),(5,11)])]
def i110:IFn:=uFn 0 Tryz.f110 [([],[(1,6),(4,6),(1,10),(4,10),(6,10),(8,10),(1,13),(4,13),(6,13),(8,13),(1,15),(4,15),(6,15),(8,15),(10,15),(13,15),(1,18),(4,18),(6,18),(8,18),(10,19),(13,19),(15,19),(18,19)])]
def i111:IFn:=uFn 0 Tryz.f111 []
def i112:IFn:=uFn 0 Tryz.f112 []
def i113:IFn:=uFn 0 Tryz.f113 [([],[(1,3),(1,6),(1,7)])]
def i114:IFn:=uFn 1 Tryz.f114 []
def i115:IFn:=uFn 0 Tryz.f115 [([],[(2,5)]),([],[(2,6),(2,9)])]
def i116:IFn:=uFn 0 Tryz.f116 []
def i117:IFn:=⟨1,[],.skip,6⟩
def i118:IFn:=uFn 2 Tryz.f118 []
def i119:IFn:=uFn 0 Tryz.f119 [([],[(5,11),(5,18),(11,18),(5,23),(11,23),(18,23)])]
def i120:IFn:=uFn 0 Tryz.f120 [([(24,1)],[(7,12),(21,22)])]
def i121:IFn:=uFn 0 Tryz.f121 []
def i122:IFn:=uFn 0 Tryz.f122 []
def i123:IFn:=uFn 0 Tryz.f123 []
def i124:IFn:=uFn 0 Tryz.f124 []
def i144:IFn:=uFn 0 Tryz.f144 []
def i147:IFn:=uFn 0 Tryz.f147 []
def i148:IFn:=uFn 0 Tryz.f148 [([(7,1),(8,2),(18,3),(19,4)],[(0,1),(0,2),(1,2),(0,4),(1,4),(2,4),(3,4),(0,5),(1,5),(2,5),(3,5),(4,5),(0,6),(1,6),(2,6),(3,6),(4,6),(5,6),(11,12),(11,13),(12,13),(11,15),(12,15),(13,15),(14,15),(11,16),(12,16),(13,16),(14,16),(15,16),(11,17),(12,17),(13,17),(14,17),(15,17),(16,17)])]
def i149:IFn:=uFn 0 Tryz.f149 []
def i150:IFn:=uFn 0 Tryz.f150 []
def i151:IFn:=uFn 2 Tryz.f151 []
def i152:IFn:=⟨1,[],.skip,4⟩
def i153:IFn:=uFn 0 Tryz.f153 []
def i154:IFn:=uFn 0 Tryz.f154 [([(5,1),(6,2)],[(0,1),(0,3),(1,3),(2,3),(0,4),(1,4),(2,4),(3,4)])]
def i156:IFn:=uFn 0 Tryz.f156 []
def i157:IFn:=uFn 0 Tryz.f157 []
def i186:IFn:=uFn 0 Tryz.f186 []
def i187:IFn:=uFn 0 Tryz.f187 [([(4,2)],[(0,1),(0,2),(1,2),(0,3),(1,3),(2,3),(1,4)])]
def i189:IFn:=uFn 0 Tryz.f189 []
def i199:IFn:=uFn 2 Tryz.f199 [([],[(5,9)])]
def i200:IFn:=uFn 2 Tryz.f200 []
def i219:IFn:=uFn 0 Tryz.f219 []
def i220:IFn:=uFn 0 Tryz.f220 []
inductive FT where
 | nil
 | one (f:FuncId) (i:IFn)
 | two (k:FuncId) (l r:FT)
def FT.get (t:FT):FuncId->Option IFn:=FT.rec (motive:=fun _=>FuncId->Option IFn) (fun _=>none) (fun g i f=>bif Nat.beq f g then some i else none) (fun k _ _ a b f=>bif Nat.blt f k then a f else b f) t
def FT.all (t:FT):List (FuncId × IFn):=FT.rec (motive:=fun _=>List (FuncId × IFn)) [] (fun g i=>[(g,i)]) (fun _ _ _ a b=>a++b) t
theorem FT.mem {f:FuncId} {i:IFn}:∀ {t:FT},t.get f=some i->(f,i)∈t.all
 | .nil,h=>by cases h
 | .one g j,h=>by
  have h2:(bif Nat.beq f g then some j else none)=some i:=h
  clear h
  cases hc:Nat.beq f g
  ·rw [hc] at h2; cases h2
  ·rw [hc] at h2
   rw [Nat.eq_of_beq_eq_true hc,← zgy (show some j=some i from h2)]
   exact zgi ..
 | .two k l r,h=>by
  have h:(bif Nat.blt f k then l.get f else r.get f)=some i:=h
  have e:(FT.two k l r).all=l.all++r.all:=rfl
  rw [e]
  cases hc:Nat.blt f k
  ·rw [hc] at h; exact List.mem_append_right _ (FT.mem h)
  ·rw [hc] at h; exact zil _ (FT.mem h)
def tab0:FT:=.two 18 (.two 11 (.two 7 (.two 5 (.one 4 i4) (.two 6 (.one 5 i5) (.one 6 i6))) (.two 9 (.one 7 i7) (.two 10 (.one 9 i9) (.one 10 i10)))) (.two 14 (.two 12 (.one 11 i11) (.two 13 (.one 12 i12) (.one 13 i13))) (.two 16 (.two 15 (.one 14 i14) (.one 15 i15)) (.two 17 (.one 16 i16) (.one 17 i17))))) (.two 25 (.two 21 (.two 19 (.one 18 i18) (.two 20 (.one 19 i19) (.one 20 i20))) (.two 23 (.two 22 (.one 21 i21) (.one 22 i22)) (.two 24 (.one 23 i23) (.one 24 i24)))) (.two 28 (.two 26 (.one 25 i25) (.two 27 (.one 26 i26) (.one 27 i27))) (.two 30 (.two 29 (.one 28 i28) (.one 29 i29)) (.two 31 (.one 30 i30) (.one 31 i31)))))
def tab1:FT:=.two 50 (.two 43 (.two 39 (.two 37 (.one 36 i36) (.two 38 (.one 37 i37) (.one 38 i38))) (.two 41 (.two 40 (.one 39 i39) (.one 40 i40)) (.two 42 (.one 41 i41) (.one 42 i42)))) (.two 46 (.two 44 (.one 43 i43) (.two 45 (.one 44 i44) (.one 45 i45))) (.two 48 (.two 47 (.one 46 i46) (.one 47 i47)) (.two 49 (.one 48 i48) (.one 49 i49))))) (.two 61 (.two 53 (.two 51 (.one 50 i50) (.two 52 (.one 51 i51) (.one 52 i52))) (.two 55 (.two 54 (.one 53 i53) (.one 54 i54)) (.two 56 (.one 55 i55) (.one 56 i56)))) (.two 64 (.two 62 (.one 61 i61) (.two 63 (.one 62 i62) (.one 63 i63))) (.two 66 (.two 65 (.one 64 i64) (.one 65 i65)) (.two 67 (.one 66 i66) (.one 67 i67)))))
def tab2:FT:=.two 101 (.two 74 (.two 71 (.two 69 (.one 68 i68) (.two 70 (.one 69 i69) (.one 70 i70))) (.two 72 (.one 71 i71) (.two 73 (.one 72 i72) (.one 73 i73)))) (.two 78 (.two 75 (.one 74 i74) (.two 76 (.one 75 i75) (.one 76 i76))) (.two 81 (.two 80 (.one 78 i78) (.one 80 i80)) (.two 100 (.one 81 i81) (.one 100 i100))))) (.two 108 (.two 104 (.two 102 (.one 101 i101) (.two 103 (.one 102 i102) (.one 103 i103))) (.two 106 (.two 105 (.one 104 i104) (.one 105 i105)) (.two 107 (.one 106 i106) (.one 107 i107)))) (.two 111 (.two 109 (.one 108 i108) (.two 110 (.one 109 i109) (.one 110 i110))) (.two 113 (.two 112 (.one 111 i111) (.one 112 i112)) (.two 114 (.one 113 i113) (.one 114 i114)))))
def tab3:FT:=.two 150 (.two 122 (.two 118 (.two 116 (.one 115 i115) (.two 117 (.one 116 i116) (.one 117 i117))) (.two 120 (.two 119 (.one 118 i118) (.one 119 i119)) (.two 121 (.one 120 i120) (.one 121 i121)))) (.two 144 (.two 123 (.one 122 i122) (.two 124 (.one 123 i123) (.one 124 i124))) (.two 148 (.two 147 (.one 144 i144) (.one 147 i147)) (.two 149 (.one 148 i148) (.one 149 i149))))) (.two 186 (.two 153 (.two 151 (.one 150 i150) (.two 152 (.one 151 i151) (.one 152 i152))) (.two 156 (.two 154 (.one 153 i153) (.one 154 i154)) (.two 157 (.one 156 i156) (.one 157 i157)))) (.two 199 (.two 187 (.one 186 i186) (.two 189 (.one 187 i187) (.one 189 i189))) (.two 219 (.two 200 (.one 199 i199) (.one 200 i200)) (.two 220 (.one 219 i219) (.one 220 i220)))))
def tabT:FT:=.two 68 (.two 36 tab0 tab1) (.two 115 tab2 tab3)
def Ftab (f:FuncId):Option IFn:=tabT.get f
end
end
end Go.Proofs.YtdacpmgnhkmnkaaGreatDoor
end
section
namespace Go.Proofs.YtdacpmgnhkmnkaaGreatDoor
open Go Go.RowKit
section
def NoS (S:ySM):Prop:=∀ f args,(f≠26/\f≠97)->f≠6->f≠36->f≠20->S f args=none
def sf (f:FuncId):Bool:=!(Nat.beq f 26)&&!(Nat.beq f 97)&&!(Nat.beq f 6)&&!(Nat.beq f 36)&&!(Nat.beq f 20)
theorem ns {S:ySM} (hS:NoS S) {f:FuncId} {args:List IV} (h:sf f=true):S f args=none:=by
 simp only [sf,zf6,zhs] at h
 obtain ⟨⟨⟨⟨h1,h5⟩,h2⟩,h3⟩,h4⟩:=h
 exact hS f args ⟨fun e=>by subst e; simp at h1,fun e=>by subst e; simp at h5⟩ (fun e=>by subst e; simp at h2) (fun e=>by subst e; simp at h3) (fun e=>by subst e; simp at h4)
theorem lb {a b:Nat} (h:Nat.ble a b=true):a<=b:=Nat.le_of_ble_eq_true h
theorem contains_app {l:List Int} {x n:Int}:(l++[x]).contains n=(l.contains n||x==n):=by
 rw [zhi]
 simp only [zgh,zhf,zhe,zha,beq_iff_eq]
 exact ⟨fun h=>h.imp id Eq.symm,fun h=>h.imp id Eq.symm⟩
theorem contains_at {l:List Int} {x n:Int} {i:Nat} (hx:l[i]?=some x) (hb:(x==n)=true):l.contains n=true:=by
 have:=zgl hx
 have h2:x=n:=by simpa using hb
 subst h2
 exact zgh.2 this
end
section
section
variable {S:ySM}
theorem mkv_ff {x:IV}:mkv false [x]=some x:=zgr rfl rfl
theorem mkv_tt {l:List IV}:mkv true l=some (.agg l):=by cases l with
 | nil=>rfl
 | cons x l=>cases l <;> rfl
theorem sh_shl:isShift .shl=true:=zgr rfl rfl
theorem sh_shr:isShift .shr=true:=zgr rfl rfl
theorem sh_add:isShift .add=false:=zgr rfl rfl
theorem sh_sub:isShift .sub=false:=zgr rfl rfl
theorem sh_mul:isShift .mul=false:=zgr rfl rfl
theorem sh_quo:isShift .quo=false:=zgr rfl rfl
theorem sh_rem:isShift .rem=false:=zgr rfl rfl
theorem sh_and:isShift .and=false:=zgr rfl rfl
theorem sh_or:isShift .or=false:=zgr rfl rfl
theorem sh_xor:isShift .xor=false:=zgr rfl rfl
theorem sh_eql:isShift .eql=false:=zgr rfl rfl
theorem sh_neq:isShift .neq=false:=zgr rfl rfl
theorem sh_lss:isShift .lss=false:=zgr rfl rfl
theorem sh_leq:isShift .leq=false:=zgr rfl rfl
theorem sh_gtr:isShift .gtr=false:=zgr rfl rfl
theorem sh_geq:isShift .geq=false:=zgr rfl rfl
theorem repl_0 {x:IObj}:List.replicate 0 x=[]:=zgr rfl rfl
theorem repl_1 {x:IObj}:List.replicate 1 x=[x]:=zgr rfl rfl
theorem repl_2 {x:IObj}:List.replicate 2 x=[x,x]:=zgr rfl rfl
theorem repl_3 {x:IObj}:List.replicate 3 x=[x,x,x]:=zgr rfl rfl
theorem repl_4 {x:IObj}:List.replicate 4 x=[x,x,x,x]:=zgr rfl rfl
theorem repl_5 {x:IObj}:List.replicate 5 x=[x,x,x,x,x]:=zgr rfl rfl
theorem repl_6 {x:IObj}:List.replicate 6 x=[x,x,x,x,x,x]:=zgr rfl rfl
theorem W0:(type_of% @Wall)/\(type_of% @zgq.{0})/\(type_of% @zgz.{0})/\(type_of% @zhc.{0})/\(type_of% @zhr.{0})/\(type_of% @List.all_nil.{0})/\(type_of% @Bool.and_self)/\(type_of% @Bool.and_true)/\(type_of% @zhj)/\(type_of% @if_true.{1})/\(type_of% @zgb.{0})/\(type_of% @zf3.{0})/\(type_of% @zg5)/\(type_of% @Nat.add_zero)/\(type_of% @zf7)/\(type_of% @and_self)/\(type_of% @and_true)/\(type_of% @true_and)/\(type_of% @zg8.{0})/\(type_of% @zgc.{0})/\(type_of% @zf2.{0,0})/\(type_of% @zg2.{0,0})/\(type_of% @zge.{0,0})/\(type_of% @zgk)/\(type_of% @if_false.{1})/\(type_of% @zg3.{0,0})/\(type_of% @zh9.{0,0})/\(type_of% @Int.ofNat_lt)/\(type_of% @decide_true)/\(type_of% @decide_false)/\(type_of% @beq_iff_eq.{0})/\(type_of% @zgu.{0})/\(type_of% @zga.{0})/\(type_of% @zh2)/\(type_of% @zh6)/\(type_of% @mkAt.eq_1)/\(type_of% @Go.Proofs.YtdacpmgnhkmnkaaGreatDoor.look.eq_1)/\(type_of% @mkv_ff)/\(type_of% @mkv_tt)/\(type_of% @binI.eq_1)/\(type_of% @binI.eq_2)/\(type_of% @intBin.eq_1)/\(type_of% @intBin.eq_2)/\(type_of% @intBin.eq_3)/\(type_of% @intBin.eq_4)/\(type_of% @intBin.eq_5)/\(type_of% @intBin.eq_6)/\(type_of% @intBin.eq_7)/\(type_of% @intBin.eq_8)/\(type_of% @intBin.eq_9)/\(type_of% @intBin.eq_10)/\(type_of% @intBin.eq_11)/\(type_of% @intBin.eq_12)/\(type_of% @intBin.eq_13)/\(type_of% @intBin.eq_14)/\(type_of% @sh_shl)/\(type_of% @sh_shr)/\(type_of% @sh_add)/\(type_of% @sh_sub)/\(type_of% @sh_mul)/\(type_of% @sh_quo)/\(type_of% @sh_rem)/\(type_of% @sh_and)/\(type_of% @sh_or)/\(type_of% @sh_xor)/\(type_of% @sh_eql)/\(type_of% @sh_neq)/\(type_of% @sh_lss)/\(type_of% @sh_leq)/\(type_of% @sh_gtr)/\(type_of% @sh_geq)/\(type_of% @unI.eq_1)/\(type_of% @unI.eq_2)/\(type_of% @fillI.eq_1)/\(type_of% @fillI.eq_2)/\(type_of% @cellV.eq_1)/\(type_of% @e_nilchk.eq_1)/\(type_of% @e_pick.eq_1)/\(type_of% @e_box.eq_1)/\(type_of% @e_bslice.eq_1)/\(type_of% @e_load.eq_1)/\(type_of% @e_store.eq_1)/\(type_of% @e_eqb.eq_1)/\(type_of% @e_eqp.eq_1)/\(type_of% @e_eqs.eq_1)/\(type_of% @e_eqagg.eq_1)/\(type_of% @e_conv.eq_1)/\(type_of% @e_faddr.eq_1)/\(type_of% @e_field.eq_1)/\(type_of% @e_extract.eq_1)/\(type_of% @e_call.eq_1)/\(type_of% @e_mx.eq_1)/\(type_of% @repl_0)/\(type_of% @repl_1)/\(type_of% @repl_2)/\(type_of% @repl_3)/\(type_of% @repl_4)/\(type_of% @repl_5)/\(type_of% @repl_6) :=
 ⟨@Wall,@zgq.{0},@zgz.{0},@zhc.{0},@zhr.{0},@List.all_nil.{0},@Bool.and_self,@Bool.and_true,@zhj,@if_true.{1},@zgb.{0},@zf3.{0},@zg5,@Nat.add_zero,@zf7,@and_self,@and_true,@true_and,@zg8.{0},@zgc.{0},@zf2.{0,0},@zg2.{0,0},@zge.{0,0},@zgk,@if_false.{1},@zg3.{0,0},@zh9.{0,0},@Int.ofNat_lt,@decide_true,@decide_false,@beq_iff_eq.{0},@zgu.{0},@zga.{0},@zh2,@zh6,@mkAt.eq_1,@Go.Proofs.YtdacpmgnhkmnkaaGreatDoor.look.eq_1,@mkv_ff,@mkv_tt,@binI.eq_1,@binI.eq_2,@intBin.eq_1,@intBin.eq_2,@intBin.eq_3,@intBin.eq_4,@intBin.eq_5,@intBin.eq_6,@intBin.eq_7,@intBin.eq_8,@intBin.eq_9,@intBin.eq_10,@intBin.eq_11,@intBin.eq_12,@intBin.eq_13,@intBin.eq_14,@sh_shl,@sh_shr,@sh_add,@sh_sub,@sh_mul,@sh_quo,@sh_rem,@sh_and,@sh_or,@sh_xor,@sh_eql,@sh_neq,@sh_lss,@sh_leq,@sh_gtr,@sh_geq,@unI.eq_1,@unI.eq_2,@fillI.eq_1,@fillI.eq_2,@cellV.eq_1,@e_nilchk.eq_1,@e_pick.eq_1,@e_box.eq_1,@e_bslice.eq_1,@e_load.eq_1,@e_store.eq_1,@e_eqb.eq_1,@e_eqp.eq_1,@e_eqs.eq_1,@e_eqagg.eq_1,@e_conv.eq_1,@e_faddr.eq_1,@e_field.eq_1,@e_extract.eq_1,@e_call.eq_1,@e_mx.eq_1,@repl_0,@repl_1,@repl_2,@repl_3,@repl_4,@repl_5,@repl_6⟩
theorem gives_index (hS:NoS S) (l:SlOf 1 intc) (n:Int):∃ r:Int,Gives Ftab S 67 [l.v,iv n] (iv r)/\decide (r≥0)=l.l.contains n:=by
 have key:∀ r:Int,(∀ i:Nat,(i<l.l.length->(l.l.take i).contains n=false->∀ x,l.l[i]?=some x->(n==x)=true->r=i))->(l.l.contains n=false->r=-1)->Gives Ftab S 67 [l.v,iv n] (iv r):=by
  intro r h1 h2
  refine zH (i:=i67) (k:=1) (ns hS (by rfl)) rfl rfl zo (l.l.length+2) (by omega) fun m hm d out=>?_
  simp only [i67,W0,sevalprocAttr]
  refine zd (fun j st=>∃ i,j=l.l.length - i/\i<=l.l.length/\(l.l.take i).contains n=false/\∃ a2 a3 a4 a5 a9 a10 a11 a12 a13 a14 a15 a16 a17 a18,st=⟨[l.v,iv n,a2,a3,a4,a5,l.v,iv (l.l.length:Nat),iv i,a9,a10,a11,a12,a13,a14,a15,a16,a17,a18],[]⟩) l.l.length (by omega) ⟨0,by omega,by omega,by simp,_,_,_,_,_,_,_,_,_,_,_,_,_,_,rfl⟩ ?_
  rintro j st K ⟨i,rfl,hi,hc,a2,a3,a4,a5,a9,a10,a11,a12,a13,a14,a15,a16,a17,a18,rfl⟩ hn he hr
  by_cases h:i<l.l.length
  ·have hx:l.l[i]?=some l.l[i]:=zf0 h
   generalize l.l[i]=x at hx
   have hrd:rdN (l.l.flatMap intc) (i*1) 1=some [iv x]:=zb zk 0 1 hx (by omega)
   have hw:wrapI .i64 ((i:Int)+1)=((i+1:Nat):Int):=yu (by have:=l.few; omega)
   cases hb:n==x
   ·simp only [W0,sevalprocAttr,h,za l h,hrd,hb,hw]
    refine hn _ (l.l.length - (i+1)) (by omega) ⟨i+1,rfl,by omega,?_,_,_,_,_,_,_,_,_,_,_,_,_,_,_,rfl⟩
    rw [zhb,hx,zhq,contains_app,hc,Bool.beq_comm,hb]
    rfl
   ·simp only [W0,sevalprocAttr,h,za l h,hrd,hb]
    refine hr _ ?_
    simp only [W0,sevalprocAttr]
    rw [h1 i h hc x hx hb]
  ·simp only [W0,sevalprocAttr,h]
   refine he _ _ ?_
   simp only [W0,sevalprocAttr]
   rw [h2 (by rw [← hc,zgg (by omega)])]
 cases hc:l.l.contains n
 ·refine ⟨-1,key _ (fun i hi _ x hx hb=>?_) (fun _=>rfl),by simp⟩
  rw [contains_at hx (by rw [Bool.beq_comm]; exact hb)] at hc
  simp at hc
 ·have hm:n∈l.l:=zgh.1 hc
  refine ⟨(l.l.idxOf n:Nat),key _ (fun i hi ht x hx hb=>?_) (fun h=>by rw [h] at hc; simp at hc),by simp⟩
  have hxn:n=x:=by simpa using hb
  subst hxn
  have h1:l.l=l.l.take i++n::l.l.drop (i+1):=by
   conv=>lhs; rw [← zih i l.l]
   congr 1
   rw [List.drop_eq_getElem_cons hi]
   congr 1
   have:=zf0 hi
   rw [hx] at this
   exact (zgy this).symm
  have h2:n ∉ l.l.take i:=fun h=>by rw [zgh.2 h] at ht; simp at ht
  rw [h1,List.idxOf_append,if_neg h2,List.idxOf_cons_self,zhx,zg5,Nat.min_eq_left (by omega)]
theorem Zm (hS:NoS S) (l:SlOf 1 intc) (n:Int):Gives Ftab S 37 [l.v,iv n] (.bool (l.l.contains n)):=by
 obtain ⟨r,⟨N,hN⟩,hr⟩:=gives_index hS l n
 refine zH (i:=i37) (k:=1) (ns hS (by rfl)) rfl rfl zn (N+1) (by omega) fun m hm d out=>?_
 have hcall:=hN m (by omega)
 simp only [zf] at hcall
 simp only [i37,W0,sevalprocAttr,hcall]
 rw [hr]
end
end
section
def shapeI (k:Int):Int:=bif k==1||k==2||k==8 then 1 else bif k==3||k==4 then 2 else bif k==5||k==6||k==7 then 3 else 0
theorem intc_fz:∀ a,∀ x∈intc a,Fz 1 x:=fun a x hx=>by
 simp only [intc,zhe] at hx
 subst hx
 exact zo
theorem ptc_fz:∀ a:Pt,∀ x∈a.c,Fz 1 x:=fun a x hx=>by
 simp only [Pt.c,zgf,zg1,or_false] at hx
 rcases hx with rfl | rfl <;> exact zo
section
variable {C:Call} {d:Nat} {out:yLM} {n0:Nat} {own ownV:yLO} {t:List IV}
noncomputable def appV (d n0:Nat) (lk:Nat->Nat->Option IObj) (own:yLO) (sz:Nat) (s:IV) (slot:Nat) (r:Option (List IV × Nat)):Res:=match r with
 | some (new,n)=>appendI d n0 lk own sz s new n slot
 | none=>none
theorem zJ {z:List IV} {sz:Nat} {s x:Opd} {slot:Nat}:e_append d out n0 ownV own t z sz false s x slot=appV d n0 (look d out ownV) own sz (ρ t s) slot (cellsI (look d out ownV) sz (ρ t x)):=zgr rfl rfl
theorem zT {lk:Nat->Nat->Option IObj} {sz slot n:Nat} {s:IV} {new:List IV}:appV d n0 lk own sz s slot (some (new,n))=appendI d n0 lk own sz s new n slot:=zgr rfl rfl
theorem app_row {lk:Nat->Nat->Option IObj} {sz slot n:Nat} {new:List IV} (h:n≠0) (hb:0+n<=1073741824):appendI d n0 lk own sz (.slC [] 0 sz true) new n slot=mkAt own (n0+slot) (.cells new) (.slM d (n0+slot) 0 n n sz false):=by
 unfold appendI
 rw [if_neg h]
 simp only
 rw [if_pos ⟨by unfold bound; omega,trivial⟩]
 simp [seg,zc]
theorem eqs_tt:(false != true)=true:=zgr rfl rfl
theorem zep:(false != false)=false:=zgr rfl rfl
end
section
variable {S:ySM}
theorem gives_shape (hS:NoS S) (k:Int):Gives Ftab S 11 [iv k] (iv (shapeI k)):=by
 refine zH (i:=i11) (k:=1) (ns hS (by rfl)) rfl rfl zo 1 (by omega) fun m hm d out=>?_
 cases h1:k==1
 rotate_left
 ·simp only [i11,W0,sevalprocAttr,h1]
  simp only [shapeI,h1,W0,sevalprocAttr]
  rfl
 cases h2:k==2
 rotate_left
 ·simp only [i11,W0,sevalprocAttr,h1,h2]
  simp only [shapeI,h1,h2,W0,sevalprocAttr]
  rfl
 cases h8:k==8
 rotate_left
 ·simp only [i11,W0,sevalprocAttr,h1,h2,h8]
  simp only [shapeI,h1,h2,h8,W0,sevalprocAttr]
  rfl
 cases h3:k==3
 rotate_left
 ·simp only [i11,W0,sevalprocAttr,h1,h2,h8,h3]
  simp only [shapeI,h1,h2,h8,h3,W0,sevalprocAttr]
  rfl
 cases h4:k==4
 rotate_left
 ·simp only [i11,W0,sevalprocAttr,h1,h2,h8,h3,h4]
  simp only [shapeI,h1,h2,h8,h3,h4,W0,sevalprocAttr]
  rfl
 cases h5:k==5
 rotate_left
 ·simp only [i11,W0,sevalprocAttr,h1,h2,h8,h3,h4,h5]
  simp only [shapeI,h1,h2,h8,h3,h4,h5,W0,sevalprocAttr]
  rfl
 cases h6:k==6
 rotate_left
 ·simp only [i11,W0,sevalprocAttr,h1,h2,h8,h3,h4,h5,h6]
  simp only [shapeI,h1,h2,h8,h3,h4,h5,h6,W0,sevalprocAttr]
  rfl
 cases h7:k==7
 rotate_left
 ·simp only [i11,W0,sevalprocAttr,h1,h2,h8,h3,h4,h5,h6,h7]
  simp only [shapeI,h1,h2,h8,h3,h4,h5,h6,h7,W0,sevalprocAttr]
  rfl
 ·simp only [i11,W0,sevalprocAttr,h1,h2,h8,h3,h4,h5,h6,h7]
  simp only [shapeI,h1,h2,h8,h3,h4,h5,h6,h7,W0,sevalprocAttr]
  rfl
theorem gives_cloneI (hS:NoS S) (q:SlOf 1 intc) (hq:q.l.length<=1073741824):∃ q':SlOf 1 intc,q'.l=q.l/\Gives Ftab S 42 [q.v] q'.v:=by
 obtain ⟨l,v,ok,few⟩:=q
 dsimp only at hq ⊢
 have key:∀ (cs:List IV) (n:Nat),Sl 1 cs n v->cs=l.flatMap intc->n=l.length->∃ q':SlOf 1 intc,q'.l=l/\Gives Ftab S 42 [v] q'.v:=by
  intro cs n h hcs hn
  cases h with
  | nil =>
   have hl:l=[]:=zhd.1 hn.symm
   refine ⟨⟨[],.nilsl,.nil,by simp⟩,hl.symm,?_⟩
   refine zH (i:=i42) (k:=1) (ns hS (by rfl)) rfl rfl ZQ 1 (by omega) fun m hm d out=>?_
   simp only [i42,W0,sevalprocAttr,eqsI,eqs_tt]
  | row _ _ tight h =>
   subst hcs hn
   by_cases h0:l.length=0
   ·have hl:l=[]:=zhd.1 h0
    subst hl
    refine ⟨⟨[],.slC [] 0 1 true,.row _ _ _ rfl,by simp⟩,rfl,?_⟩
    refine zH (i:=i42) (k:=1+1) (ns hS (by rfl)) rfl rfl (fz_slC fun x hx=>by simp at hx) 2 (by omega) fun m hm d out=>?_
    have hc:cellsI (fun l i=>if l=d then (([]++[IObj.free]:yLO))[i]? else if l<d then (out l)[i]? else none) 1 (IV.slC [] 0 1 tight)=some ([],0):=by
     simp [cellsI,seg,zc]
    simp only [i42,W0,sevalprocAttr,eqsI,zep,zt,zJ,appendI,rep,zh4,zgb]
    simp only [cellsI,seg,zc,zhp,Nat.add_zero,zgb,zf7,if_true,List.drop_zero,zis,zf2,zT,appendI,W0,sevalprocAttr]
   ·refine ⟨⟨l,.slC (l.flatMap intc) l.length 1 (false&&true),.row _ _ _ h,few⟩,rfl,?_⟩
    refine zeo (i:=i42) (ns hS (by rfl)) rfl rfl 3 fun m hm d out=>?_
    have hc:∀ lk,cellsI lk 1 (IV.slC (l.flatMap intc) l.length 1 tight)=some (l.flatMap intc,l.length):=fun lk=>yV ⟨l,_,.row _ _ tight h,few⟩
    simp only [i42,W0,sevalprocAttr,eqsI,zep,zt,zJ,rep,hc,zT]
    simp only [app_row h0 (show 0+l.length<=1073741824 by omega),W0,sevalprocAttr]
    refine ⟨_,rfl,?_⟩
    exact yW (k:=1) intc_fz (by omega) rfl zk rfl
 exact key _ _ ok rfl rfl
theorem gives_cloneP (hS:NoS S) (q:SlOf 2 Pt.c) (hq:q.l.length<=1073741824):∃ q':SlOf 2 Pt.c,q'.l=q.l/\Gives Ftab S 81 [q.v] q'.v:=by
 obtain ⟨l,v,ok,few⟩:=q
 dsimp only at hq ⊢
 have key:∀ (cs:List IV) (n:Nat),Sl 2 cs n v->cs=l.flatMap Pt.c->n=l.length->∃ q':SlOf 2 Pt.c,q'.l=l/\Gives Ftab S 81 [v] q'.v:=by
  intro cs n h hcs hn
  cases h with
  | nil =>
   have hl:l=[]:=zhd.1 hn.symm
   refine ⟨⟨[],.nilsl,.nil,by simp⟩,hl.symm,?_⟩
   refine zH (i:=i81) (k:=1) (ns hS (by rfl)) rfl rfl ZQ 1 (by omega) fun m hm d out=>?_
   simp only [i81,W0,sevalprocAttr,eqsI,eqs_tt]
  | row _ _ tight h =>
   subst hcs hn
   by_cases h0:l.length=0
   ·have hl:l=[]:=zhd.1 h0
    subst hl
    refine ⟨⟨[],.slC [] 0 2 true,.row _ _ _ rfl,by simp⟩,rfl,?_⟩
    refine zH (i:=i81) (k:=1+1) (ns hS (by rfl)) rfl rfl (fz_slC fun x hx=>by simp at hx) 2 (by omega) fun m hm d out=>?_
    have hc:cellsI (fun l i=>if l=d then (([]++[IObj.free]:yLO))[i]? else if l<d then (out l)[i]? else none) 2 (IV.slC [] 0 2 tight)=some ([],0):=by
     simp [cellsI,seg,zc]
    simp only [i81,W0,sevalprocAttr,eqsI,zep,zt,zJ,appendI,rep,zh4,zgb]
    simp only [cellsI,seg,zc,zhp,Nat.add_zero,zgb,zf7,if_true,List.drop_zero,zis,zf2,zT,appendI,W0,sevalprocAttr]
   ·refine ⟨⟨l,.slC (l.flatMap Pt.c) l.length 2 (false&&true),.row _ _ _ h,few⟩,rfl,?_⟩
    refine zeo (i:=i81) (ns hS (by rfl)) rfl rfl 3 fun m hm d out=>?_
    have hc:∀ lk,cellsI lk 2 (IV.slC (l.flatMap Pt.c) l.length 2 tight)=some (l.flatMap Pt.c,l.length):=fun lk=>yV ⟨l,_,.row _ _ tight h,few⟩
    simp only [i81,W0,sevalprocAttr,eqsI,zep,zt,zJ,rep,hc,zT]
    simp only [app_row h0 (show 0+l.length<=1073741824 by omega),W0,sevalprocAttr]
    refine ⟨_,rfl,?_⟩
    exact yW (k:=1) ptc_fz (by omega) rfl Pt.c_len rfl
 exact key _ _ ok rfl rfl
end
end
section
theorem Zn {α:Type} {p:α->Bool} {l:List α} {i:Nat} {x:α} (h:(l.take i).find? p=none) (hx:l[i]?=some x) (hp:p x=true):l.find? p=some x:=by
 have hi:=(zfz.1 hx).1
 have h1:l=l.take i++x::l.drop (i+1):=by
  conv=>lhs; rw [← zih i l]
  congr 1
  rw [List.drop_eq_getElem_cons hi]
  congr 1
  rw [zf0 hi] at hx
  exact zgy hx
 rw [h1,List.find?_append,h,Option.none_or,List.find?_cons,hp]
theorem yX {α:Type} {p:α->Bool} {l:List α} {i:Nat} {x:α} (h:(l.take i).find? p=none) (hx:l[i]?=some x) (hp:p x=false):(l.take (i+1)).find? p=none:=by
 rw [zhb,hx,zhq,List.find?_append,h,Option.none_or,List.find?_cons,hp]
 rfl
theorem ZS {α:Type} {p:α->Bool} {l:List α} {i:Nat} (h:(l.take i).find? p=none) (hi:¬ i<l.length):l.find? p=none:=by
 rwa [zgg (by omega)] at h
def nilS (sz:Nat) {α:Type} (g:α->List IV):SlOf sz g:=⟨[],.nilsl,.nil,by simp⟩
def zFt:Ft:=⟨0,0,0,⟨bs [],by decide⟩,nilS 1 intc⟩
def zAc:Ac:=⟨0,0,0,nilS 2 Pt.c,0,0⟩
def zNd:Nd:=⟨0,⟨0,0⟩⟩
theorem zFt_c:zFt.c=[.int .i64 0,.int .i64 0,.int .i64 0,.str (bs []),.nilsl]:=rfl
theorem zAc_c:zAc.c=[.int .i64 0,.int .i64 0,.int .i64 0,.nilsl,.int .i64 0,.int .i64 0]:=rfl
theorem zNd_c:zNd.c=[.int .i64 0,.int .i64 0,.int .i64 0]:=rfl
section
variable {S:ySM}
theorem yK {α:Type} {g:α->List IV} {sz:Nat} (hg:∀ a,∀ x∈g a,Fz 1 x) (q:SlOf sz g):Fz (1+1+1) q.v:=by
 obtain ⟨l,v,ok,few⟩:=q
 have key:∀ (cs:List IV) (n:Nat) (v:IV),Sl sz cs n v->cs=l.flatMap g->Fz (1+1+1) v:=fun cs n v h hcs=>by
  cases h with
  | nil=>exact ZQ.le (by omega)
  | row _ _ tight h=>subst hcs; exact (sl_fz (k:=1) hg).le (by omega)
 exact key _ _ _ ok rfl
theorem zeq:Fz (1+1+1) (.tuple [.agg ({ (none:Option Ft).getD zFt with parts:=nilS _ _ }:Ft).c,.bool (none:Option Ft).isSome]):=fun m hm lv own=>by
 obtain ⟨m,rfl⟩:∃ q,m=q+3:=⟨m - 3,by omega⟩
 rfl
theorem zer (f0:Ft) (q:SlOf 1 intc):Fz (1+1+1+1+1) (.tuple [.agg ({ (some f0).getD zFt with parts:=q }:Ft).c,.bool (some f0).isSome]):=by
 refine zei fun x hx=>?_
 simp only [zgf,zg1,or_false] at hx
 rcases hx with rfl | rfl
 ·refine fz_agg fun x hx=>?_
  simp only [Ft.c,zgf,zg1,or_false,zh7] at hx
  rcases hx with rfl | rfl | rfl | rfl | rfl
  all_goals first | exact zo.le (by omega) | exact fz_str.le (by omega) | exact yK intc_fz q
 ·exact zn.le (by omega)
theorem zes (hS:NoS S) (s:Sv) (id:Int) (hsm:∀ f∈s.ft.l,f.parts.l.length<=1073741824):∃ q',q'.l=((s.ft.l.find? fun f=>f.id==id).getD zFt).parts.l /\
  Gives Ftab S 16 [.agg s.c,iv id] (.tuple [.agg ({ (s.ft.l.find? fun f=>f.id==id).getD zFt with parts:=q' }:Ft).c,.bool (s.ft.l.find? fun f=>f.id==id).isSome]):=by
 cases hf:s.ft.l.find? fun f=>f.id==id with
 | none =>
  refine ⟨nilS _ _,rfl,?_⟩
  refine zH (i:=i16) (k:=1+1+1) (ns hS (by rfl)) rfl rfl zeq (s.ft.l.length+5) (by omega) fun m hm d out=>?_
  simp only [i16,W0,sevalprocAttr,Sv.c]
  refine zd (fun j st=>∃ i,j=s.ft.l.length - i/\i<=s.ft.l.length/\((s.ft.l.take i).find? fun f=>f.id==id)=none/\∃ J a3 a6 a7 a8 a12 a13 a14 a15 a16 a17 a18 a19 a20 a21 a22 a23 a24 a25,st=⟨[.agg s.c,iv id,.ptrM d 0 0,a3,.ptrM d 1 0,.bool false,a6,a7,a8,s.ft.v,iv (s.ft.l.length:Nat),iv i,a12,a13,a14,a15,a16,a17,a18,a19,a20,a21,a22,a23,a24,a25],.cells [s.pl.ns.v,s.pl.az.v,s.pl.fs.v,s.ft.v]::.cells zFt.c::J⟩) s.ft.l.length (by omega) ⟨0,by omega,by omega,by simp,[],_,_,_,_,_,_,_,_,_,_,_,_,_,_,_,_,_,_,rfl⟩ ?_
  rintro j st K ⟨i,rfl,hi,hc,J,a3,a6,a7,a8,a12,a13,a14,a15,a16,a17,a18,a19,a20,a21,a22,a23,a24,a25,rfl⟩ hn he hr
  by_cases h:i<s.ft.l.length
  ·have hx:s.ft.l[i]?=some s.ft.l[i]:=zf0 h
   generalize s.ft.l[i]=x at hx
   have hrd:rdN (s.ft.l.flatMap Ft.c) (i*5) 5=some x.c:=(zb Ft.c_len 0 5 hx (by omega)).trans rfl
   have hw:wrapI .i64 ((i:Int)+1)=((i+1:Nat):Int):=yu (by have:=s.ft.few; omega)
   cases hb:x.id==id
   ·simp only [W0,sevalprocAttr,h,za s.ft h,hrd,hb,hw,Ft.c,zFt_c]
    refine hn _ (s.ft.l.length - (i+1)) (by omega) ⟨i+1,rfl,by omega,yX hc hx hb,_,_,_,_,_,_,_,_,_,_,_,_,_,_,_,_,_,_,_,rfl⟩
   ·have hxf:=Zn (p:=fun f=>f.id==id) hc hx hb
    rw [hf] at hxf
    simp at hxf
  ·have hxf:=ZS hc h
   rw [hf] at hxf
   simp only [W0,sevalprocAttr,h,zFt_c]
   refine he _ _ ?_
   simp only [W0,sevalprocAttr,zFt_c]
   rfl
 | some f0 =>
  obtain ⟨q',hq,N,hN⟩:=gives_cloneI hS f0.parts (hsm f0 (List.mem_of_find?_eq_some hf))
  refine ⟨q',hq,?_⟩
  refine zH (i:=i16) (k:=1+1+1+1+1) (ns hS (by rfl)) rfl rfl (zer f0 q') (N+s.ft.l.length+8) (by omega) fun m hm d out=>?_
  have hcall:=hN m (by omega)
  simp only [i16,W0,sevalprocAttr,Sv.c]
  refine zd (fun j st=>∃ i,j=s.ft.l.length - i/\i<=s.ft.l.length/\((s.ft.l.take i).find? fun f=>f.id==id)=none/\∃ J a3 a6 a7 a8 a12 a13 a14 a15 a16 a17 a18 a19 a20 a21 a22 a23 a24 a25,st=⟨[.agg s.c,iv id,.ptrM d 0 0,a3,.ptrM d 1 0,.bool false,a6,a7,a8,s.ft.v,iv (s.ft.l.length:Nat),iv i,a12,a13,a14,a15,a16,a17,a18,a19,a20,a21,a22,a23,a24,a25],.cells [s.pl.ns.v,s.pl.az.v,s.pl.fs.v,s.ft.v]::.cells zFt.c::J⟩) s.ft.l.length (by omega) ⟨0,by omega,by omega,by simp,[],_,_,_,_,_,_,_,_,_,_,_,_,_,_,_,_,_,_,rfl⟩ ?_
  rintro j st K ⟨i,rfl,hi,hc,J,a3,a6,a7,a8,a12,a13,a14,a15,a16,a17,a18,a19,a20,a21,a22,a23,a24,a25,rfl⟩ hn he hr
  by_cases h:i<s.ft.l.length
  ·have hx:s.ft.l[i]?=some s.ft.l[i]:=zf0 h
   generalize s.ft.l[i]=x at hx
   have hrd:rdN (s.ft.l.flatMap Ft.c) (i*5) 5=some x.c:=(zb Ft.c_len 0 5 hx (by omega)).trans rfl
   have hw:wrapI .i64 ((i:Int)+1)=((i+1:Nat):Int):=yu (by have:=s.ft.few; omega)
   cases hb:x.id==id
   ·simp only [W0,sevalprocAttr,h,za s.ft h,hrd,hb,hw,Ft.c,zFt_c]
    refine hn _ (s.ft.l.length - (i+1)) (by omega) ⟨i+1,rfl,by omega,yX hc hx hb,_,_,_,_,_,_,_,_,_,_,_,_,_,_,_,_,_,_,_,rfl⟩
   ·have hxf:=Zn (p:=fun f=>f.id==id) hc hx hb
    rw [hf] at hxf
    obtain rfl:=zgy hxf
    simp only [W0,sevalprocAttr,h,za s.ft h,hrd,hb,Ft.c,zFt_c,hcall]
    refine hr _ ?_
    simp only [W0,sevalprocAttr,zFt_c,hcall]
    rfl
  ·have hxf:=ZS hc h
   rw [hf] at hxf
   simp at hxf
theorem gives_arc_fz0:Fz (1+1+1) (.tuple [.agg ({ (none:Option Ac).getD zAc with via:=nilS _ _ }:Ac).c,.bool (none:Option Ac).isSome]):=fun m hm lv own=>by
 obtain ⟨m,rfl⟩:∃ q,m=q+3:=⟨m - 3,by omega⟩
 rfl
theorem gives_arc_fz1 (f0:Ac) (q:SlOf 2 Pt.c):Fz (1+1+1+1+1) (.tuple [.agg ({ (some f0).getD zAc with via:=q }:Ac).c,.bool (some f0).isSome]):=by
 refine zei fun x hx=>?_
 simp only [zgf,zg1,or_false] at hx
 rcases hx with rfl | rfl
 ·refine fz_agg fun x hx=>?_
  simp only [Ac.c,zgf,zg1,or_false,zh7] at hx
  rcases hx with rfl | rfl | rfl | rfl | rfl | rfl
  all_goals first | exact zo.le (by omega) | exact fz_str.le (by omega) | exact yK ptc_fz q
 ·exact zn.le (by omega)
theorem zcb (hS:NoS S) (p:Pn) (id:Int) (hsm:∀ f∈p.az.l,f.via.l.length<=1073741824):∃ q',q'.l=((p.az.l.find? fun f=>f.id==id).getD zAc).via.l /\
  Gives Ftab S 53 [.agg p.c,iv id] (.tuple [.agg ({ (p.az.l.find? fun f=>f.id==id).getD zAc with via:=q' }:Ac).c,.bool (p.az.l.find? fun f=>f.id==id).isSome]):=by
 cases hf:p.az.l.find? fun f=>f.id==id with
 | none =>
  refine ⟨nilS _ _,rfl,?_⟩
  refine zH (i:=i53) (k:=1+1+1) (ns hS (by rfl)) rfl rfl gives_arc_fz0 (p.az.l.length+5) (by omega) fun m hm d out=>?_
  simp only [i53,W0,sevalprocAttr,Pn.c]
  refine zd (fun j st=>∃ i,j=p.az.l.length - i/\i<=p.az.l.length/\((p.az.l.take i).find? fun f=>f.id==id)=none/\∃ J a3 a6 a7 a8 a12 a13 a14 a15 a16 a17 a18 a19 a20 a21 a22 a23 a24 a25,st=⟨[.agg p.c,iv id,.ptrM d 0 0,a3,.ptrM d 1 0,.bool false,a6,a7,a8,p.az.v,iv (p.az.l.length:Nat),iv i,a12,a13,a14,a15,a16,a17,a18,a19,a20,a21,a22,a23,a24,a25],.cells [p.ns.v,p.az.v,p.fs.v]::.cells zAc.c::J⟩) p.az.l.length (by omega) ⟨0,by omega,by omega,by simp,[],_,_,_,_,_,_,_,_,_,_,_,_,_,_,_,_,_,_,rfl⟩ ?_
  rintro j st K ⟨i,rfl,hi,hc,J,a3,a6,a7,a8,a12,a13,a14,a15,a16,a17,a18,a19,a20,a21,a22,a23,a24,a25,rfl⟩ hn he hr
  by_cases h:i<p.az.l.length
  ·have hx:p.az.l[i]?=some p.az.l[i]:=zf0 h
   generalize p.az.l[i]=x at hx
   have hrd:rdN (p.az.l.flatMap Ac.c) (i*6) 6=some x.c:=(zb Ac.c_len 0 6 hx (by omega)).trans rfl
   have hw:wrapI .i64 ((i:Int)+1)=((i+1:Nat):Int):=yu (by have:=p.az.few; omega)
   cases hb:x.id==id
   ·simp only [W0,sevalprocAttr,h,za p.az h,hrd,hb,hw,Ac.c,zAc_c]
    refine hn _ (p.az.l.length - (i+1)) (by omega) ⟨i+1,rfl,by omega,yX hc hx hb,_,_,_,_,_,_,_,_,_,_,_,_,_,_,_,_,_,_,_,rfl⟩
   ·have hxf:=Zn (p:=fun f=>f.id==id) hc hx hb
    rw [hf] at hxf
    simp at hxf
  ·have hxf:=ZS hc h
   rw [hf] at hxf
   simp only [W0,sevalprocAttr,h,zAc_c]
   refine he _ _ ?_
   simp only [W0,sevalprocAttr,zAc_c]
   rfl
 | some f0 =>
  obtain ⟨q',hq,N,hN⟩:=gives_cloneP hS f0.via (hsm f0 (List.mem_of_find?_eq_some hf))
  refine ⟨q',hq,?_⟩
  refine zH (i:=i53) (k:=1+1+1+1+1) (ns hS (by rfl)) rfl rfl (gives_arc_fz1 f0 q') (N+p.az.l.length+8) (by omega) fun m hm d out=>?_
  have hcall:=hN m (by omega)
  simp only [i53,W0,sevalprocAttr,Pn.c]
  refine zd (fun j st=>∃ i,j=p.az.l.length - i/\i<=p.az.l.length/\((p.az.l.take i).find? fun f=>f.id==id)=none/\∃ J a3 a6 a7 a8 a12 a13 a14 a15 a16 a17 a18 a19 a20 a21 a22 a23 a24 a25,st=⟨[.agg p.c,iv id,.ptrM d 0 0,a3,.ptrM d 1 0,.bool false,a6,a7,a8,p.az.v,iv (p.az.l.length:Nat),iv i,a12,a13,a14,a15,a16,a17,a18,a19,a20,a21,a22,a23,a24,a25],.cells [p.ns.v,p.az.v,p.fs.v]::.cells zAc.c::J⟩) p.az.l.length (by omega) ⟨0,by omega,by omega,by simp,[],_,_,_,_,_,_,_,_,_,_,_,_,_,_,_,_,_,_,rfl⟩ ?_
  rintro j st K ⟨i,rfl,hi,hc,J,a3,a6,a7,a8,a12,a13,a14,a15,a16,a17,a18,a19,a20,a21,a22,a23,a24,a25,rfl⟩ hn he hr
  by_cases h:i<p.az.l.length
  ·have hx:p.az.l[i]?=some p.az.l[i]:=zf0 h
   generalize p.az.l[i]=x at hx
   have hrd:rdN (p.az.l.flatMap Ac.c) (i*6) 6=some x.c:=(zb Ac.c_len 0 6 hx (by omega)).trans rfl
   have hw:wrapI .i64 ((i:Int)+1)=((i+1:Nat):Int):=yu (by have:=p.az.few; omega)
   cases hb:x.id==id
   ·simp only [W0,sevalprocAttr,h,za p.az h,hrd,hb,hw,Ac.c,zAc_c]
    refine hn _ (p.az.l.length - (i+1)) (by omega) ⟨i+1,rfl,by omega,yX hc hx hb,_,_,_,_,_,_,_,_,_,_,_,_,_,_,_,_,_,_,_,rfl⟩
   ·have hxf:=Zn (p:=fun f=>f.id==id) hc hx hb
    rw [hf] at hxf
    obtain rfl:=zgy hxf
    simp only [W0,sevalprocAttr,h,za p.az h,hrd,hb,Ac.c,zAc_c,hcall]
    refine hr _ ?_
    simp only [W0,sevalprocAttr,zAc_c,hcall]
    rfl
  ·have hxf:=ZS hc h
   rw [hf] at hxf
   simp at hxf
theorem zet (f0:Nd):Fz (1+1+1) (.tuple [.agg ((some f0).getD zNd).c,.bool (some f0).isSome]):=fun m hm lv own=>by
 obtain ⟨m,rfl⟩:∃ q,m=q+3:=⟨m - 3,by omega⟩
 rfl
theorem zeu:Fz (1+1+1) (.tuple [.agg ((none:Option Nd).getD zNd).c,.bool (none:Option Nd).isSome]):=fun m hm lv own=>by
 obtain ⟨m,rfl⟩:∃ q,m=q+3:=⟨m - 3,by omega⟩
 rfl
theorem Z8 (hS:NoS S) (p:Pn) (id:Int):Gives Ftab S 40 [.agg p.c,iv id] (.tuple [.agg ((p.ns.l.find? fun f=>f.id==id).getD zNd).c,.bool (p.ns.l.find? fun f=>f.id==id).isSome]):=by
 cases hf:p.ns.l.find? fun f=>f.id==id with
 | none =>
  refine zH (i:=i40) (k:=1+1+1) (ns hS (by rfl)) rfl rfl zeu (p.ns.l.length+5) (by omega) fun m hm d out=>?_
  simp only [i40,W0,sevalprocAttr,Pn.c]
  refine zd (fun j st=>∃ i,j=p.ns.l.length - i/\i<=p.ns.l.length/\((p.ns.l.take i).find? fun f=>f.id==id)=none/\∃ J a3 a6 a7 a8 a12 a13 a14 a15 a16 a17 a18 a19 a20 a21,st=⟨[.agg p.c,iv id,.ptrM d 0 0,a3,.ptrM d 1 0,.bool false,a6,a7,a8,p.ns.v,iv (p.ns.l.length:Nat),iv i,a12,a13,a14,a15,a16,a17,a18,a19,a20,a21],.cells [p.ns.v,p.az.v,p.fs.v]::.cells zNd.c::J⟩) p.ns.l.length (by omega) ⟨0,by omega,by omega,by simp,[],_,_,_,_,_,_,_,_,_,_,_,_,_,_,rfl⟩ ?_
  rintro j st K ⟨i,rfl,hi,hc,J,a3,a6,a7,a8,a12,a13,a14,a15,a16,a17,a18,a19,a20,a21,rfl⟩ hn he hr
  by_cases h:i<p.ns.l.length
  ·have hx:p.ns.l[i]?=some p.ns.l[i]:=zf0 h
   generalize p.ns.l[i]=x at hx
   have hrd:rdN (p.ns.l.flatMap Nd.c) (i*3) 3=some x.c:=(zb Nd.c_len 0 3 hx (by omega)).trans rfl
   have hw:wrapI .i64 ((i:Int)+1)=((i+1:Nat):Int):=yu (by have:=p.ns.few; omega)
   cases hb:x.id==id
   ·simp only [W0,sevalprocAttr,h,za p.ns h,hrd,hb,hw,Nd.c,zNd_c]
    refine hn _ (p.ns.l.length - (i+1)) (by omega) ⟨i+1,rfl,by omega,yX hc hx hb,_,_,_,_,_,_,_,_,_,_,_,_,_,_,_,rfl⟩
   ·have hxf:=Zn (p:=fun f=>f.id==id) hc hx hb
    rw [hf] at hxf
    simp at hxf
  ·have hxf:=ZS hc h
   rw [hf] at hxf
   simp only [W0,sevalprocAttr,h,zNd_c]
   refine he _ _ ?_
   simp only [W0,sevalprocAttr,zNd_c]
   rfl
 | some f0 =>
  refine zH (i:=i40) (k:=1+1+1) (ns hS (by rfl)) rfl rfl (zet f0) (p.ns.l.length+8) (by omega) fun m hm d out=>?_
  simp only [i40,W0,sevalprocAttr,Pn.c]
  refine zd (fun j st=>∃ i,j=p.ns.l.length - i/\i<=p.ns.l.length/\((p.ns.l.take i).find? fun f=>f.id==id)=none/\∃ J a3 a6 a7 a8 a12 a13 a14 a15 a16 a17 a18 a19 a20 a21,st=⟨[.agg p.c,iv id,.ptrM d 0 0,a3,.ptrM d 1 0,.bool false,a6,a7,a8,p.ns.v,iv (p.ns.l.length:Nat),iv i,a12,a13,a14,a15,a16,a17,a18,a19,a20,a21],.cells [p.ns.v,p.az.v,p.fs.v]::.cells zNd.c::J⟩) p.ns.l.length (by omega) ⟨0,by omega,by omega,by simp,[],_,_,_,_,_,_,_,_,_,_,_,_,_,_,rfl⟩ ?_
  rintro j st K ⟨i,rfl,hi,hc,J,a3,a6,a7,a8,a12,a13,a14,a15,a16,a17,a18,a19,a20,a21,rfl⟩ hn he hr
  by_cases h:i<p.ns.l.length
  ·have hx:p.ns.l[i]?=some p.ns.l[i]:=zf0 h
   generalize p.ns.l[i]=x at hx
   have hrd:rdN (p.ns.l.flatMap Nd.c) (i*3) 3=some x.c:=(zb Nd.c_len 0 3 hx (by omega)).trans rfl
   have hw:wrapI .i64 ((i:Int)+1)=((i+1:Nat):Int):=yu (by have:=p.ns.few; omega)
   cases hb:x.id==id
   ·simp only [W0,sevalprocAttr,h,za p.ns h,hrd,hb,hw,Nd.c,zNd_c]
    refine hn _ (p.ns.l.length - (i+1)) (by omega) ⟨i+1,rfl,by omega,yX hc hx hb,_,_,_,_,_,_,_,_,_,_,_,_,_,_,_,rfl⟩
   ·have hxf:=Zn (p:=fun f=>f.id==id) hc hx hb
    rw [hf] at hxf
    obtain rfl:=zgy hxf
    simp only [W0,sevalprocAttr,h,za p.ns h,hrd,hb,Nd.c,zNd_c]
    refine hr _ ?_
    simp only [W0,sevalprocAttr,zNd_c]
    rfl
  ·have hxf:=ZS hc h
   rw [hf] at hxf
   simp at hxf
end
end
section
section
variable {d k n0:Nat} {lk:Nat->Nat->Option IObj} {own:yLO} {p p':IV}
theorem mapM_c {f:IV->Option IV} {x y:IV} {l l':List IV} (h:f x=some y) (h2:l.mapM f=some l'):(x::l).mapM f=some (y::l'):=by
 rw [zhy,h,h2]
 rfl
theorem mapM_n {f:IV->Option IV}:([]:List IV).mapM f=some []:=rfl
theorem freeze_agg {cs cs':List IV} (h:cs.mapM (freeze k d own)=some cs'):freeze (k+1) d own (.agg cs)=some (.agg cs'):=by simp only [freeze,h,zf2]
end
end
section
section
variable {C:Call} {d:Nat} {out:yLM} {n j:Nat} {st:St} {K:yKM} {a:IC}
def Lp (C:Call) (d:Nat) (out:yLM) (n j:Nat) (a:IC) (K:yKM) (st:St):Prop:=∃ o st',iter (exec C d out n a) j st=some (o,st')/\K o st'
theorem Ex_loop:Ex C d out n (.loop a) K st=Lp C d out n n a K st:=by
 unfold Ex Lp
 simp only [exec]
theorem Lp_succ:Lp C d out n (j+1) a K st=Ex C d out n a (andThen (Lp C d out n j a K) K) st:=by
 refine propext ⟨fun ⟨o,st',h,hk⟩=>?_,fun ⟨o,st1,h1,h2⟩=>?_⟩
 ·simp only [iter] at h
  split at h
  ·rename_i st1 he
   exact ⟨.normal,st1,he,o,st',h,hk⟩
  ·rename_i hne
   refine ⟨o,st',h,?_⟩
   cases o with
   | normal=>exact absurd h (hne _)
   | exit id=>exact hk
   | ret=>exact hk
 ·cases o with
  | normal =>
   obtain ⟨o2,st2,h3,h4⟩:=h2
   exact ⟨o2,st2,by simp only [iter,h1,h3],h4⟩
  | exit id=>exact ⟨_,st1,by simp only [iter,h1],h2⟩
  | ret=>exact ⟨_,st1,by simp only [iter,h1],h2⟩
end
section
variable {F:FuncId->Option IFn} {S:ySM}
def FinO (d:Nat) (out:yLM) (rs:List IRes) (c:List IV) (len cap sz:Nat) (tight:Bool) (o:Out) (st:St):Prop:=(o=.normal∨o=.ret)/\∃ j,resultI d out st rs=some (.slM d j 0 len cap sz tight)/\st.own[j]?=some (.cells c)
theorem own_of {f:FuncId} {i:IFn} {args:List IV} {c:List IV} {len cap sz k:Nat} {tight:Bool} (hS:S f args=none) (hi:F f=some i) (hm:i.mode=1) (N:Nat) (hfz:∀ x∈c,Fz k x) (hk:k<=N) (hc:c.length=cap*sz)
  (h:∀ m,N<=m->∀ d out,Ex (callN F S m) d out m i.body (FinO d out i.res c len cap sz tight) ⟨args++List.replicate (i.ntmps - args.length) (.tuple []),[]⟩) :
  ∃ N',∀ m,N'<=m->∀ d out ownV own id,own[id]?=some .free->callN F S m d out ownV own id f args=some (.a,.slM d id 0 len cap sz tight,own.set id (.cells c)):=by
 refine ⟨N+1,fun m hN d out ownV own id hf=>?_⟩
 obtain ⟨m,rfl⟩:∃ q,m=q+1:=⟨m - 1,by omega⟩
 obtain ⟨o,st,h1,h2,j,h3,h4⟩:=h m (by omega) (d+1) (fun l=>if l=d then ownV else out l)
 have hm2:¬ i.mode=2:=by omega
 have hm3:¬ i.mode=3:=by omega
 have hm4:¬ 4<=i.mode:=by omega
 have hseg:seg c 0 (cap*sz)=some c:=by
  unfold seg
  rw [if_pos (by omega),zc,List.drop_zero,zgg (by omega)]
 have hmap:c.mapM (freeze m (d+1) (st.own.set j .gone))=some c:=zR fun x hx=>hfz x hx m (by omega) _ _
 simp only [callN,hS,hi,if_neg hm2,if_neg hm3,if_neg hm4,zc,h1]
 rcases h2 with rfl | rfl <;> simp only [ended,h3,zge,leave,hm,if_true,handed,h4,hseg,hmap,mkAt,hf,zc]
variable {d:Nat} {out:yLM} {rs:List IRes} {c:List IV} {len cap sz:Nat} {tight:Bool} {st:St}
theorem FinO_ret:FinO d out rs c len cap sz tight .ret st=∃ j,resultI d out st rs=some (.slM d j 0 len cap sz tight)/\st.own[j]?=some (.cells c):=propext ⟨fun h=>h.2,fun h=>⟨.inr rfl,h⟩⟩
end
theorem rep_fz {z:List IV} {k:Nat} (h:∀ x∈z,Fz k x):∀ {n:Nat},∀ x∈rep z n,Fz k x
 | 0,x,hx=>by simp [rep] at hx
 | n+1,x,hx=>by
  simp only [rep,zhf] at hx
  exact hx.elim (h x) (rep_fz h x)
section
variable {C:Call} {d n0:Nat} {out:yLM} {lk:Nat->Nat->Option IObj} {own ownV:yLO} {t:List IV}
theorem natI_0 {k:IntKind}:natI (.int k 0)=some 0:=zgr rfl rfl
theorem app_src0 {z:List IV} {sz:Nat} {s x:Opd} {slot:Nat}:e_append d out n0 ownV own t z sz true s x slot=appV d n0 (look d out ownV) own sz (ρ t s) slot ((natI (ρ t x)).bind fun n=>if n<=bound then some (rep z n,n) else none):=zgr rfl rfl
theorem YK {sz slot n:Nat} {new:List IV} (h:n≠0) (hb:n<=bound):appendI d n0 lk own sz .nilsl new n slot=mkAt own (n0+slot) (.cells new) (.slM d (n0+slot) 0 n n sz false):=by
 unfold appendI
 rw [if_neg h]
 simp only
 rw [if_pos hb]
end
theorem wrap_lit0:wrapI .i64 (0 - 0)=0:=by rw [zC]; decide
theorem wrap_sub0 {n:Nat} (h:n<=1073741824):wrapI .i64 ((n:Int) - 0)=(n:Int):=by
 rw [zC,IntWalk.i64_in _ (by omega)]
 omega
section
variable {S:ySM}
theorem grow_at (hS:NoS S) (n:Nat) (h0:0<n) (hn:n<=1073741824):∃ N,∀ m,N<=m->∀ d out ownV own id,own[id]?=some .free->callN Ftab S m d out ownV own id 114 [.nilsl,iv n]=some (.a,.slM d id 0 0 n 2 false,own.set id (.cells (rep [.int .i64 0,.int .i64 0] n))):=by
 refine own_of (i:=i114) (ns hS (by rfl)) rfl rfl 2 (k:=1) (rep_fz fun x hx=>?_) (by omega) ?_ fun m hm d out=>?_
 ·simp only [zgf,zg1,or_false] at hx
  rcases hx with rfl | rfl <;> exact zo
 ·rw [Zx]
  rfl
 ·have d1:decide ((n:Int)<0)=false:=by simp
  have d2:decide ((n:Int) > 0)=true:=by simp; omega
  have hb:n<=bound:=by unfold bound; omega
  have hb2:0+n<=bound:=by unfold bound; omega
  have hne:n≠0:=by omega
  simp only [i114,W0,e_nilchk,e_pick,e_box,e_bslice,e_load,e_store,e_eqb,e_eqp,e_eqs,e_eqagg,e_conv,e_faddr,e_field,e_extract,e_call,e_mx,mkAt,List.replicate,look,mkv,binI,intBin,isShift,unI,fillI,cellV,Xb,Xc,Xd,reduceCtorEq,Xe,d1,ev_cap,e_cap,wrap_lit0,wrap_sub0 hn,d2,zaz,sliceI,optI,natI_0,yb,zt,app_src0,if_pos hb,zT,YK hne hb,Nat.zero_le,zhp,Nat.sub_zero,zit,Option.isSome_none,Bool.or_self,FinO_ret]
  exact ⟨0,rfl,rfl⟩
end
end
section
theorem wr_fill:∀ {B A R:List IV},B.length<=R.length->wrN (A++R) A.length B=A++B++R.drop B.length
 | [],A,R,_=>by simp [wrN]
 | b::B,A,R,h=>by
  cases R with
  | nil=>simp at h
  | cons r R =>
   simp only [wrN]
   rw [YJ]
   have h2:=wr_fill (B:=B) (A:=A++[b]) (R:=R) (by simpa using h)
   rw [zga,zgu] at h2
   simp only [zgq,zgz,zf3,zgb,zg5] at h2
   rw [h2]
   simp
theorem Yt {B A R:List IV} {k:Nat} (hk:k=A.length) (h:B.length<=R.length):wrN (A++R) k B=A++B++R.drop B.length:=by rw [hk,wr_fill h]
theorem za3 {d n0 sz len cap n slot:Nat} {out:yLM} {c new:List IV} {J:yLO} {tight:Bool} (h:n≠0) (hb:len+n<=1073741824) (hc:len+n<=cap) (hfit:0+(len+n)*sz<=c.length) (hs:new.all IV.scalar=true) :
  appendI d n0 (look d out (.cells c::J)) (.cells c::J) sz (.slM d 0 0 len cap sz tight) new n slot=some (.x,.slM d 0 0 (len+n) cap sz tight,.cells (wrN c (0+len*sz) new)::J):=by
 unfold appendI
 rw [if_neg h]
 simp only
 rw [if_pos ⟨by unfold bound; omega,trivial⟩]
 simp only [look,if_true,zg8]
 rw [if_pos hc,if_pos ⟨trivial,hfit,hs⟩]
 simp only [zc,List.set_cons_zero]
theorem app_same {d n0 sz slot l i off len cap z:Nat} {lk:Nat->Nat->Option IObj} {own:yLO} {new:List IV} {tight:Bool}:appendI d n0 lk own sz (.slM l i off len cap z tight) new 0 slot=some (.r,.slM l i off len cap z tight,own):=by
 unfold appendI
 rw [if_pos rfl]
theorem app_same0 {d n0 sz slot l i off len cap z n:Nat} (h:n=0) {lk:Nat->Nat->Option IObj} {own:yLO} {new:List IV} {tight:Bool}:appendI d n0 lk own sz (.slM l i off len cap z tight) new n slot=some (.r,.slM l i off len cap z tight,own):=by
 subst h
 exact app_same
theorem pts_scal {l:List Pt}:(l.flatMap Pt.c).all IV.scalar=true:=by
 rw [zhg]
 intro x hx
 obtain ⟨a,_,h⟩:=zh1.1 hx
 simp only [Pt.c,zgf,zg1,or_false] at h
 rcases h with rfl | rfl <;> rfl
theorem cellsI_pt {lk:Nat->Nat->Option IObj} {x y:Int} {tight:Bool}:cellsI lk 2 (.slC [.int .i64 x,.int .i64 y] 1 2 tight)=some ([.int .i64 x,.int .i64 y],1):=by
 simp [cellsI,seg,zc]
theorem iaddr0 {own:yLO} {z n sz:Nat} {cs:List IV} {tight:Bool} {k:IntKind} (h:0<n):iaddrV own z (.slC cs n sz tight) (.int k 0)=some (.p,.ptrC cs (0*z),own):=zZ (i:=0) h
theorem iaddr1 {own:yLO} {z n sz:Nat} {cs:List IV} {tight:Bool} {k:IntKind} (h:1<n):iaddrV own z (.slC cs n sz tight) (.int k 1)=some (.p,.ptrC cs (1*z),own):=zZ (i:=1) h
theorem iaddr2 {own:yLO} {z n sz:Nat} {cs:List IV} {tight:Bool} {k:IntKind} (h:2<n):iaddrV own z (.slC cs n sz tight) (.int k 2)=some (.p,.ptrC cs (2*z),own):=zZ (i:=2) h
theorem wrap_0_1:wrapI .i64 (0+1)=1:=by rw [zC]; decide
theorem wrap_1_1:wrapI .i64 (1+1)=2:=by rw [zC]; decide
theorem wrap_2_1:wrapI .i64 (2+1)=3:=by rw [zC]; decide
theorem lt03:decide ((0:Int)<((3:Nat):Int))=true:=by decide
theorem lt13:decide ((1:Int)<((3:Nat):Int))=true:=by decide
theorem lt23:decide ((2:Int)<((3:Nat):Int))=true:=by decide
theorem lt33:decide ((3:Int)<((3:Nat):Int))=false:=by decide
theorem za4 {a b:Nat} (h:a+b<9223372036854775808):wrapI .i64 ((a:Int)+(b:Int))=((a+b:Nat):Int):=by
 rw [zC,IntWalk.i64_in _ (by omega)]
 rfl
theorem wrap_z1:wrapI .i64 (0+((1:Nat):Int))=((1:Nat):Int):=by rw [zC]; decide
theorem nlt {a:Nat}:decide ((a:Int)<0)=false:=by simp
def mkRow {α:Type} {g:α->List IV} {sz:Nat} (hs:∀ a,(g a).length=sz) (l:List α) (n:Nat) (tight:Bool) (h:l.length=n) (hf:n<9223372036854775808):SlOf sz g :=
 ⟨l,.slC (l.flatMap g) n sz tight,by subst h; exact .row _ _ _ (zq hs),by omega⟩
theorem filled {A B D R:List IV} {n:Nat} (hA:A.length=2) (hD:D.length=2) (hB:B.length=n*2) (hR:R.length=(1+n+1)*2):wrN (wrN (wrN R 0 A) 2 B) ((1+n)*2) D=A++(B++D):=by
 have h1:wrN R 0 A=A++R.drop 2:=by
  have:=Yt (B:=A) (A:=[]) (R:=R) (k:=0) rfl (by omega)
  simpa [hA] using this
 rw [h1,Yt (k:=2) hA.symm (by rw [zin]; omega),Yt (k:=(1+n)*2) (by rw [zga,hA,hB]; omega) (by simp only [zin]; omega),zgu,zgu]
 rw [List.drop_eq_nil_of_le (by simp only [zin]; omega),zhc]
theorem filled0 {A D R:List IV} (hA:A.length=2) (hD:D.length=2) (hR:R.length=4):wrN (wrN R 0 A) 2 D=A++D:=by
 have h1:wrN R 0 A=A++R.drop 2:=by
  have:=Yt (B:=A) (A:=[]) (R:=R) (k:=0) rfl (by omega)
  simpa [hA] using this
 rw [h1,Yt (k:=2) hA.symm (by rw [zin]; omega),List.drop_eq_nil_of_le (by simp only [zin]; omega),zhc]
section
variable {S:ySM}
theorem gives_concat (hS:NoS S) (p1 p2:Pt) (q:SlOf 2 Pt.c) (hq:q.l.length<=1000000):∃ q':SlOf 2 Pt.c,q'.l=p1::(q.l++[p2])/\Gives Ftab S 68 [.slC [.slC [iv p1.x,iv p1.y] 1 2 true,q.v,.slC [iv p2.x,iv p2.y] 1 2 true] 3 1 true] q'.v:=by
 obtain ⟨N,hN⟩:=grow_at hS (1+q.l.length+1) (by omega) (by omega)
 have hlen:(p1::(q.l++[p2])).length=1+q.l.length+1:=by simp; omega
 refine ⟨mkRow Pt.c_len (p1::(q.l++[p2])) (1+q.l.length+1) false hlen (by omega),rfl,?_⟩
 refine zeo (i:=i68) (ns hS (by rfl)) rfl rfl (N+5) fun m hm d out=>?_
 have hg:=hN m (by omega) d out [.free] [.free] 0 rfl
 have hfr:∀ own:yLO,own[0]?=some (.cells ((p1::(q.l++[p2])).flatMap Pt.c))->freeze m d own (.slM d 0 0 (1+q.l.length+1) (1+q.l.length+1) 2 false)=some (mkRow Pt.c_len (p1::(q.l++[p2])) (1+q.l.length+1) false hlen (by omega)).v:=fun own ho=>yW (k:=1) ptc_fz (by omega) hlen Pt.c_len ho
 have w1:wrapI .i64 (((1:Nat):Int)+(q.l.length:Int))=((1+q.l.length:Nat):Int):=za4 (by omega)
 have w2:wrapI .i64 (((1+q.l.length:Nat):Int)+((1:Nat):Int))=((1+q.l.length+1:Nat):Int):=za4 (by omega)
 obtain ⟨k,rfl⟩:∃ k,m=k+1+1+1+1:=⟨m - 4,by omega⟩
 simp only [zf] at hg
 have hr0:(rep [.int .i64 0,.int .i64 0] (1+q.l.length+1)).length=(1+q.l.length+1)*2:=by rw [Zx]; rfl
 generalize rep [.int .i64 0,.int .i64 0] (1+q.l.length+1)=R at hg hr0
 by_cases h0:q.l.length=0
 ·have hl:q.l=[]:=zhd.1 h0
  have a1:=fun n0 slot=>za3 (d:=d) (n0:=n0) (sz:=2) (len:=0) (cap:=1+q.l.length+1) (n:=1) (slot:=slot) (out:=out) (c:=R) (new:=[.int .i64 p1.x,.int .i64 p1.y]) (J:=[.free]) (tight:=false) (by omega) (by omega) (by omega) (by omega) rfl
  have a3:=fun n0 slot=>za3 (d:=d) (n0:=n0) (sz:=2) (len:=1) (cap:=1+q.l.length+1) (n:=1) (slot:=slot) (out:=out) (c:=wrN R 0 [.int .i64 p1.x,.int .i64 p1.y]) (new:=[.int .i64 p2.x,.int .i64 p2.y]) (J:=[.free,.free,.free]) (tight:=false) (by omega) (by omega) (by omega) (by rw [zao]; omega) rfl
  simp only [zg5,Nat.add_zero,zhp,zik] at a1 a3
  simp only [i68,W0,e_nilchk,e_pick,e_box,e_bslice,e_load,e_store,e_eqb,e_eqp,e_eqs,e_eqagg,e_conv,e_faddr,e_field,e_extract,e_call,e_mx,mkAt,List.replicate,look,mkv,binI,intBin,isShift,unI,fillI,cellV,Xb,Xc,Xd,reduceCtorEq,Xe,Ex_loop,Lp_succ,lt03,lt13,lt23,lt33,iaddr0 (show 0<3 by omega),iaddr1 (show 1<3 by omega),iaddr2 (show 2<3 by omega),wrap_0_1,wrap_1_1,wrap_2_1,wrap_z1,w1,w2,nlt,hg,zt,zJ,zT,yV,cellsI_pt,a1,app_same0 h0,a3,zhp,zik]
  refine ⟨_,rfl,?_⟩
  have e:(2:Nat)=1+q.l.length+1:=by omega
  have h2:=hfr [IObj.cells (wrN (wrN R 0 [.int .i64 p1.x,.int .i64 p1.y]) 2 [.int .i64 p2.x,.int .i64 p2.y]),IObj.free,IObj.free,IObj.free] (by
   rw [zg8,filled0 rfl rfl (by rw [hr0,h0]),hl]
   simp [Pt.c,zf])
  rw [show (IV.slM d 0 0 (1+q.l.length+1) (1+q.l.length+1) 2 false)=.slM d 0 0 2 (1+q.l.length+1) 2 false by rw [← e]] at h2
  exact h2
 ·have a1:=fun n0 slot=>za3 (d:=d) (n0:=n0) (sz:=2) (len:=0) (cap:=1+q.l.length+1) (n:=1) (slot:=slot) (out:=out) (c:=R) (new:=[.int .i64 p1.x,.int .i64 p1.y]) (J:=[.free]) (tight:=false) (by omega) (by omega) (by omega) (by omega) rfl
  have a2:=fun n0 slot=>za3 (d:=d) (n0:=n0) (sz:=2) (len:=1) (cap:=1+q.l.length+1) (n:=q.l.length) (slot:=slot) (out:=out) (c:=wrN R 0 [.int .i64 p1.x,.int .i64 p1.y]) (new:=q.l.flatMap Pt.c) (J:=[.free,.free]) (tight:=false) h0 (by omega) (by omega) (by rw [zao]; omega) pts_scal
  have a3:=fun n0 slot=>za3 (d:=d) (n0:=n0) (sz:=2) (len:=1+q.l.length) (cap:=1+q.l.length+1) (n:=1) (slot:=slot) (out:=out) (c:=wrN (wrN R 0 [.int .i64 p1.x,.int .i64 p1.y]) 2 (q.l.flatMap Pt.c)) (new:=[.int .i64 p2.x,.int .i64 p2.y]) (J:=[.free,.free,.free]) (tight:=false) (by omega) (by omega) (by omega) (by rw [zao,zao]; omega) rfl
  simp only [zg5,Nat.add_zero,zhp,zik] at a1 a2 a3
  simp only [i68,W0,e_nilchk,e_pick,e_box,e_bslice,e_load,e_store,e_eqb,e_eqp,e_eqs,e_eqagg,e_conv,e_faddr,e_field,e_extract,e_call,e_mx,mkAt,List.replicate,look,mkv,binI,intBin,isShift,unI,fillI,cellV,Xb,Xc,Xd,reduceCtorEq,Xe,Ex_loop,Lp_succ,lt03,lt13,lt23,lt33,iaddr0 (show 0<3 by omega),iaddr1 (show 1<3 by omega),iaddr2 (show 2<3 by omega),wrap_0_1,wrap_1_1,wrap_2_1,wrap_z1,w1,w2,nlt,hg,zt,zJ,zT,yV,cellsI_pt,a1,a2,a3,zhp,zik]
  refine ⟨_,rfl,hfr _ ?_⟩
  rw [zg8,filled (n:=q.l.length) rfl rfl (zq Pt.c_len) hr0]
  simp [Pt.c,zf]
end
end
section
def arcF (p:Pn) (id:Int):Option Ac:=p.az.l.find? fun f=>f.id==id
def nodeF (p:Pn) (id:Int):Option Nd:=p.ns.l.find? fun f=>f.id==id
def arcD (p:Pn) (id:Int):Ac:=(arcF p id).getD zAc
def nodeD (p:Pn) (id:Int):Nd:=(nodeF p id).getD zNd
def pathOk (p:Pn) (id:Int):Bool:=(arcF p id).isSome&&((nodeF p (arcD p id).fr).isSome&&(nodeF p (arcD p id).to).isSome)
def pathL (p:Pn) (id:Int):List Pt:=(nodeD p (arcD p id).fr).at'::((arcD p id).via.l++[(nodeD p (arcD p id).to).at'])
def FewVia (p:Pn):Prop:=∀ f∈p.az.l,f.via.l.length<=100000
theorem fewD {p:Pn} (h:FewVia p) (id:Int):(arcD p id).via.l.length<=100000:=by
 unfold arcD
 cases hf:arcF p id with
 | none=>simp [zAc,nilS]
 | some a=>exact h a (List.mem_of_find?_eq_some hf)
theorem za5 (q:SlOf 2 Pt.c) (e:Int):Fz (1+1+1+1) (.tuple [q.v,.int .i64 e]):=by
 refine zei fun x hx=>?_
 simp only [zgf,zg1,or_false] at hx
 rcases hx with rfl | rfl
 ·exact yK ptc_fz q
 ·exact zo.le (by omega)
section
variable {S:ySM}
theorem Zo (hS:NoS S) (p:Pn) (id:Int) (hv:FewVia p):∃ q':SlOf 2 Pt.c,(pathOk p id=true->q'.l=pathL p id)/\Gives Ftab S 38 [.agg p.c,iv id] (.tuple [q'.v,iv (bif pathOk p id then 0 else 7)]):=by
 obtain ⟨q1,hq1,N1,h1⟩:=zcb hS p id (fun f hf=>by have:=hv f hf; omega)
 have hq1':q1.l=(arcD p id).via.l:=hq1
 have hlen:q1.l.length<=100000:=by rw [hq1']; exact fewD hv id
 obtain ⟨N2,h2⟩:=Z8 hS p (arcD p id).fr
 obtain ⟨N3,h3⟩:=Z8 hS p (arcD p id).to
 obtain ⟨q',hq',N4,h4⟩:=gives_concat hS (nodeD p (arcD p id).fr).at' (nodeD p (arcD p id).to).at' q1 (by omega)
 have c1:=fun m (hm:N1+N2+N3+N4+5<=m) d out ownV own i=>h1 m (by omega) d out ownV own i
 have c2:=fun m (hm:N1+N2+N3+N4+5<=m) d out ownV own i=>h2 m (by omega) d out ownV own i
 have c3:=fun m (hm:N1+N2+N3+N4+5<=m) d out ownV own i=>h3 m (by omega) d out ownV own i
 have c4:=fun m (hm:N1+N2+N3+N4+5<=m) d out ownV own i=>h4 m (by omega) d out ownV own i
 have e1:(p.az.l.find? fun f=>f.id==id)=arcF p id:=rfl
 have e2:((arcF p id).getD zAc)=arcD p id:=rfl
 have e3:∀ k:Int,(p.ns.l.find? fun f=>f.id==k)=nodeF p k:=fun k=>rfl
 have e4:∀ k:Int,((nodeF p k).getD zNd)=nodeD p k:=fun k=>rfl
 simp only [e1,e2,e3,e4,zf,Pn.c,Ac.c,Nd.c] at c1 c2 c3 c4
 cases b1:(arcF p id).isSome
 ·refine ⟨nilS _ _,by simp [pathOk,b1],?_⟩
  refine zH (i:=i38) (ns hS (by rfl)) rfl rfl (za5 _ _) (N1+N2+N3+N4+5) (by omega) fun m hm d out=>?_
  simp only [b1] at c1
  simp only [i38,W0,sevalprocAttr,Pn.c,c1 m hm,c2 m hm,c3 m hm,pathOk,b1,zgo,cond_false]
  rfl
 ·cases b2:(nodeF p (arcD p id).fr).isSome
  ·refine ⟨nilS _ _,by simp [pathOk,b2],?_⟩
   refine zH (i:=i38) (ns hS (by rfl)) rfl rfl (za5 _ _) (N1+N2+N3+N4+5) (by omega) fun m hm d out=>?_
   simp only [b1] at c1
   simp only [b2] at c2
   simp only [i38,W0,sevalprocAttr,Pn.c,c1 m hm,c2 m hm,c3 m hm,pathOk,b1,b2,zgo,zh3,cond_false]
   rfl
  ·cases b3:(nodeF p (arcD p id).to).isSome
   ·refine ⟨nilS _ _,by simp [pathOk,b3],?_⟩
    refine zH (i:=i38) (ns hS (by rfl)) rfl rfl (za5 _ _) (N1+N2+N3+N4+5) (by omega) fun m hm d out=>?_
    simp only [b1] at c1
    simp only [b2] at c2
    simp only [b3] at c3
    simp only [i38,W0,sevalprocAttr,Pn.c,c1 m hm,c2 m hm,c3 m hm,pathOk,b1,b2,b3,zgo,zh3,cond_false]
    rfl
   ·refine ⟨q',fun _=>by rw [hq',hq1']; rfl,?_⟩
    refine zH (i:=i38) (ns hS (by rfl)) rfl rfl (za5 _ _) (N1+N2+N3+N4+5) (by omega) fun m hm d out=>?_
    simp only [b1] at c1
    simp only [b2] at c2
    simp only [b3] at c3
    simp only [i38,W0,sevalprocAttr,Pn.c,rep,c1 m hm,c2 m hm,c3 m hm,c4 m hm,pathOk,b1,b2,b3,cond_true]
end
end
section
theorem app_slC {d n0 sz len slot n:Nat} (h:n≠0) {lk:Nat->Nat->Option IObj} {own:yLO} {cs new:List IV} (hb:len+n<=1073741824) (hc:cs.length=len*sz) :
  appendI d n0 lk own sz (.slC cs len sz true) new n slot=mkAt own (n0+slot) (.cells (cs++new)) (.slM d (n0+slot) 0 (len+n) (len+n) sz false):=by
 unfold appendI
 rw [if_neg h]
 simp only
 rw [if_pos ⟨by unfold bound; omega,trivial⟩]
 have hseg:seg cs 0 (len*sz)=some cs:=by
  unfold seg
  rw [if_pos (by omega),zc,List.drop_zero,zgg (by omega)]
 simp only [hseg,zc]
theorem Yu {d n0 sz len slot n i:Nat} (h:n≠0) {lk:Nat->Nat->Option IObj} {own:yLO} {c new:List IV} (hb:len+n<=1073741824) (hc:c.length=len*sz) (hs:new.all IV.scalar=true) (hl:lk d i=some (.cells c)) :
  appendI d n0 lk own sz (.slM d i 0 len len sz false) new n slot=killAt own i (n0+slot) (.cells (c++new)) (.slM d (n0+slot) 0 (len+n) (len+n) sz false):=by
 unfold appendI
 rw [if_neg h]
 simp only
 rw [if_pos ⟨by unfold bound; omega,trivial⟩]
 have hseg:seg c 0 (len*sz)=some c:=by
  unfold seg
  rw [if_pos (by omega),zc,List.drop_zero,zgg (by omega)]
 simp only [hl,hseg,zc]
 rw [if_neg (by omega)]
 simp only [zgk,if_false]
 rw [if_pos ⟨trivial,hs⟩]
end
section
section
variable {S:ySM}
theorem yD {lk:Nat->Nat->Option IObj} {x:Int} {tight:Bool}:cellsI lk 1 (.slC [.int .i64 x] 1 1 tight)=some ([.int .i64 x],1):=by
 simp [cellsI,seg,zc]
end
end
section
section
variable {α:Type} {g:α->List IV} {sz:Nat}
def OwnJ (g:α->List IV) (sz d k0:Nat) (J:yLO) (lv:IV) (xs:List α):Prop:=(xs=[]/\lv=.nilsl)∨∃ b,xs≠[]/\lv=.slM d (k0+b) 0 xs.length xs.length sz false/\J[b]?=some (.cells (xs.flatMap g))
theorem OwnJ.more {d k0:Nat} {J:yLO} {lv:IV} {xs:List α} (h:OwnJ g sz d k0 J lv xs) (r:yLO):OwnJ g sz d k0 (J++r) lv xs:=by
 rcases h with h | ⟨b,hne,h1,h2⟩
 ·exact .inl h
 ·exact .inr ⟨b,hne,h1,by rw [zf1 (zfz.1 h2).1]; exact h2⟩
def rowQ (hs:∀ a,(g a).length=sz) (xs:List α) (hx:xs.length<9223372036854775808):SlOf sz g:=match xs,hx with
 | [],_=>nilS _ _
 | x::t,hx=>mkRow hs (x::t) (x::t).length false rfl hx
theorem Y5 (hs:∀ a,(g a).length=sz) (xs:List α) (hx:xs.length<9223372036854775808):(rowQ hs xs hx).l=xs:=by cases xs <;> rfl
theorem zW {Pre L:yLO} {b:Nat}:(Pre++L)[Pre.length+b]?=L[b]?:=by
 rw [zf4 (by omega),zhw]
theorem ye {Pre L:yLO} {b:Nat} {v:IObj}:(Pre++L).set (Pre.length+b) v=Pre++L.set b v:=by
 rw [zie _ _ (by omega),zhw]
theorem za6 (hs:∀ a,(g a).length=sz) (hf:∀ a,∀ x∈g a,Fz 1 x) {d m:Nat} {Pre J:yLO} {lv:IV} {xs:List α} (hm:2<=m) (hx:xs.length<9223372036854775808) (h:OwnJ g sz d Pre.length J lv xs):freeze m d (Pre++J) lv=some (rowQ hs xs hx).v:=by
 rcases h with ⟨rfl,rfl⟩ | ⟨b,hne,rfl,h2⟩
 ·exact ZQ m (by omega) d _
 ·cases xs with
  | nil=>exact absurd rfl hne
  | cons x t=>exact yW (k:=1) hf (by omega) rfl hs (by rw [zW]; exact h2)
theorem za7 (hs:∀ a,(g a).length=sz) {d n0 slot k:Nat} {out:yLM} {Pre J R:yLO} {lv:IV} {xs ys:List α} (h:OwnJ g sz d Pre.length J lv xs) (hy:ys.length≠0) (hx:xs.length+ys.length<=1073741824) (hk:n0+slot=Pre.length+(J.length+k)) (hf:R[k]?=some .free)
  (hsc:(ys.flatMap g).all IV.scalar=true) :
  ∃ e lv' J2,appendI d n0 (look d out (Pre++(J++R))) (Pre++(J++R)) sz lv (ys.flatMap g) ys.length slot=some (e,lv',Pre++J2)/\OwnJ g sz d Pre.length J2 lv' (xs++ys):=by
 have hkl:k<R.length:=(zfz.1 hf).1
 have hget:(J++R)[J.length+k]?=some .free:=by
  rw [zf4 (by omega),zhw]
  exact hf
 have hlt:J.length+k<(J++R).length:=by rw [zga]; omega
 have hne:xs++ys≠[]:=by
  intro he
  exact hy (by rw [(List.append_eq_nil_iff.1 he).2]; rfl)
 rcases h with ⟨rfl,rfl⟩ | ⟨b,_,rfl,h2⟩
 ·rw [YK hy (by unfold bound; simp at hx; omega)]
  unfold mkAt
  rw [hk,zW,hget]
  simp only [zc]
  rw [ye]
  refine ⟨_,_,_,rfl,.inr ⟨J.length+k,hne,by simp,?_⟩⟩
  rw [zg9 hlt]
  rfl
 ·have hb:b<J.length:=(zfz.1 h2).1
  have hb2:(J++R)[b]?=some (.cells (xs.flatMap g)):=by rw [zf1 hb]; exact h2
  rw [Yu hy hx (zq hs) hsc (by simp only [look,if_true,zW]; exact hb2)]
  unfold killAt
  rw [hk,zW,hget]
  simp only [zc]
  rw [ye,ye]
  refine ⟨_,_,_,rfl,.inr ⟨J.length+k,hne,by simp,?_⟩⟩
  rw [zg9 (by rw [zid]; exact hlt)]
  simp
end
theorem take_flat {α β:Type} {g:α->List β} {l:List α} {i:Nat} {x:α} (hx:l[i]?=some x):(l.take (i+1)).flatMap g=(l.take i).flatMap g++g x:=by
 rw [zhb,hx,zhq,List.flatMap_append,zgj,zh4,zhc]
end
section
theorem expand_t {t:List IV} {n:Nat} (h:t.length=n):t=(List.range n).map (getK (.tuple []) t):=by
 apply ziu
 intro i
 rw [zgd]
 by_cases hi:i<n
 ·rw [List.getElem?_range hi,zf2,zI,zf8,zf0 (by omega),zh7]
 ·rw [zig (by omega),zig (by simp; omega),zg2]
end
section
section
variable {S:ySM}
def findD (s:Sv) (id:Int):Ft:=(s.ft.l.find? fun f=>f.id==id).getD zFt
def findOk (s:Sv) (id:Int):Bool:=(s.ft.l.find? fun f=>f.id==id).isSome
end
end
section
theorem OwnJ.one {α:Type} {g:α->List IV} {sz d k0:Nat} {J:yLO} {lv:IV} {xs:List α} (h:OwnJ g sz d k0 J lv xs):lv.cells=[lv]/\lv.scalar=true:=by
 rcases h with ⟨_,rfl⟩ | ⟨b,_,rfl,_⟩ <;> exact ⟨rfl,rfl⟩
theorem res0 {d:Nat} {out:yLM} {st:St}:resultI d out st []=some (.tuple []):=zgr rfl rfl
end
section
theorem Yv {α:Type} {P:α->Nat->Prop}:∀ (l:List α),(∀ x∈l,∃ N,∀ m,N<=m->P x m)->∃ N,∀ x∈l,∀ m,N<=m->P x m
 | [],_=>⟨0,fun x hx=>by simp at hx⟩
 | y::l,h=>by
  obtain ⟨N1,h1⟩:=h y (zgi ..)
  obtain ⟨N2,h2⟩:=Yv l fun x hx=>h x (zgn _ hx)
  refine ⟨N1+N2,fun x hx m hm=>?_⟩
  rcases zgf.1 hx with rfl | hx
  ·exact h1 m (by omega)
  ·exact h2 x hx m (by omega)
end
section
def Bk (own0:yLO) (b:Nat) (c:List IV):yLO:=own0.set b (.cells c)
def RestOf (own0:yLO) (b:Nat) (ownV:yLO):Prop:=∀ j,j<own0.length->j≠b->ownV[j]?=own0[j]?
section
variable {own0 R J:yLO} {b:Nat} {c c':List IV}
theorem zev:(Bk own0 b c).length=own0.length:=by simp [Bk]
theorem bk_get (h:b<own0.length):(Bk own0 b c++R)[b]?=some (.cells c):=by
 rw [zf1 (by rw [zev]; exact h)]
 simp [Bk,h]
theorem bk_set (h:b<own0.length):(Bk own0 b c++R).set b (.cells c')=Bk own0 b c'++R:=by
 rw [List.set_append_left _ _ (by rw [zev]; exact h)]
 simp [Bk]
theorem bk_hide {vis:List Nat} {k:Nat} (h:b<own0.length):(hide vis (own0.length+k) (Bk own0 b c++R))[b]?=some (.cells c):=by
 rw [zw,bk_get h]
 simp
 omega
theorem rest_bk:RestOf own0 b (Bk own0 b c++R):=by
 intro j h1 h2
 rw [zf1 (by rw [zev]; exact h1)]
 simp only [Bk]
 rw [zg6 (Ne.symm h2)]
theorem rest_hide {vis:List Nat} {k:Nat}:RestOf own0 b (hide vis (own0.length+k) (Bk own0 b c++R)):=by
 intro j h1 h2
 rw [zw,rest_bk j h1 h2]
 rw [zf0 h1]
 simp
 omega
theorem bk_self {l:yLO} (h:l[b]?=some (.cells c)):Bk l b c=l:=by
 obtain ⟨h1,h2⟩:=zfz.1 h
 unfold Bk
 rw [← h2,List.set_getElem_self]
end
structure Elt {α:Type} (g:α->List IV) (e:α->IV) (sz:Nat) (agg:Bool):Prop where
 len:∀ x,(g x).length=sz
 cells:∀ x,(e x).cells=g x
 scal:∀ x,(g x).all IV.scalar=true
 val:∀ x,mkv agg (g x)=some (e x)
section
variable {α:Type} {g:α->List IV} {e:α->IV} {sz:Nat} {agg:Bool} {xs:List α} {i j:Nat} {x y:α}
theorem rdN_from:∀ (p l:List IV),rdN (p++l) p.length l.length=some l
 | p,[]=>rfl
 | p,x::l=>by
  have h:=rdN_from (p++[x]) l
  simp only [zgu,zgq,zgz,zga,zf3,zgb,zg5] at h
  unfold rdN
  simp only [zf3,zf4 (zf7 _),zit,zg8,h,zf2]
theorem rdN_whole {l:List IV}:rdN l 0 l.length=some l:=rdN_from [] l
theorem Elt.ld (h:Elt g e sz agg) (hx:xs[i]?=some x):(rdN (xs.flatMap g) (i*sz) sz).bind (mkv agg)=some (e x):=by
 have h1:=zb h.len 0 sz hx (by omega)
 rw [Nat.add_zero] at h1
 rw [h1,← h.len x,rdN_whole,zge,h.val]
theorem third {l1 a l2:List IV} {k:Nat} (h:l1.length+a.length<=k):(l1++(a++l2))[k]?=l2[k - l1.length - a.length]?:=by
 rw [zf4 (by omega),zf4 (by omega)]
theorem wrN_flat (hg:∀ x,(g x).length=sz):∀ {xs:List α} {i:Nat},i<xs.length->wrN (xs.flatMap g) (i*sz) (g x)=(xs.set i x).flatMap g:=by
 intro xs i hi
 refine ziu fun k=>?_
 have hl:i*sz+(g x).length<=(xs.flatMap g).length:=by
  rw [hg,zq hg]
  have:=ziq sz (Nat.succ_le_of_lt hi)
  rw [Nat.succ_mul] at this
  exact this
 rw [Zy _ _ _ _ hl,hg]
 have key:∀ (l1 l2:List α) (z:α),(l1++z::l2).flatMap g=l1.flatMap g++(g z++l2.flatMap g):=fun l1 l2 z=>by simp
 have hsplit:xs=xs.take i++xs[i]::xs.drop (i+1):=by simp
 have hset:xs.set i x=xs.take i++x::xs.drop (i+1):=by rw [List.set_eq_take_append_cons_drop,if_pos hi]
 rw [hset,key]
 conv=>lhs; rw [hsplit,key]
 have ht:((xs.take i).flatMap g).length=i*sz:=by rw [zq hg,zhx,Nat.min_eq_left (Nat.le_of_lt hi)]
 split
 ·rename_i h1
  rw [zf4 (by omega),ht,zf1 (by rw [hg]; omega)]
 ·rename_i h1
  by_cases h2:k<i*sz
  ·rw [zf1 (by omega),zf1 (by omega)]
  ·rw [third (by rw [ht,hg]; omega),third (by rw [ht,hg]; omega),hg,hg]
theorem Elt.st (h:Elt g e sz agg) (hi:i<xs.length):wrN (xs.flatMap g) (i*sz) (g x)=(xs.set i x).flatMap g:=wrN_flat h.len hi
theorem Elt.fits (h:Elt g e sz agg) (hi:i<xs.length):i*sz+sz<=(xs.flatMap g).length:=by
 rw [zq h.len]
 have:=ziq sz (Nat.succ_le_of_lt hi)
 rw [Nat.succ_mul] at this
 exact this
end
theorem Wlk:(type_of% @Wc):=@Wc
section
variable {t:List IV} {i j n:Nat} {v z:IV} {l:List (Nat × IV)}
theorem putS_len:(put t (some i) v).length=t.length:=by rw [zN,zid]
theorem gp_eq (h:i<t.length):getK z (put t (some i) v) i=v:=by
 rw [zN,zI,zf8,zg9 h]
 rfl
theorem gp_ne (h:i≠j):getK z (put t (some i) v) j=getK z t j:=by
 rw [zN,zI,zI,zf8,zf8,zg6 h]
theorem gq_eq (h:i<t.length):(put t (some i) v)[i]?=some v:=by rw [zN,zg9 h]
theorem gq_ne (h:i≠j):(put t (some i) v)[j]?=t[j]?:=by rw [zN,zg6 h]
def IC.sub:IC->List Nat->IC
 | c,[]=>c
 | .seq a _,0::p=>a.sub p
 | .seq _ b,_::p=>b.sub p
 | .cond _ a _,0::p=>a.sub p
 | .cond _ _ b,_::p=>b.sub p
 | .block _ a,_::p=>a.sub p
 | .loop a,_::p=>a.sub p
 | c,_=>c
def Slots (n:Nat) (t:List IV) (l:List (Nat × IV)):Prop:=t.length=n/\∀ p∈l,getK (.tuple []) t p.1=p.2
theorem zg:Slots n t []=(t.length=n):=propext ⟨fun h=>h.1,fun h=>⟨h,by simp⟩⟩
theorem ze:Slots n t ((i,v)::l)=(getK (.tuple []) t i=v/\Slots n t l):=by
 unfold Slots
 refine propext ⟨fun ⟨h1,h2⟩=>⟨h2 (i,v) (by simp),h1,fun p hp=>h2 p (by simp [hp])⟩,fun ⟨h1,h2,h3⟩=>⟨h2,fun p hp=>?_⟩⟩
 rcases zgf.1 hp with rfl | hp
 ·exact h1
 ·exact h3 p hp
end
theorem scal_pc {cs:List IV} {o:Nat}:(IV.ptrC cs o).scalar=true:=zgr rfl rfl
theorem cells_pc {cs:List IV} {o:Nat}:(IV.ptrC cs o).cells=[.ptrC cs o]:=zgr rfl rfl
theorem V0:(type_of% @Wlk)/\(type_of% @putS_len)/\(type_of% @gp_eq)/\(type_of% @gp_ne)/\(type_of% @gq_eq)/\(type_of% @gq_ne)/\(type_of% @zg)/\(type_of% @ze)/\(type_of% @ne_eq.{1})/\(type_of% @not_false_eq_true)/\(type_of% @not_true_eq_false)/\(type_of% @zgq.{0})/\(type_of% @zgz.{0})/\(type_of% @zhc.{0})/\(type_of% @zhr.{0})/\(type_of% @List.all_nil.{0})/\(type_of% @Bool.and_self)/\(type_of% @Bool.and_true)/\(type_of% @zhj)/\(type_of% @if_true.{1})/\(type_of% @zgb.{0})/\(type_of% @zf3.{0})/\(type_of% @zg5)/\(type_of% @Nat.add_zero)/\(type_of% @zf7)/\(type_of% @and_self)/\(type_of% @and_true)/\(type_of% @true_and)/\(type_of% @zg8.{0})/\(type_of% @zgc.{0})/\(type_of% @zf2.{0,0})/\(type_of% @zg2.{0,0})/\(type_of% @zge.{0,0})/\(type_of% @zgk)/\(type_of% @if_false.{1})/\(type_of% @zg3.{0,0})/\(type_of% @zh9.{0,0})/\(type_of% @Int.ofNat_lt)/\(type_of% @decide_true)/\(type_of% @decide_false)/\(type_of% @beq_iff_eq.{0})/\(type_of% @zgu.{0})/\(type_of% @zga.{0})/\(type_of% @zh2)/\(type_of% @zh6)/\(type_of% @mkAt.eq_1)/\(type_of% @Go.Proofs.YtdacpmgnhkmnkaaGreatDoor.look.eq_1)/\(type_of% @mkv_ff)/\(type_of% @mkv_tt)/\(type_of% @binI.eq_1)/\(type_of% @binI.eq_2)/\(type_of% @intBin.eq_1)/\(type_of% @intBin.eq_2)/\(type_of% @intBin.eq_3)/\(type_of% @intBin.eq_4)/\(type_of% @intBin.eq_5)/\(type_of% @intBin.eq_6)/\(type_of% @intBin.eq_7)/\(type_of% @intBin.eq_8)/\(type_of% @intBin.eq_9)/\(type_of% @intBin.eq_10)/\(type_of% @intBin.eq_11)/\(type_of% @intBin.eq_12)/\(type_of% @intBin.eq_13)/\(type_of% @intBin.eq_14)/\(type_of% @sh_shl)/\(type_of% @sh_shr)/\(type_of% @sh_add)/\(type_of% @sh_sub)/\(type_of% @sh_mul)/\(type_of% @sh_quo)/\(type_of% @sh_rem)/\(type_of% @sh_and)/\(type_of% @sh_or)/\(type_of% @sh_xor)/\(type_of% @sh_eql)/\(type_of% @sh_neq)/\(type_of% @sh_lss)/\(type_of% @sh_leq)/\(type_of% @sh_gtr)/\(type_of% @sh_geq)/\(type_of% @unI.eq_1)/\(type_of% @unI.eq_2)/\(type_of% @fillI.eq_1)/\(type_of% @fillI.eq_2)/\(type_of% @cellV.eq_1)/\(type_of% @e_nilchk.eq_1)/\(type_of% @e_pick.eq_1)/\(type_of% @e_box.eq_1)/\(type_of% @e_bslice.eq_1)/\(type_of% @e_load.eq_1)/\(type_of% @e_store.eq_1)/\(type_of% @e_eqb.eq_1)/\(type_of% @e_eqp.eq_1)/\(type_of% @e_eqs.eq_1)/\(type_of% @e_eqagg.eq_1)/\(type_of% @e_conv.eq_1)/\(type_of% @e_faddr.eq_1)/\(type_of% @e_field.eq_1)/\(type_of% @e_extract.eq_1)/\(type_of% @e_call.eq_1)/\(type_of% @e_mx.eq_1)/\(type_of% @repl_0)/\(type_of% @repl_1)/\(type_of% @repl_2)/\(type_of% @repl_3)/\(type_of% @repl_4)/\(type_of% @repl_5)/\(type_of% @repl_6)/\(type_of% @scal_pc)/\(type_of% @eq_self.{1})/\(type_of% @cells_pc) :=
 ⟨@Wlk,@putS_len,@gp_eq,@gp_ne,@gq_eq,@gq_ne,@zg,@ze,@ne_eq.{1},@not_false_eq_true,@not_true_eq_false,@zgq.{0},@zgz.{0},@zhc.{0},@zhr.{0},@List.all_nil.{0},@Bool.and_self,@Bool.and_true,@zhj,@if_true.{1},@zgb.{0},@zf3.{0},@zg5,@Nat.add_zero,@zf7,@and_self,@and_true,@true_and,@zg8.{0},@zgc.{0},@zf2.{0,0},@zg2.{0,0},@zge.{0,0},@zgk,@if_false.{1},@zg3.{0,0},@zh9.{0,0},@Int.ofNat_lt,@decide_true,@decide_false,@beq_iff_eq.{0},@zgu.{0},@zga.{0},@zh2,@zh6,@mkAt.eq_1,@Go.Proofs.YtdacpmgnhkmnkaaGreatDoor.look.eq_1,@mkv_ff,@mkv_tt,@binI.eq_1,@binI.eq_2,@intBin.eq_1,@intBin.eq_2,@intBin.eq_3,@intBin.eq_4,@intBin.eq_5,@intBin.eq_6,@intBin.eq_7,@intBin.eq_8,@intBin.eq_9,@intBin.eq_10,@intBin.eq_11,@intBin.eq_12,@intBin.eq_13,@intBin.eq_14,@sh_shl,@sh_shr,@sh_add,@sh_sub,@sh_mul,@sh_quo,@sh_rem,@sh_and,@sh_or,@sh_xor,@sh_eql,@sh_neq,@sh_lss,@sh_leq,@sh_gtr,@sh_geq,@unI.eq_1,@unI.eq_2,@fillI.eq_1,@fillI.eq_2,@cellV.eq_1,@e_nilchk.eq_1,@e_pick.eq_1,@e_box.eq_1,@e_bslice.eq_1,@e_load.eq_1,@e_store.eq_1,@e_eqb.eq_1,@e_eqp.eq_1,@e_eqs.eq_1,@e_eqagg.eq_1,@e_conv.eq_1,@e_faddr.eq_1,@e_field.eq_1,@e_extract.eq_1,@e_call.eq_1,@e_mx.eq_1,@repl_0,@repl_1,@repl_2,@repl_3,@repl_4,@repl_5,@repl_6,@scal_pc,@eq_self.{1},@cells_pc⟩
theorem L1:(type_of% @zev)/\(type_of% @rest_bk)/\(type_of% @rest_hide)/\(type_of% @zK)/\(type_of% @zid.{0})/\(type_of% @gt_iff_lt.{0})/\(type_of% @ge_iff_le.{0})/\(type_of% @Int.ofNat_le) :=
 ⟨@zev,@rest_bk,@rest_hide,@zK,@zid.{0},@gt_iff_lt.{0},@ge_iff_le.{0},@Int.ofNat_le⟩
theorem L2 {own0:yLO} {b:Nat} {α:Type} {g:α->List IV} {e:α->IV} {sz:Nat} {agg:Bool} (hb:b<own0.length) (hE:Elt g e sz agg):(∀ {c:List IV} {R:yLO},(Bk own0 b c++R)[b]?=some (.cells c))/\(∀ {c c':List IV} {R:yLO},(Bk own0 b c++R).set b (.cells c')=Bk own0 b c'++R)/\(∀ {c:List IV} {R:yLO} {vis:List Nat} {k:Nat},(hide vis (own0.length+k) (Bk own0 b c++R))[b]?=some (.cells c))/\(∀ x,(e x).cells=g x)/\(∀ x,(g x).length=sz)/\(∀ x,(g x).all IV.scalar=true)/\(∀ {xs:List α} {i:Nat} {x:α},i<xs.length->wrN (xs.flatMap g) (i*sz) (g x)=(xs.set i x).flatMap g)/\(∀ {xs:List α} {i:Nat},i<xs.length->i*sz+sz<=(xs.flatMap g).length) :=
 ⟨bk_get hb,bk_set hb,bk_hide hb,hE.cells,hE.len,hE.scal,hE.st,hE.fits⟩
def slotsOf:Nat->List IV->List (Nat × IV)
 | _,[]=>[]
 | k,x::xs=>(k,x)::slotsOf (k+1) xs
theorem V2:(type_of% @slotsOf.eq_1)/\(type_of% @slotsOf.eq_2)/\(type_of% @ze)/\(type_of% @zg)/\(type_of% @zg5):=⟨@slotsOf.eq_1,@slotsOf.eq_2,@ze,@zg,@zg5⟩
theorem V3:(type_of% @ze)/\(type_of% @zg)/\(type_of% @zf):=⟨@ze,@zg,@zf⟩
theorem gx {α:Type} {l:List α} {i:Nat} (h:i<l.length):∃ x,l[i]?=some x:=⟨_,zf0 h⟩
theorem yp:∀ {xs:List IV} {k:Nat} {p:Nat × IV},p∈slotsOf k xs->∃ j,p.1=k+j/\xs[j]?=some p.2
 | [],_,_,h=>by simp [slotsOf] at h
 | x::xs,k,p,h=>by
  simp only [slotsOf,zgf] at h
  rcases h with rfl | h
  ·exact ⟨0,rfl,rfl⟩
  ·obtain ⟨j,h1,h2⟩:=yp h
   exact ⟨j+1,by omega,h2⟩
def FinY (d:Nat) (out:yLM) (rs:List IRes) (Q:IV->List IObj->Prop) (o:Out) (st:St):Prop:=(o=.normal∨o=.ret)/\∃ v,resultI d out st rs=some v/\Q v st.own
section
variable {F:FuncId->Option IFn} {S:ySM} {d:Nat} {out:yLM} {rs:List IRes} {Q:IV->List IObj->Prop} {st:St}
theorem yw:FinY d out rs Q .ret st=∃ v,resultI d out st rs=some v/\Q v st.own:=propext ⟨fun h=>h.2,fun h=>⟨.inr rfl,h⟩⟩
theorem ZC:FinY d out rs Q .normal st=∃ v,resultI d out st rs=some v/\Q v st.own:=propext ⟨fun h=>h.2,fun h=>⟨.inl rfl,h⟩⟩
theorem gives_y {f:FuncId} {i:IFn} {args:List IV} {m:Nat} {ownV own:yLO} (hS:S f args=none) (hi:F f=some i) (hm:i.mode=2)
  (h:Ex (callN F S m) d out m i.body (FinY d out i.res Q) ⟨args++List.replicate (i.ntmps - args.length) (.tuple []),own⟩):∃ v own',(∀ id,callN F S (m+1) d out ownV own id f args=some (.x,v,own'))/\Q v own':=by
 obtain ⟨o,st,h1,h2,v,h3,h4⟩:=h
 refine ⟨v,st.own,fun id=>?_,h4⟩
 simp only [callN,hS,hi,hm,if_true,zc,h1]
 rcases h2 with rfl | rfl <;> simp only [ended,h3,zf2]
end
theorem yL {F:FuncId->Option IFn} {S:ySM} {d:Nat} {out:yLM} {Q:IV->List IObj->Prop} {f:FuncId} {i:IFn} {args:List IV} {m:Nat} {ownV own:yLO} (hS:S f args=none) (hi:F f=some i) (hm:i.mode=2) (hl:args.length<=i.ntmps)
  (h:∀ t,Slots i.ntmps t (slotsOf 0 args)->Ex (callN F S m) d out m i.body (FinY d out i.res Q) ⟨t,own⟩):∃ v own',(∀ id,callN F S (m+1) d out ownV own id f args=some (.x,v,own'))/\Q v own':=by
 refine gives_y hS hi hm (h _ ⟨by simp; omega,fun p hp=>?_⟩)
 obtain ⟨j,h1,h2⟩:=yp hp
 rw [zI,zf8,h1,zg5,zf1 (zfz.1 h2).1,h2]
 rfl
theorem wrap_eqn {k:Int} {n:Nat} (h:k=n) (hn:n<9223372036854775808):wrapI .i64 k=(n:Int):=by
 subst h
 exact (zC _ _).trans (IntWalk.i64_in _ (by constructor <;> omega))
theorem we {k:Int} {n:Nat} (h:k=n:=by omega) (hn:n<9223372036854775808:=by omega):wrapI .i64 k=(n:Int):=wrap_eqn h hn
theorem zX {k n:Int} (h:k=n) (h1:-9223372036854775808<=n) (h2:n<9223372036854775808):wrapI .i64 k=n:=by
 subst h
 exact (zC _ _).trans (IntWalk.i64_in _ (by constructor <;> omega))
def CmpOK {α:Type} (S:ySM) (N d:Nat) (out:yLM) (own0:yLO) (b:Nat) (e:α->IV) (gf:FuncId) (caps:List IV) (r:α->α->Int):Prop :=
 ∀ m,N<=m->∀ ownV own id x y,RestOf own0 b ownV->callN Ftab S m d out ownV own id gf (e x::e y::caps)=some (.r,.int .i64 (r x y),own)
end
section
theorem zh {S:ySM} {f:FuncId} {i:IFn} {args:List IV} {v:IV} (hS:S f args=none) (hi:Ftab f=some i) (hm:i.mode=0) (hl:args.length<=i.ntmps) (N:Nat) (hN:1<=N) (hv:Fz 1 v)
  (h:∀ m,N<=m->∀ d out t,Slots i.ntmps t (slotsOf 0 args)->Ex (callN Ftab S m) d out m i.body (Fin d out i.res v) ⟨t,[]⟩):∀ m,N+1<=m->∀ d out ownV own id,callN Ftab S m d out ownV own id f args=some (.r,v,own):=by
 intro m hm1 d out ownV own id
 obtain ⟨m,rfl⟩:∃ q,m=q+1:=⟨m - 1,by omega⟩
 obtain ⟨o,st,h1,h2,h3⟩:=h m (by omega) (d+1) (fun l=>if l=d then ownV else out l) (args++List.replicate (i.ntmps - args.length) (.tuple [])) ⟨by simp; omega,fun p hp=>by
  obtain ⟨j,h1,h2⟩:=yp hp
  rw [zI,zf8,h1,zg5,zf1 (zfz.1 h2).1,h2]
  rfl⟩
 have hm0:¬ (0=2):=by decide
 have hm00:¬ (0=3):=by decide
 have hm40:¬ (4<=0):=by decide
 have hf:freeze m (d+1) st.own v=some v:=hv m (by omega) _ _
 simp only [callN,hS,hi,hm,hm0,hm00,hm40,if_false,zc,h1]
 rcases h2 with rfl | rfl <;> simp [ended,h3,leave,hf]
theorem gives_m03 {S:ySM} {f:FuncId} {i:IFn} {args:List IV} {v:IV} (hS:S f args=none) (hi:Ftab f=some i) (hm:i.mode=0∨i.mode=3) (hl:args.length<=i.ntmps) (N:Nat) (hN:1<=N) (hv:Fz 1 v) (hsc:∀ o,scalarR o v=some (.r,v,o)) (hc:∀ d own,args.mapM (freezeA 12 d own)=some args)
  (h:∀ m,N<=m->∀ d out t,Slots i.ntmps t (slotsOf 0 args)->Ex (callN Ftab S m) d out m i.body (Fin d out i.res v) ⟨t,[]⟩):∀ m,N+1<=m->∀ d out ownV own id,callN Ftab S m d out ownV own id f args=some (.r,v,own):=by
 rcases hm with hm | hm
 ·exact zh hS hi hm hl N hN hv h
 intro m hm1 d out ownV own id
 obtain ⟨m,rfl⟩:∃ q,m=q+1:=⟨m - 1,by omega⟩
 obtain ⟨o,st,h1,h2,h3⟩:=h m (by omega) 0 (fun _=>[]) (args++List.replicate (i.ntmps - args.length) (.tuple [])) ⟨by simp; omega,fun p hp=>by
  obtain ⟨j,h1,h2⟩:=yp hp
  rw [zI,zf8,h1,zg5,zf1 (zfz.1 h2).1,h2]
  rfl⟩
 have h32:¬ (3=2):=by decide
 simp only [callN,hS,hi,hm,if_neg h32,if_true,hc,zge,zc,h1]
 rcases h2 with rfl | rfl <;> simp [ended,h3,hsc]
theorem gives_nan {S:ySM} (hS:NoS S) (x:Int):∀ m,2<=m->∀ d out ownV own id,callN Ftab S m d out ownV own id 147 [.int .i64 x]=some (.r,.bool false,own):=by
 refine zh (i:=i147) (ns hS (by rfl)) rfl rfl (lb rfl) 1 (by omega) zn fun m hm d out t hfr=>?_
 simp only [V2,Xb,i147] at hfr
 have hx:(x != x)=false:=by simp
 simp only [i147,V0,sevalprocAttr,hfr,hx]
end
section
def GivesN (S:ySM) (N:Nat) (f:FuncId) (args:List IV) (v:IV):Prop:=∀ m,N<=m->∀ d out ownV own id,callN Ftab S m d out ownV own id f args=some (.r,v,own)
theorem Y6 (a b:IV):rep [a,b] 3=[a,b,a,b,a,b]:=zgr rfl rfl
theorem zdd (a b:IV):rep [a,b] 4=[a,b,a,b,a,b,a,b]:=zgr rfl rfl
def nearP (p:Pt):Bool:=!(decide (p.x < -2097152)||decide (2097152<p.x)||decide (p.y < -2097152)||decide (2097152<p.y))
noncomputable def twI (a b c:Pt):Int:=wrapI .i64 (wrapI .i64 (wrapI .i64 (b.x - a.x)*wrapI .i64 (c.y - a.y)) - wrapI .i64 (wrapI .i64 (b.y - a.y)*wrapI .i64 (c.x - a.x)))
section
variable {S:ySM}
theorem zew (hS:NoS S) (a b c:Pt):GivesN S 2 150 [.agg a.c,.agg b.c,.agg c.c] (.int .i64 (twI a b c)):=by
 refine zh (i:=i150) (ns hS (by rfl)) rfl rfl (lb rfl) 1 (by omega) zo fun m hm d out t hfr=>?_
 simp only [V2,Xb,i150,Pt.c] at hfr
 simp only [i150,V0,sevalprocAttr,hfr,twI]
theorem at_before (hS:NoS S) (a b:Pt):GivesN S 2 220 [.agg a.c,.agg b.c] (.bool (decide (a.x<b.x)||(a.x==b.x&&decide (a.y<b.y)))):=by
 refine zh (i:=i220) (ns hS (by rfl)) rfl rfl (lb rfl) 1 (by omega) zn fun m hm d out t hfr=>?_
 simp only [V2,Xb,i220,Pt.c] at hfr
 cases h1:decide (a.x<b.x)
 ·cases h2:a.x==b.x
  ·simp only [i220,V0,sevalprocAttr,hfr,h1,h2,zhm,zgo]
  ·simp only [i220,V0,sevalprocAttr,hfr,h1,h2,zhm,zhj]
 ·simp only [i220,V0,sevalprocAttr,hfr,h1,zhu]
theorem at_lower (hS:NoS S) (a b:Pt):GivesN S 2 189 [.agg a.c,.agg b.c] (.bool (decide (b.y<a.y)||(b.y==a.y&&decide (b.x<a.x)))):=by
 refine zh (i:=i189) (ns hS (by rfl)) rfl rfl (lb rfl) 1 (by omega) zn fun m hm d out t hfr=>?_
 simp only [V2,Xb,i189,Pt.c] at hfr
 cases h1:decide (b.y<a.y)
 ·cases h2:b.y==a.y
  ·simp only [i189,V0,sevalprocAttr,hfr,h1,h2,zhm,zgo]
  ·simp only [i189,V0,sevalprocAttr,hfr,h1,h2,zhm,zhj]
 ·simp only [i189,V0,sevalprocAttr,hfr,h1,zhu]
theorem zdi (hS:NoS S) (l:List Pt) (hl:l.length<=1000):GivesN S (l.length+4) 149 [.slC (l.flatMap Pt.c) l.length 2 true] (.bool (l.all nearP)):=by
 refine zh (i:=i149) (ns hS (by rfl)) rfl rfl (lb rfl) (l.length+3) (by omega) zn fun m hm d out t hfr=>?_
 simp only [V2,Xb,i149] at hfr
 have hE:∀ x:Pt,x.c=[.int .i64 x.x,.int .i64 x.y]:=fun x=>rfl
 simp only [i149,V0,sevalprocAttr,hfr]
 refine zd (fun jj st=>∃ (i:Nat) (O:yLO),l.length - i<=jj/\i<=l.length/\(l.take i).all nearP=true/\st.own=O/\Slots 30 st.t [(5,.slC (l.flatMap Pt.c) l.length 2 true),(6,iv (l.length:Nat)),(7,iv i)]) l.length (by omega) ⟨0,[],by omega,by omega,by simp,rfl,by simp only [V0,sevalprocAttr,hfr,zg4]⟩ ?_
 rintro jj ⟨t,own⟩ K ⟨i,O,hjj,hi,ha,ho,hfr⟩ hn he hr
 dsimp only at ho hfr
 subst ho
 simp only [V3] at hfr
 by_cases h:i<l.length
 ·have hx:l[i]?=some l[i]:=zf0 h
  have hmem:l[i]∈l:=zgt h
  generalize l[i]=x at hx hmem
  have hrd:rdN (l.flatMap Pt.c) (i*2) 2=some [.int .i64 x.x,.int .i64 x.y]:=(zb (sz:=2) (fun _=>rfl) 0 2 hx (by omega)).trans rfl
  have hw:wrapI .i64 ((i:Int)+1)=((i+1:Nat):Int):=we
  have fin:nearP x=false->l.all nearP=false:=fun hf=>by
   rw [List.all_eq_false]
   exact ⟨x,hmem,by rw [hf]; decide⟩
  cases h1:decide (x.x < -2097152)
  ·cases h2:decide (2097152<x.x)
   ·cases h3:decide (x.y < -2097152)
    ·cases h4:decide (2097152<x.y)
     ·simp only [V0,sevalprocAttr,hfr,h,zZ,hrd,gt_iff_lt,h1,h2,h3,h4,hw]
      refine hn _ (l.length - (i+1)) (by omega) ⟨i+1,_,by omega,by omega,?_,rfl,by simp only [V0,sevalprocAttr,hfr,h1,h2,h3,h4,hw]⟩
      rw [zhb,hx,zhq,List.all_append,ha]
      simp [nearP,h1,h2,h3,h4]
     ·simp only [V0,sevalprocAttr,hfr,h,zZ,hrd,gt_iff_lt,h1,h2,h3,h4]
      refine hr _ ?_
      simp only [V0,sevalprocAttr,hfr,fin (by simp [nearP,h1,h2,h3,h4])]
    ·simp only [V0,sevalprocAttr,hfr,h,zZ,hrd,gt_iff_lt,h1,h2,h3]
     refine hr _ ?_
     simp only [V0,sevalprocAttr,hfr,fin (by simp [nearP,h1,h2,h3])]
   ·simp only [V0,sevalprocAttr,hfr,h,zZ,hrd,gt_iff_lt,h1,h2]
    refine hr _ ?_
    simp only [V0,sevalprocAttr,hfr,fin (by simp [nearP,h1,h2])]
  ·simp only [V0,sevalprocAttr,hfr,h,zZ,hrd,gt_iff_lt,h1]
   refine hr _ ?_
   simp only [V0,sevalprocAttr,hfr,fin (by simp [nearP,h1])]
 ·simp only [V0,sevalprocAttr,hfr,h]
  refine he _ _ ?_
  have hall:l.all nearP=true:=by rw [← zgg (l:=l) (i:=i) (by omega)]; exact ha
  simp only [V0,sevalprocAttr,hfr,hall]
noncomputable def twG (a b c:Pt):Int:=bif [a,b,c].all nearP then twI a b c else 0
theorem at_twiceG (hS:NoS S) (a b c:Pt):GivesN S 8 219 [.agg a.c,.agg b.c,.agg c.c] (.int .i64 (twG a b c)):=by
 refine zh (i:=i219) (ns hS (by rfl)) rfl rfl (lb rfl) (7) (by omega) zo fun m hm d out t hfr=>?_
 simp only [V2,Xb,i219,Pt.c] at hfr
 have c0:=fun d out ownV own i=>zdi hS [a,b,c] (by simp) m (by simp; omega) d out ownV own i
 simp only [zgj,zh4,Pt.c,zgq,zgz,zf,zf3,zgb,zg5,Xb] at c0
 have c1:=zew hS a b c m (by omega)
 simp only [Pt.c,zf] at c1
 unfold twG
 cases hb:[a,b,c].all nearP
 ·simp only [hb] at c0
  simp only [i219,V0,sevalprocAttr,hfr,Y6,c0,c1,cond_false]
 ·simp only [hb] at c0
  simp only [i219,V0,sevalprocAttr,hfr,Y6,c0,c1,cond_true]
noncomputable def sideI (a b c:Pt):Int:=bif decide (0<twG a b c) then 1 else bif decide (twG a b c<0) then -1 else 0
theorem at_side (hS:NoS S) (a b c:Pt):GivesN S 10 186 [.agg a.c,.agg b.c,.agg c.c] (.int .i64 (sideI a b c)):=by
 refine zh (i:=i186) (ns hS (by rfl)) rfl rfl (lb rfl) (9) (by omega) zo fun m hm d out t hfr=>?_
 simp only [V2,Xb,i186,Pt.c] at hfr
 have c1:=at_twiceG hS a b c m (by omega)
 simp only [Pt.c,zf] at c1
 unfold sideI
 generalize twG a b c=w at c1
 cases h1:decide (0<w)
 ·cases h2:decide (w<0)
  ·simp only [i186,V0,sevalprocAttr,hfr,c1,gt_iff_lt,h1,h2,cond_false]
  ·simp only [i186,V0,sevalprocAttr,hfr,c1,gt_iff_lt,h1,h2,cond_false,cond_true]
 ·simp only [i186,V0,sevalprocAttr,hfr,c1,gt_iff_lt,h1,cond_true]
def mnI (a b:Int):Int:=if b<a then b else a
def mxI (a b:Int):Int:=if a<b then b else a
noncomputable def onI (a b p:Pt):Bool:=([a,b,p].all nearP&&twI a b p==0)&&(decide (mnI a.x b.x<=p.x)&&(decide (p.x<=mxI a.x b.x)&&(decide (mnI a.y b.y<=p.y)&&decide (p.y<=mxI a.y b.y))))
theorem at_on (hS:NoS S) (a b p:Pt):GivesN S 8 111 [.agg a.c,.agg b.c,.agg p.c] (.bool (onI a b p)):=by
 refine zh (i:=i111) (ns hS (by rfl)) rfl rfl (lb rfl) (7) (by omega) zn fun m hm d out t hfr=>?_
 simp only [V2,Xb,i111,Pt.c] at hfr
 have c0:=fun d out ownV own i=>zdi hS [a,b,p] (by simp) m (by simp; omega) d out ownV own i
 simp only [zgj,zh4,Pt.c,zgq,zgz,zf,zf3,zgb,zg5,Xb] at c0
 have c1:=zew hS a b p m (by omega)
 simp only [Pt.c,zf] at c1
 unfold onI
 have hmn:∀ a b:Int,(if b<a then b else a)=mnI a b:=fun _ _=>rfl
 have hmx:∀ a b:Int,(if a<b then b else a)=mxI a b:=fun _ _=>rfl
 cases hb:[a,b,p].all nearP
 ·simp only [hb] at c0
  simp only [i111,V0,sevalprocAttr,hfr,Y6,c0,c1,zgo]
 ·simp only [hb] at c0
  have hbne:∀ z:Int,(z != 0)=!(z==0):=fun z=>rfl
  cases h0:twI a b p==0
  ·simp only [i111,V0,sevalprocAttr,hfr,Y6,c0,c1,hbne,h0,zh3,zgo]
  ·cases h1:decide (mnI a.x b.x<=p.x)
   ·simp only [i111,V0,sevalprocAttr,hfr,Y6,c0,c1,hbne,h0,hmn,hmx,gt_iff_lt,h1,zh3,zgo]
   ·cases h2:decide (p.x<=mxI a.x b.x)
    ·simp only [i111,V0,sevalprocAttr,hfr,Y6,c0,c1,hbne,h0,hmn,hmx,gt_iff_lt,h1,h2,zh3,zgo]
    ·cases h3:decide (mnI a.y b.y<=p.y)
     ·simp only [i111,V0,sevalprocAttr,hfr,Y6,c0,c1,hbne,h0,hmn,hmx,gt_iff_lt,h1,h2,h3,zh3,zgo]
     ·simp only [i111,V0,sevalprocAttr,hfr,Y6,c0,c1,hbne,h0,hmn,hmx,gt_iff_lt,h1,h2,h3]
end
end
end Go.Proofs.YtdacpmgnhkmnkaaGreatDoor
end
