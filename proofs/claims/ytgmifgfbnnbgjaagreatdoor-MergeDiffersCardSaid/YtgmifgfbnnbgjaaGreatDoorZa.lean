/-
  A part of the proof: the small machine, its simulation and its walks.
-/
import Derived.Tactics
import Derived.RowKit3
import Derived.Orders
import Derived.Below
import Derived.IntWalk
import Derived.CheckFast
import Derived.Laws.CopyRow
import Derived.Laws.Cells
import Derived.Laws.Append
import Derived.Laws.StructEq
import Derived.Laws.Slices
import Derived.Laws.Tables
import Derived.Laws.Small
import Derived.ChangeKeysEq
import Derived.MapKept
set_option linter.unusedVariables false
set_option linter.unusedSimpArgs false
set_option maxRecDepth 1000000
set_option maxHeartbeats 3200000
namespace Go.Proofs.YtgmifgfbnnbgjaaGreatDoor
open Go
theorem zak : type_of% @List.getElem?_eq_getElem := @List.getElem?_eq_getElem
theorem zal : type_of% @List.getElem?_eq_some_iff := @List.getElem?_eq_some_iff
theorem zam : type_of% @Nat.le_of_ble_eq_true := @Nat.le_of_ble_eq_true
theorem zan : type_of% @Result.andThen_ok := @Result.andThen_ok
theorem zao : type_of% @Option.some.injEq := @Option.some.injEq
theorem zap : type_of% @Nat.zero_add := @Nat.zero_add
theorem zaq : type_of% @Nat.le_refl := @Nat.le_refl
theorem zar : type_of% @List.getElem?_append_left := @List.getElem?_append_left
theorem zas : type_of% @List.getElem?_append_right := @List.getElem?_append_right
theorem zat : type_of% @Sem.run_bind := @Sem.run_bind
theorem zau : type_of% @List.length_cons := @List.length_cons
theorem zav : type_of% @Option.map_map := @Option.map_map
theorem zaw : type_of% @List.length_append := @List.length_append
theorem zax : type_of% @Eq.trans := @Eq.trans
theorem zay : type_of% @Sem.run_pure := @Sem.run_pure
theorem zaz : type_of% @Bool.false_eq_true := @Bool.false_eq_true
theorem za0 : type_of% @List.take_of_length_le := @List.take_of_length_le
theorem za1 : type_of% @List.getElem?_cons_succ := @List.getElem?_cons_succ
theorem za2 : type_of% @Array.getElem?_toList := @Array.getElem?_toList
theorem za3 : type_of% @Bool.and_eq_true := @Bool.and_eq_true
theorem za4 : type_of% @List.mem_cons := @List.mem_cons
theorem za5 : type_of% @Option.map_some := @Option.map_some
theorem za6 : type_of% @Array.getElem?_eq_some_iff := @Array.getElem?_eq_some_iff
theorem za7 : type_of% @Option.bind_some := @Option.bind_some
theorem za8 : type_of% @List.getElem?_cons_zero := @List.getElem?_cons_zero
theorem za9 : type_of% @List.append_assoc := @List.append_assoc
theorem zba : type_of% @Option.getD_some := @Option.getD_some
theorem zbb : type_of% @List.length_eq_zero_iff := @List.length_eq_zero_iff
theorem zbc : type_of% @List.length_nil := @List.length_nil
theorem zbd : type_of% @List.cons_append := @List.cons_append
theorem zbe : type_of% @Int.natCast_zero := @Int.natCast_zero
theorem zbf : type_of% @List.getD_eq_getElem?_getD := @List.getD_eq_getElem?_getD
theorem zbg : type_of% @List.flatMap_cons := @List.flatMap_cons
theorem zbh : type_of% @Option.some.inj := @Option.some.inj
theorem zbi : type_of% @List.length_map := @List.length_map
theorem zbj : type_of% @Bool.not_false := @Bool.not_false
theorem zbk : type_of% @List.nil_append := @List.nil_append
theorem zbl : type_of% @List.length_take := @List.length_take
theorem zbm : type_of% @Bool.not_true := @Bool.not_true
theorem zbn : type_of% @List.mem_cons_self := @List.mem_cons_self
theorem zbo : type_of% @Nat.le_trans := @Nat.le_trans
theorem zbp : type_of% @List.not_mem_nil := @List.not_mem_nil
theorem zbq : type_of% @List.getElem?_set_ne := @List.getElem?_set_ne
theorem zbr : type_of% @Nat.add_sub_cancel_left := @Nat.add_sub_cancel_left
theorem zbs : type_of% @List.getElem?_map := @List.getElem?_map
theorem zbt : type_of% @List.getElem?_take := @List.getElem?_take
theorem zbu : type_of% @List.all_eq_true := @List.all_eq_true
theorem zbv : type_of% @List.append_nil := @List.append_nil
theorem zbw : type_of% @List.getElem?_set_self := @List.getElem?_set_self
theorem zbx : type_of% @List.pairwise_cons := @List.pairwise_cons
end Go.Proofs.YtgmifgfbnnbgjaaGreatDoor
section
namespace Go.Proofs.YtgmifgfbnnbgjaaGreatDoor
open Go Go.RowKit
section
inductive IV where
 | bool (b:Bool)
 | int (k:IntKind) (n:Int)
 | str (s:ByteArray)
 | nilptr
 | ptrM (l i off:Nat)
 | ptrC (cs:List IV) (off:Nat)
 | nilsl
 | slM (l i off len cap sz:Nat) (tight:Bool)
 | slC (cs:List IV) (len sz:Nat) (tight:Bool)
 | nilmap
 | mapM (l i:Nat)
 | mapC (ks vs:List IV)
 | nilfn
 | fn (f:FuncId) (first cap:List IV)
 | agg (cs:List IV)
 | tuple (cs:List IV)
inductive IObj where
 | free
 | gone
 | cells (c:List IV)
 | map (ks vs:List IV) (bs:List Nat) (clock:Nat)
def Pl:Type:=Nat->Nat->Option (Nat × Nat)
def Konst (β:Pl) (W:World) (k:Nat):Prop:=k<W.heap.size/\∀ l i s,β l i≠some (k,s)
def Room (W:World) (k n:Nat):Prop:=∃ c t f,W.heap[k]?=some (.cells c t f)/\n<=c.size
inductive VR (β:Pl) (W:World):IV->Value->Prop where
 | bool (b:Bool):VR β W (.bool b) (.bool b)
 | int (k:IntKind) (n:Int):VR β W (.int k n) (.int k n)
 | str (s:ByteArray):VR β W (.str s) (.string s)
 | nilptr:VR β W .nilptr (.pointer none)
 | ptrM {l i off k s:Nat} (h:β l i=some (k,s)):VR β W (.ptrM l i off) (.pointer (some ⟨k,off+s,none⟩))
 | ptrC {cs:List IV} {off k s:Nat} (f:Nat->Value) (hk:Konst β W k) (hc:∀ (j:Nat) (x:IV),cs[j]?=some x->W.cell? ⟨k,j+s,none⟩=some (f j)) (hv:∀ (j:Nat) (x:IV),cs[j]?=some x->VR β W x (f j)) :
   VR β W (.ptrC cs off) (.pointer (some ⟨k,off+s,none⟩))
 | nilsl:VR β W .nilsl (.slice none 0 0)
 | slM {l i off len cap sz:Nat} {tight:Bool} {k s o' cap':Nat} (h:β l i=some (k,s)) (ho:cap=0∨o'=off+s) (hl:len<=cap) (hc:cap<=cap') (ht:tight=true->cap'=cap)
   (hr:Room W k (o'+cap'*sz)):VR β W (.slM l i off len cap sz tight) (.slice (some ⟨k,o',none⟩) len cap')
 | slC {cs:List IV} {len sz:Nat} {tight:Bool} {k s cap':Nat} {ad:Addr} (f:Nat->Value) (hk:len≠0->Konst β W k) (hc:∀ (j:Nat) (x:IV),cs[j]?=some x->W.cell? ⟨k,j+s,none⟩=some (f j)) (hv:∀ (j:Nat) (x:IV),cs[j]?=some x->VR β W x (f j))
   (hn:cs.length=len*sz) (hl:len<=cap') (ht:tight=true->cap'=len) (ha:len≠0->ad=⟨k,s,none⟩):VR β W (.slC cs len sz tight) (.slice (some ad) len cap')
 | nilmap:VR β W .nilmap (.map none)
 | mapM {l i k s:Nat} (h:β l i=some (k,s)):VR β W (.mapM l i) (.map (some k))
 | mapC {ks vs:List IV} {k:Nat} {es:Array MapEntry} {clock:Nat} (e:Nat->MapEntry) (hk:Konst β W k) (hm:W.heap[k]?=some (.map es clock)) (hn:es.size=ks.length) (hn':vs.length=ks.length)
   (he:∀ (j:Nat),j<ks.length->es[j]?=some (e j)) (hkv:∀ (j:Nat) (x:IV),ks[j]?=some x->VR β W x (e j).key) (hvv:∀ (j:Nat) (x:IV),vs[j]?=some x->VR β W x (e j).val):VR β W (.mapC ks vs) (.map (some k))
 | nilfn:VR β W .nilfn .nilFunc
 | fn {f:FuncId} {first cap:List IV} {first' cap':Array Value} (n1:first.length=first'.size) (n2:cap.length=cap'.size) (h1:∀ (j:Nat) (x:IV) (y:Value),first[j]?=some x->first'[j]?=some y->VR β W x y)
   (h2:∀ (j:Nat) (x:IV) (y:Value),cap[j]?=some x->cap'[j]?=some y->VR β W x y):VR β W (.fn f first cap) (.func (.func f) first' cap')
 | agg {cs:List IV} {ws:Array Value} (n:cs.length=ws.size) (h:∀ (j:Nat) (x:IV) (y:Value),cs[j]?=some x->ws[j]?=some y->VR β W x y):VR β W (.agg cs) (.agg ws)
 | tuple {cs:List IV} {ws:Array Value} (n:cs.length=ws.size) (h:∀ (j:Nat) (x:IV) (y:Value),cs[j]?=some x->ws[j]?=some y->VR β W x y):VR β W (.tuple cs) (.tuple ws)
structure Ext (β:Pl) (W:World) (β':Pl) (W':World):Prop where
 keep:∀ l i p,β l i=some p->β' l i=some p
 fresh:∀ l i k s,β' l i=some (k,s)->(∃ l' i' s',β l' i'=some (k,s'))∨W.heap.size<=k
 block:∀ k,k<W.heap.size->(∀ l i s,β l i≠some (k,s))->W'.heap[k]?=W.heap[k]?
 size:W.heap.size<=W'.heap.size
 rows:∀ (k:Nat) (c:Array Value) (t:TypeId) (f:Nat × Nat),W.heap[k]?=some (.cells c t f)->∃ c2,W'.heap[k]?=some (.cells c2 t f)/\c2.size=c.size
theorem Room.ext {β β':Pl} {W W':World} {k n:Nat} (h:Room W k n) (e:Ext β W β' W'):Room W' k n :=
 let ⟨c,t,f,h1,h2⟩:=h; let ⟨c2,h3,h4⟩:=e.rows k c t f h1; ⟨c2,t,f,h3,h4 ▸ h2⟩
theorem Konst.ext {β β':Pl} {W W':World} {k:Nat} (h:Konst β W k) (e:Ext β W β' W'):Konst β' W' k :=
 ⟨Nat.lt_of_lt_of_le h.1 e.size,fun l i s hb=>(e.fresh l i k s hb).elim (fun ⟨l',i',s',hb'⟩=>h.2 l' i' s' hb') (fun hs=>absurd h.1 (Nat.not_lt.2 hs))⟩
theorem cell_of_block {W W':World} {k:Nat} (h:W'.heap[k]?=W.heap[k]?) (j:Nat) (o:Option Nat):W'.cell? ⟨k,j,o⟩=W.cell? ⟨k,j,o⟩:=by
 unfold World.cell?
 simp only [h]
theorem Konst.cell {β β':Pl} {W W':World} {k:Nat} (h:Konst β W k) (e:Ext β W β' W') (j:Nat):W'.cell? ⟨k,j,none⟩=W.cell? ⟨k,j,none⟩ :=
 cell_of_block (e.block k h.1 h.2) j none
theorem VR.ext {β β':Pl} {W W':World} (e:Ext β W β' W') {v:IV} {x:Value} (h:VR β W v x):VR β' W' v x:=by
 induction h with
 | bool b=>exact .bool b
 | int k n=>exact .int k n
 | str s=>exact .str s
 | nilptr=>exact .nilptr
 | ptrM h=>exact .ptrM (e.keep _ _ _ h)
 | ptrC f hk hc _ ih=>exact .ptrC f (hk.ext e) (fun j x hx=>(hk.cell e _).trans (hc j x hx)) ih
 | nilsl=>exact .nilsl
 | slM h ho hl hc ht hr=>exact .slM (e.keep _ _ _ h) ho hl hc ht (hr.ext e)
 | slC f hk hc _ hn hl ht ha ih =>
  refine .slC f (fun hne=>(hk hne).ext e) (fun j x hx=>((hk (fun h=>?_)).cell e _).trans (hc j x hx)) ih hn hl ht ha
  have:=(zal.1 hx).1
  rw [hn,h,Nat.zero_mul] at this
  omega
 | nilmap=>exact .nilmap
 | mapM h=>exact .mapM (e.keep _ _ _ h)
 | mapC en hk hm hn hn' he _ _ ih1 ih2=>exact .mapC en (hk.ext e) ((e.block _ hk.1 hk.2).trans hm) hn hn' he ih1 ih2
 | nilfn=>exact .nilfn
 | fn n1 n2 _ _ ih1 ih2=>exact .fn n1 n2 ih1 ih2
 | agg n _ ih=>exact .agg n ih
 | tuple n _ ih=>exact .tuple n ih
theorem Ext.refl (β:Pl) (W:World):Ext β W β W:=⟨fun _ _ _ h=>h,fun l i k s h=>.inl ⟨l,i,s,h⟩,fun _ _ _=>rfl,zaq _,fun _ c _ _ h=>⟨c,h,rfl⟩⟩
structure Fr (d:Nat) (β:Pl) (W:World) (β':Pl) (W':World):Prop where
 keep:∀ l i p,β l i=some p->β' l i=some p
 fresh:∀ l i k s,β' l i=some (k,s)->β l i=some (k,s)∨(l=d/\((∃ i' s',β d i'=some (k,s'))∨W.heap.size<=k))
 block:∀ k,k<W.heap.size->(∀ i s,β d i≠some (k,s))->W'.heap[k]?=W.heap[k]?
 size:W.heap.size<=W'.heap.size
 rows:∀ (k:Nat) (c:Array Value) (t:TypeId) (f:Nat × Nat),W.heap[k]?=some (.cells c t f)->∃ c2,W'.heap[k]?=some (.cells c2 t f)/\c2.size=c.size
 os:W'.os=W.os
 tape:W'.tape=W.tape
 output:W'.output=W.output
theorem Fr.ext {d:Nat} {β β':Pl} {W W':World} (h:Fr d β W β' W'):Ext β W β' W' :=
 ⟨h.keep,fun l i k s hb=>(h.fresh l i k s hb).elim (fun h=>.inl ⟨l,i,s,h⟩) (fun ⟨_,h⟩=>h.imp (fun ⟨i',s',h⟩=>⟨d,i',s',h⟩) id),fun k hk hn=>h.block k hk (hn d),h.size,h.rows⟩
theorem Fr.refl (d:Nat) (β:Pl) (W:World):Fr d β W β W:=⟨fun _ _ _ h=>h,fun _ _ _ _ h=>.inl h,fun _ _ _=>rfl,zaq _,fun _ c _ _ h=>⟨c,h,rfl⟩,rfl,rfl,rfl⟩
theorem Fr.trans {d:Nat} {β β1 β2:Pl} {W W1 W2:World} (h:Fr d β W β1 W1) (h':Fr d β1 W1 β2 W2):Fr d β W β2 W2 where
 keep l i p hb:=h'.keep l i p (h.keep l i p hb)
 fresh l i k s hb:=by
  rcases h'.fresh l i k s hb with hb | ⟨rfl,⟨i',s',hb⟩ | hk⟩
  ·exact h.fresh l i k s hb
  ·refine .inr ⟨rfl,?_⟩
   rcases h.fresh _ _ _ _ hb with hb | ⟨_,hb⟩
   ·exact .inl ⟨i',s',hb⟩
   ·exact hb
  ·exact .inr ⟨rfl,.inr (zbo h.size hk)⟩
 block k hk hn:=by
  refine (h'.block k (Nat.lt_of_lt_of_le hk h.size) fun i s hb=>?_).trans (h.block k hk hn)
  rcases h.fresh _ _ _ _ hb with hb | ⟨_,⟨i',s',hb⟩ | hs⟩
  ·exact hn _ _ hb
  ·exact hn _ _ hb
  ·omega
 size:=zbo h.size h'.size
 rows k c t f hc:=by
  obtain ⟨c1,h1,e1⟩:=h.rows k c t f hc
  obtain ⟨c2,h2,e2⟩:=h'.rows k c1 t f h1
  exact ⟨c2,h2,e2.trans e1⟩
 os:=h'.os.trans h.os
 tape:=h'.tape.trans h.tape
 output:=h'.output.trans h.output
theorem Fr.below {d:Nat} {β β':Pl} {W W':World} (h:Fr d β W β' W') (hn:∀ i p,β d i≠some p):Below W.heap.size W W' :=
 ⟨h.os,h.tape,h.output,h.size,fun k hk=>h.block k hk (fun i s=>hn i (k,s))⟩
def OR (β:Pl) (W:World) (k s:Nat):IObj->Prop
 | .free=>False
 | .gone=>True
 | .cells c=>∃ c' t,W.heap[k]?=some (.cells c' t (0,0))/\∀ (j:Nat) (x:IV),c[j]?=some x->∃ y,c'[j+s]?=some y/\VR β W x y
 | .map ks vs bs clock=>∃ es,W.heap[k]?=some (.map es clock)/\ks.length=es.size/\vs.length=es.size/\bs.length=es.size /\
   ∀ (j:Nat) (e:MapEntry),es[j]?=some e->(∀ x,ks[j]?=some x->VR β W x e.key)/\(∀ x,vs[j]?=some x->VR β W x e.val)/\(∀ x,bs[j]?=some x->e.born=x)
def IObj.live:IObj->Bool
 | .cells _=>true
 | .map ..=>true
 | _=>false
structure RS (β:Pl) (get:Nat->Nat->Option IObj) (W:World):Prop where
 obj:∀ l i k s o,β l i=some (k,s)->get l i=some o->OR β W k s o
 one:∀ l i l' i' k s s' o o',β l i=some (k,s)->β l' i'=some (k,s')->get l i=some o->get l' i'=some o'->o.live=true->o'.live=true->l=l'/\i=i'
 here:∀ l i k s,β l i=some (k,s)->k<W.heap.size
 has:∀ l i o,get l i=some o->o.live=true->∃ p,β l i=some p
 dom:∀ l i p,β l i=some p->∃ o,get l i=some o
end
section
inductive Opd where
 | tmp (t:Nat)
 | const (v:IV)
inductive IOp where
 | mov (x:Opd)
 | nilchk (x:Opd)
 | pick (c a b:Opd)
 | newv (cs:List IV) (slot:Nat)
 | box (x:Opd) (slot:Nat)
 | build (zero:List IV) (parts:List (Nat × Nat × Opd))
 | bslice (zero:List IV) (sz len:Nat) (parts:List (Nat × Nat × Opd))
 | mslice (zero:List IV) (sz len:Nat) (parts:List (Nat × Nat × Opd)) (slot:Nat)
 | load (agg:Bool) (n:Nat) (x:Opd)
 | store (n:Nat) (x v:Opd)
 | bin (op:BinOp) (x y:Opd)
 | eqagg (neg:Bool) (ks:List Nat) (x y:Opd)
 | eqb (neg:Bool) (x y:Opd)
 | eqp (neg:Bool) (x y:Opd)
 | eqs (neg:Bool) (x y:Opd)
 | un (op:UnOp) (x:Opd)
 | conv (k:IntKind) (x:Opd)
 | cstr (x:Opd)
 | mkfn (f:FuncId) (first cap:List Opd)
 | mkmap (slot:Nat)
 | slice (sz:Nat) (x:Opd) (lo hi mx:Option Opd)
 | sliceS (x:Opd) (lo hi:Option Opd)
 | faddr (off:Nat) (x:Opd)
 | field (agg:Bool) (off n:Nat) (x:Opd)
 | iaddr (sz:Nat) (x ix:Opd)
 | iaddrA (sz len:Nat) (x ix:Opd)
 | index (agg:Bool) (sz len:Nat) (x ix:Opd)
 | indexS (x ix:Opd)
 | lookup (zero:IV) (kt:Bool × List Nat) (ok:Bool) (x ix:Opd)
 | mapupd (kt:Bool × List Nat) (m k v:Opd)
 | extract (x:Opd) (i:Nat)
 | call (f:Opd) (args:List Opd) (slot:Nat)
 | append (zero:List IV) (sz:Nat) (zeros:Bool) (s x:Opd) (slot:Nat)
 | len (k:Nat) (x:Opd)
 | mx (isMax:Bool) (x y:Opd)
 | cap (x:Opd)
 | clr (zero:List IV) (sz:Nat) (x:Opd)
 | cpy (sz:Nat) (x y:Opd)
 | mks (zero:List IV) (sz:Nat) (n m:Opd) (slot:Nat)
 | fail
inductive Eff where
 | p
 | r
 | rl (l i o n:Nat)
 | a
 | w (l i o n:Nat)
 | k (i s:Nat)
 | x
structure IOpR where
 dst:Option Nat
 op:IOp
 guard:Option (Nat × Bool)
 vis:List Nat
inductive IC where
 | skip
 | ret
 | exit (id:Nat)
 | seq (a b:IC)
 | cond (c:Opd) (a b:IC)
 | block (id:Nat) (a:IC)
 | loop (a:IC)
 | region (drawn:Bool) (slots:Nat) (ops:List IOpR) (free:List (Nat × Nat))
inductive IRes where
 | tmp (t:Nat)
 | cell (agg:Bool) (n t:Nat)
structure IFn where
 ntmps:Nat
 res:List IRes
 body:IC
 mode:Nat
structure St where
 t:List IV
 own:List IObj
inductive Out where
 | normal
 | exit (id:Nat)
 | ret
abbrev Res:Type:=Option (Eff × IV × List IObj)
abbrev Call:Type:=Nat->(Nat->List IObj)->List IObj->List IObj->Nat->FuncId->List IV->Res
def IV.cells:IV->List IV
 | .agg cs=>cs
 | v=>[v]
def IV.scalar:IV->Bool
 | .agg _=>false
 | .tuple _=>false
 | _=>true
noncomputable def litK {α β:Type} (l:List α):(List α->β)->β:=List.rec (motive:=fun _=>(List α->β)->β) (fun k=>k []) (fun x _ ih k=>ih fun ys=>k (x::ys)) l
noncomputable def lit {α:Type} (l:List α):List α:=litK l fun ys=>ys
theorem litK_eq {α β:Type}:∀ (l:List α) (k:List α->β),litK l k=k l
 | [],_=>rfl
 | x::xs,k=>litK_eq xs fun ys=>k (x::ys)
theorem zf {α:Type} (l:List α):lit l=l:=litK_eq l _
noncomputable def putK {α β:Type} (l:List α):Nat->α->(List α->β)->β :=
 List.rec (motive:=fun _=>Nat->α->(List α->β)->β) (fun _ _ k=>k []) (fun x xs ih i v k=>Nat.rec (motive:=fun _=>β) (k (v::xs)) (fun i _=>ih i v fun ys=>k (x::ys)) i) l
theorem putK_eq {α β:Type}:∀ (l:List α) (i:Nat) (v:α) (k:List α->β),putK l i v k=k (l.set i v)
 | [],_,_,_=>rfl
 | _::_,0,_,_=>rfl
 | x::xs,i+1,v,k=>putK_eq xs i v fun ys=>k (x::ys)
noncomputable def getK {α:Type} (z:α) (l:List α):Nat->α :=
 List.rec (motive:=fun _=>Nat->α) (fun _=>z) (fun x _ ih i=>Nat.rec (motive:=fun _=>α) x (fun i _=>ih i) i) l
theorem zR {α:Type} (z:α):∀ (l:List α) (i:Nat),getK z l i=l.getD i z
 | [],_=>rfl
 | _::_,0=>rfl
 | _::xs,i+1=>(zR z xs i).trans (by simp)
noncomputable def look (d:Nat) (out:Nat->List IObj) (own:List IObj) (l i:Nat):Option IObj:=if l=d then own[i]? else if l<d then (out l)[i]? else none
noncomputable def rdN (c:List IV) (off:Nat):Nat->Option (List IV)
 | 0=>some []
 | n+1=>match c[off]? with
  | some x=>(rdN c (off+1) n).map (x::·)
  | none=>none
noncomputable def mkv (agg:Bool) (xs:List IV):Option IV:=if agg then some (.agg xs) else match xs with | [x]=>some x | _=>none
noncomputable def wrN (c:List IV) (off:Nat):List IV->List IV
 | []=>c
 | v::vs=>wrN (c.set off v) (off+1) vs
noncomputable def seg (c:List IV) (off n:Nat):Option (List IV):=if off+n<=c.length then some (lit ((c.drop off).take n)) else none
def bs (l:List Nat):ByteArray:=⟨(l.map UInt8.ofNat).toArray⟩
noncomputable def rep (zero:List IV):Nat->List IV
 | 0=>[]
 | n+1=>zero++rep zero n
noncomputable def ρ (t:List IV):Opd->IV
 | .tmp i=>getK (.tuple []) t i
 | .const v=>v
noncomputable def put (t:List IV) (dst:Option Nat) (v:IV):List IV:=match dst with | some i=>putK t i v fun ys=>ys | none=>t
theorem zK (t:List IV) (i:Nat) (v:IV):put t (some i) v=t.set i v:=putK_eq t i v _
theorem put_none (t:List IV) (v:IV):put t none v=t:=rfl
theorem ρ_tmp (t:List IV) (i:Nat):ρ t (.tmp i)=t.getD i (.tuple []):=zR _ t i
theorem ρ_const (t:List IV) (v:IV):ρ t (.const v)=v:=rfl
noncomputable def fillI (t:List IV) (c:List IV):List (Nat × Nat × Opd)->Option (List IV)
 | []=>some c
 | (off,n,x)::rest=>if (ρ t x).cells.length=n/\off+n<=c.length then fillI t (lit (wrN c off (ρ t x).cells)) rest else none
noncomputable def wrapI (k:IntKind) (n:Int):Int:=match k,n with
 | .i64,.ofNat m=>bif Nat.blt m 9223372036854775808 then .ofNat m else IntKind.wrap .i64 (.ofNat m)
 | .i64,.negSucc m=>bif Nat.blt m 9223372036854775808 then .negSucc m else IntKind.wrap .i64 (.negSucc m)
 | k,n=>k.wrap n
theorem i64_nat (m:Nat) (h:Nat.blt m 9223372036854775808=true):IntKind.i64.wrap (Int.ofNat m)=Int.ofNat m :=
 IntWalk.i64_in _ (by have:=Nat.blt_eq ▸ h; constructor <;> simp only [Int.ofNat_eq_natCast] <;> omega)
theorem i64_neg (m:Nat) (h:Nat.blt m 9223372036854775808=true):IntKind.i64.wrap (Int.negSucc m)=Int.negSucc m :=
 IntWalk.i64_in _ (by have:=Nat.blt_eq ▸ h; constructor <;> rw [Int.negSucc_eq] <;> omega)
theorem zE (k:IntKind) (n:Int):wrapI k n=k.wrap n:=by
 cases k
 case i64 =>
  cases n with
  | ofNat m =>
   show (bif Nat.blt m 9223372036854775808 then Int.ofNat m else _)=_
   rcases Bool.eq_false_or_eq_true (Nat.blt m 9223372036854775808) with h | h
   ·rw [h,cond_true,i64_nat m h]
   ·rw [h,cond_false]
  | negSucc m =>
   show (bif Nat.blt m 9223372036854775808 then Int.negSucc m else _)=_
   rcases Bool.eq_false_or_eq_true (Nat.blt m 9223372036854775808) with h | h
   ·rw [h,cond_true,i64_neg m h]
   ·rw [h,cond_false]
 all_goals rfl
noncomputable def intBin (op:BinOp) (k:IntKind) (a b:Int):Option IV :=
 match op with
 | .add=>some (.int k (wrapI k (a+b)))
 | .sub=>some (.int k (wrapI k (a - b)))
 | .mul=>some (.int k (wrapI k (a*b)))
 | .quo=>if b=0 then none else some (.int k (wrapI k (a.tdiv b)))
 | .rem=>if b=0 then none else some (.int k (a.tmod b))
 | .and=>some (.int k (k.wrap (BitVec.ofInt k.bits a &&& BitVec.ofInt k.bits b).toNat))
 | .or=>some (.int k (k.wrap (BitVec.ofInt k.bits a ||| BitVec.ofInt k.bits b).toNat))
 | .xor=>some (.int k (k.wrap (BitVec.ofInt k.bits a ^^^ BitVec.ofInt k.bits b).toNat))
 | .eql=>some (.bool (a==b))
 | .neq=>some (.bool (a != b))
 | .lss=>some (.bool (decide (a<b)))
 | .leq=>some (.bool (decide (a<=b)))
 | .gtr=>some (.bool (decide (a > b)))
 | .geq=>some (.bool (decide (a≥b)))
 | _=>none
noncomputable def strBin (op:BinOp) (x y:ByteArray):Option IV :=
 match op with
 | .eql=>some (.bool (x.toList==y.toList))
 | .neq=>some (.bool (!(x.toList==y.toList)))
 | .lss=>some (.bool (Op.bytesLess x.toList y.toList))
 | .leq=>some (.bool (Op.bytesLess x.toList y.toList||x.toList==y.toList))
 | .gtr=>some (.bool (!(Op.bytesLess x.toList y.toList||x.toList==y.toList)))
 | .geq=>some (.bool (!(Op.bytesLess x.toList y.toList)))
 | _=>none
noncomputable def shiftI (op:BinOp) (k:IntKind) (a b:Int):Option IV :=
 if b<0 then none else
 match op with
 | .shl=>some (.int k (wrapI k (a*2 ^ (min b.toNat k.bits))))
 | .shr=>some (.int k (a.fdiv (2 ^ (min b.toNat k.bits))))
 | _=>none
noncomputable def isShift:BinOp->Bool
 | .shl=>true
 | .shr=>true
 | _=>false
noncomputable def binI (op:BinOp) (x y:IV):Option IV :=
 match x,y with
 | .int k a,.int k' b=>if isShift op then shiftI op k a b else if k=k' then intBin op k a b else none
 | .str a,.str b=>strBin op a b
 | _,_=>none
noncomputable def eqbI (x y:IV):Option Bool :=
 match x,y with
 | .bool a,.bool b=>some (a==b)
 | _,_=>none
noncomputable def eqpI (x y:IV):Option Bool :=
 match x,y with
 | .nilptr,.nilptr=>some true
 | .nilptr,.ptrM ..=>some false
 | .nilptr,.ptrC ..=>some false
 | .ptrM ..,.nilptr=>some false
 | .ptrC ..,.nilptr=>some false
 | _,_=>none
noncomputable def eqsI (x y:IV):Option Bool :=
 match x,y with
 | .nilsl,.nilsl=>some true
 | .nilsl,.slM ..=>some false
 | .nilsl,.slC ..=>some false
 | .slM ..,.nilsl=>some false
 | .slC ..,.nilsl=>some false
 | _,_=>none
noncomputable def eqv (k:Nat) (x y:IV):Option Bool :=
 match x,y with
 | .int a m,.int b n=>if k=1/\a=b then some (m==n) else none
 | .str m,.str n=>if k=2 then some (m.toList==n.toList) else none
 | .bool m,.bool n=>if k=0 then some (m==n) else none
 | _,_=>none
noncomputable def eqvs:List Nat->List IV->List IV->Option Bool
 | [],[],[]=>some true
 | k::ks,x::xs,y::ys=>match eqv k x y with
  | some true=>eqvs ks xs ys
  | some false=>match eqvs ks xs ys with | some _=>some false | none=>none
  | none=>none
 | _,_,_=>none
noncomputable def kindB (ag:Bool) (v:IV):Bool:=if ag then (match v with | .agg _=>true | _=>false) else v.scalar
noncomputable def eqk (kt:Bool × List Nat) (x y:IV):Option Bool:=if kindB kt.1 x&&kindB kt.1 y then eqvs kt.2 x.cells y.cells else none
noncomputable def unI (op:UnOp) (x:IV):Option IV :=
 match op,x with
 | .neg,.int k n=>some (.int k (wrapI k (0 - n)))
 | .not,.bool b=>some (.bool (!b))
 | _,_=>none
noncomputable def natI:IV->Option Nat
 | .int _ n=>if 0<=n then some n.toNat else none
 | _=>none
noncomputable def optI (t:List IV) (dflt:Nat):Option Opd->Option Nat
 | none=>some dflt
 | some x=>natI (ρ t x)
noncomputable def sliceI (sz:Nat) (t:List IV) (v:IV) (lo hi mx:Option Opd):Option IV :=
 match v with
 | .nilsl=>match optI t 0 lo,optI t 0 hi,optI t 0 mx with
  | some l,some h,some m=>if m<=0/\h<=m/\l<=h then some .nilsl else none
  | _,_,_=>none
 | .slM lv i off len cap sz0 tight=>match optI t 0 lo,optI t len hi,optI t cap mx with
  | some l,some h,some m=>if (m<=cap/\h<=m/\l<=h)/\sz0=sz then some (.slM lv i (off+l*sz) (h - l) (m - l) sz (mx.isSome||tight)) else none
  | _,_,_=>none
 | .slC cs len sz0 tight=>match optI t 0 lo,optI t len hi,optI t len mx with
  | some l,some h,some m=>if (m<=len/\h<=m/\l<=h)/\sz0=sz then some (.slC (lit ((cs.drop (l*sz)).take ((h - l)*sz))) (h - l) sz (if mx.isSome then m==h else tight&&h==len)) else none
  | _,_,_=>none
 | _=>none
noncomputable def sliceStr (t:List IV) (v:IV) (lo hi:Option Opd):Option IV :=
 match v with
 | .str s=>match optI t 0 lo,optI t s.size hi with
  | some l,some h=>if h<=s.size/\l<=h then some (.str (s.extract l h)) else none
  | _,_=>none
 | _=>none
noncomputable def findIx (kt:Bool × List Nat) (key:IV):List IV->Nat->Option (Option Nat)
 | [],_=>some none
 | k::ks,i=>match eqk kt key k with
  | some true=>some (some i)
  | some false=>findIx kt key ks (i+1)
  | none=>none
noncomputable def findK (kt:Bool × List Nat) (key:IV) (ks vs:List IV):Option (Option IV) :=
 if kindB kt.1 key&&key.cells.length==kt.2.length then
  match findIx kt key ks 0 with
  | some (some j)=>(vs[j]?).map some
  | some none=>some none
  | none=>none
 else none
noncomputable def cellsI (lk:Nat->Nat->Option IObj) (sz:Nat):IV->Option (List IV × Nat)
 | .nilsl=>some ([],0)
 | .slC cs len _ _=>(seg cs 0 (len*sz)).map (·,len)
 | .slM l i off len _ _ _=>match lk l i with
  | some (.cells c)=>(seg c off (len*sz)).map (·,len)
  | _=>none
 | _=>none
noncomputable def bound:Nat:=2 ^ 30
noncomputable def mkAt (own:List IObj) (id:Nat) (o:IObj) (v:IV):Res :=
 match own[id]? with
 | some .free=>some (.a,v,lit (own.set id o))
 | _=>none
noncomputable def killAt (own:List IObj) (i id:Nat) (o:IObj) (v:IV):Res :=
 match own[id]? with
 | some .free=>some (.k i id,v,lit ((own.set i .gone).set id o))
 | _=>none
noncomputable def appendI (d n0:Nat) (lk:Nat->Nat->Option IObj) (own:List IObj) (sz:Nat) (s:IV) (new:List IV) (n slot:Nat):Res :=
 if n=0 then (match s with
  | .nilsl=>some (.r,.nilsl,own)
  | .slC cs len sz0 tight=>some (.r,.slC cs len sz0 tight,own)
  | .slM l i off len cap sz0 tight=>some (.r,.slM l i off len cap sz0 tight,own)
  | _=>none) else
 match s with
 | .nilsl=>if n<=bound then mkAt own (n0+slot) (.cells new) (.slM d (n0+slot) 0 n n sz false) else none
 | .slC cs len _ tight=>if len+n<=bound/\tight=true then
   match seg cs 0 (len*sz) with
   | some old=>mkAt own (n0+slot) (.cells (lit (old++new))) (.slM d (n0+slot) 0 (len+n) (len+n) sz false)
   | none=>none
  else none
 | .slM l i off len cap sz0 tight=>if len+n<=bound/\sz0=sz then
   match lk l i with
   | some (.cells c) =>
    if len+n<=cap then
     if l=d/\off+(len+n)*sz<=c.length/\new.all IV.scalar=true then some (.x,.slM l i off (len+n) cap sz tight,lit (own.set i (.cells (lit (wrN c (off+len*sz) new))))) else none
    else match seg c off (len*sz) with
     | some old=>if tight then mkAt own (n0+slot) (.cells (lit (old++new))) (.slM d (n0+slot) 0 (len+n) (len+n) sz false)
       else if l=d/\new.all IV.scalar=true then killAt own i (n0+slot) (.cells (lit (old++new))) (.slM d (n0+slot) 0 (len+n) (len+n) sz false) else none
     | none=>none
   | _=>none
  else none
 | _=>none
noncomputable def e_nilchk (own:List IObj) (t:List IV) (x:Opd):Res :=
 match ρ t x with
  | .ptrM l i o=>some (.p,.ptrM l i o,own)
  | .ptrC cs o=>some (.p,.ptrC cs o,own)
  | .fn f a b=>some (.p,.fn f a b,own)
  | _=>none
noncomputable def e_pick (own:List IObj) (t:List IV) (c:Opd) (a:Opd) (b:Opd):Res :=
 match ρ t c with
  | .bool true=>some (.p,ρ t a,own)
  | .bool false=>some (.p,ρ t b,own)
  | _=>none
noncomputable def e_newv (d:Nat) (n0:Nat) (own:List IObj) (cs:List IV) (slot:Nat):Res :=
 mkAt own (n0+slot) (.cells cs) (.ptrM d (n0+slot) 0)
noncomputable def e_box (d:Nat) (n0:Nat) (own:List IObj) (t:List IV) (x:Opd) (slot:Nat):Res :=
 if (ρ t x).cells.all IV.scalar then mkAt own (n0+slot) (.cells (ρ t x).cells) (.ptrM d (n0+slot) 0) else none
noncomputable def e_bslice (own:List IObj) (t:List IV) (zero:List IV) (sz:Nat) (len:Nat) (parts:List (Nat × Nat × Opd)):Res :=
 (fillI t (rep zero len) parts).map fun c=>(.p,.slC c len sz true,own)
noncomputable def e_mslice (d:Nat) (n0:Nat) (own:List IObj) (t:List IV) (zero:List IV) (sz:Nat) (len:Nat) (parts:List (Nat × Nat × Opd)) (slot:Nat):Res :=
 match fillI t (rep zero len) parts with
  | some c=>if c.all IV.scalar then mkAt own (n0+slot) (.cells c) (.slM d (n0+slot) 0 len len sz false) else none
  | none=>none
noncomputable def e_load (d:Nat) (out:Nat->List IObj) (ownV:List IObj) (own:List IObj) (t:List IV) (agg:Bool) (n:Nat) (x:Opd):Res :=
 match ρ t x with
  | .ptrM l i off=>match look d out ownV l i with
   | some (.cells c)=>((rdN c off n).bind (mkv agg)).map fun v=>(.rl l i off n,v,own)
   | _=>none
  | .ptrC cs off=>((rdN cs off n).bind (mkv agg)).map fun v=>(.p,v,own)
  | _=>none
noncomputable def e_store (d:Nat) (own:List IObj) (t:List IV) (n:Nat) (x:Opd) (v:Opd):Res :=
 match ρ t x with
  | .ptrM l i off=>match own[i]? with
   | some (.cells c)=>if l=d/\(ρ t v).cells.length=n/\off+n<=c.length/\(ρ t v).cells.all IV.scalar then some (.w l i off n,.tuple [],lit (own.set i (.cells (lit (wrN c off (ρ t v).cells))))) else none
   | _=>none
  | _=>none
noncomputable def e_eqagg (own:List IObj) (t:List IV) (neg:Bool) (ks:List Nat) (x:Opd) (y:Opd):Res :=
 match ρ t x,ρ t y with
  | .agg a,.agg b=>(eqvs ks a b).map fun v=>(.p,.bool (neg != v),own)
  | _,_=>none
noncomputable def e_eqb (own:List IObj) (t:List IV) (neg:Bool) (x:Opd) (y:Opd):Res :=
 (eqbI (ρ t x) (ρ t y)).map fun v=>(.p,.bool (neg != v),own)
noncomputable def e_eqp (own:List IObj) (t:List IV) (neg:Bool) (x:Opd) (y:Opd):Res :=
 (eqpI (ρ t x) (ρ t y)).map fun v=>(.p,.bool (neg != v),own)
noncomputable def e_eqs (own:List IObj) (t:List IV) (neg:Bool) (x:Opd) (y:Opd):Res :=
 (eqsI (ρ t x) (ρ t y)).map fun v=>(.p,.bool (neg != v),own)
noncomputable def e_cstr (own:List IObj) (t:List IV) (x:Opd):Res :=
 match ρ t x with
  | .str s=>some (.p,.str s,own)
  | _=>none
noncomputable def e_conv (own:List IObj) (t:List IV) (k:IntKind) (x:Opd):Res :=
 match ρ t x with
  | .int _ n=>some (.p,.int k (wrapI k n),own)
  | _=>none
noncomputable def e_mkmap (d:Nat) (n0:Nat) (own:List IObj) (slot:Nat):Res :=
 mkAt own (n0+slot) (.map [] [] [] 0) (.mapM d (n0+slot))
noncomputable def e_faddr (own:List IObj) (t:List IV) (off:Nat) (x:Opd):Res :=
 match ρ t x with
  | .ptrM l i o=>some (.p,.ptrM l i (o+off),own)
  | .ptrC cs o=>some (.p,.ptrC cs (o+off),own)
  | _=>none
noncomputable def e_field (own:List IObj) (t:List IV) (agg:Bool) (off:Nat) (n:Nat) (x:Opd):Res :=
 match ρ t x with
  | .agg cs=>((rdN cs off n).bind (mkv agg)).map fun v=>(.p,v,own)
  | _=>none
noncomputable def e_iaddr (own:List IObj) (t:List IV) (sz:Nat) (x:Opd) (ix:Opd):Res :=
 match ρ t x,natI (ρ t ix) with
  | .slM l i off len _ _ _,some j=>if j<len then some (.p,.ptrM l i (off+j*sz),own) else none
  | .slC cs len _ _,some j=>if j<len then some (.p,.ptrC cs (j*sz),own) else none
  | _,_=>none
noncomputable def e_iaddrA (own:List IObj) (t:List IV) (sz:Nat) (len:Nat) (x:Opd) (ix:Opd):Res :=
 match ρ t x,natI (ρ t ix) with
  | .ptrM l i off,some j=>if j<len then some (.p,.ptrM l i (off+j*sz),own) else none
  | .ptrC cs off,some j=>if j<len then some (.p,.ptrC cs (off+j*sz),own) else none
  | _,_=>none
noncomputable def e_index (own:List IObj) (t:List IV) (agg:Bool) (sz:Nat) (len:Nat) (x:Opd) (ix:Opd):Res :=
 match ρ t x,natI (ρ t ix) with
  | .agg cs,some j=>if j<len then ((rdN cs (j*sz) sz).bind (mkv agg)).map fun v=>(.p,v,own) else none
  | _,_=>none
noncomputable def e_indexS (own:List IObj) (t:List IV) (x:Opd) (ix:Opd):Res :=
 match ρ t x,natI (ρ t ix) with
  | .str s,some j=>match s[j]? with
   | some b=>some (.p,.int .u8 b.toNat,own)
   | none=>none
  | _,_=>none
noncomputable def e_lookup (d:Nat) (out:Nat->List IObj) (ownV:List IObj) (own:List IObj) (t:List IV) (zero:IV) (kt:Bool × List Nat) (ok:Bool) (x:Opd) (ix:Opd):Res :=
 let r:Option (Eff × Option IV):=match ρ t x with
   | .nilmap=>(findK kt (ρ t ix) [] []).map (Eff.p,·)
   | .mapC ks vs=>(findK kt (ρ t ix) ks vs).map (Eff.p,·)
   | .mapM l i=>match look d out ownV l i with
    | some (.map ks vs _ _)=>(findK kt (ρ t ix) ks vs).map (Eff.r,·)
    | _=>none
   | _=>none
  r.map fun (e,v)=>(e,if ok then .tuple [v.getD zero,.bool v.isSome] else v.getD zero,own)
noncomputable def e_mapupd (d:Nat) (own:List IObj) (t:List IV) (kt:Bool × List Nat) (m:Opd) (k:Opd) (v:Opd):Res :=
 match ρ t m with
  | .mapM l i=>match own[i]? with
   | some (.map ks vs bs clock)=>if l=d/\(kindB kt.1 (ρ t k)&&(ρ t k).cells.length==kt.2.length)=true then
     match findIx kt (ρ t k) ks 0 with
     | some (some j)=>some (.x,.tuple [],lit (own.set i (.map ks (lit (vs.set j (ρ t v))) bs clock)))
     | some none=>some (.x,.tuple [],lit (own.set i (.map (lit (ks++[ρ t k])) (lit (vs++[ρ t v])) (lit (bs++[clock])) (clock+1))))
     | none=>none
    else none
   | _=>none
  | _=>none
noncomputable def e_extract (own:List IObj) (t:List IV) (x:Opd) (i:Nat):Res :=
 match ρ t x with
  | .tuple vs=>(vs[i]?).map fun v=>(.p,v,own)
  | _=>none
noncomputable def e_call (C:Call) (d:Nat) (out:Nat->List IObj) (n0:Nat) (ownV:List IObj) (own:List IObj) (t:List IV) (f:Opd) (args:List Opd) (slot:Nat):Res :=
 match ρ t f with
  | .fn g first cap=>C d out ownV own (n0+slot) g (first++args.map (ρ t)++cap)
  | _=>none
noncomputable def e_append (d:Nat) (out:Nat->List IObj) (n0:Nat) (ownV:List IObj) (own:List IObj) (t:List IV) (zero:List IV) (sz:Nat) (zeros:Bool) (s:Opd) (x:Opd) (slot:Nat):Res :=
 match (if zeros then (natI (ρ t x)).bind fun n=>if n<=bound then some (rep zero n,n) else none else cellsI (look d out ownV) sz (ρ t x)) with
  | some (new,n)=>appendI d n0 (look d out ownV) own sz (ρ t s) new n slot
  | none=>none
noncomputable def e_len (d:Nat) (out:Nat->List IObj) (ownV:List IObj) (own:List IObj) (t:List IV) (k:Nat) (x:Opd):Res :=
 match ρ t x with
  | .nilsl=>if k=1 then some (.p,.int .i64 0,own) else none
  | .slM _ _ _ n _ _ _=>if k=1 then some (.p,.int .i64 n,own) else none
  | .slC _ n _ _=>if k=1 then some (.p,.int .i64 n,own) else none
  | .str s=>if k=0 then some (.p,.int .i64 s.size,own) else none
  | .nilmap=>if k=2 then some (.p,.int .i64 0,own) else none
  | .mapC ks _=>if k=2 then some (.p,.int .i64 ks.length,own) else none
  | .mapM l i=>if k=2 then match look d out ownV l i with
   | some (.map ks _ _ _)=>some (.r,.int .i64 ks.length,own)
   | _=>none
   else none
  | _=>none
noncomputable def e_mx (own:List IObj) (t:List IV) (isMax:Bool) (x:Opd) (y:Opd):Res :=
 match ρ t x,ρ t y with
  | .int k a,.int _ b=>some (.p,.int k (if isMax then (if b > a then b else a) else (if b<a then b else a)),own)
  | _,_=>none
noncomputable def e_cap (own:List IObj) (t:List IV) (x:Opd):Res :=
 match ρ t x with
  | .nilsl=>some (.p,.int .i64 0,own)
  | .slM _ _ _ _ c _ true=>some (.p,.int .i64 c,own)
  | _=>none
noncomputable def fillAt (d:Nat) (own:List IObj) (l i off:Nat) (xs:List IV) (v:IV):Res :=
 match own[i]? with
 | some (.cells c)=>if l=d/\off+xs.length<=c.length/\xs.all IV.scalar=true then some (.x,v,lit (own.set i (.cells (lit (wrN c off xs))))) else none
 | _=>none
noncomputable def e_clr (d:Nat) (own:List IObj) (t:List IV) (zero:List IV) (sz:Nat) (x:Opd):Res :=
 match ρ t x with
  | .nilsl=>some (.x,.tuple [],own)
  | .slM l i off len _ sz0 _=>if len=0 then some (.x,.tuple [],own) else if sz0=sz then fillAt d own l i off (rep zero len) (.tuple []) else none
  | _=>none
noncomputable def e_cpy (d:Nat) (out:Nat->List IObj) (ownV:List IObj) (own:List IObj) (t:List IV) (sz:Nat) (x:Opd) (y:Opd):Res :=
 match ρ t x,cellsI (look d out ownV) sz (ρ t y) with
  | .slM l i off len _ sz0 _,some (xs,n)=>if sz0=sz/\n=len then if n=0 then some (.x,.int .i64 0,own) else fillAt d own l i off xs (.int .i64 n) else none
  | _,_=>none
noncomputable def e_mks (d:Nat) (n0:Nat) (own:List IObj) (t:List IV) (zero:List IV) (sz:Nat) (n m:Opd) (slot:Nat):Res :=
 match natI (ρ t n),natI (ρ t m) with
  | some a,some b=>if a=b/\a<=bound then mkAt own (n0+slot) (.cells (lit (rep zero a))) (.slM d (n0+slot) 0 a a sz false) else none
  | _,_=>none
noncomputable def evOp (C:Call) (d:Nat) (out:Nat->List IObj) (n0:Nat) (ownV own:List IObj) (t:List IV):IOp->Res
 | .mov x=>some (.p,ρ t x,own)
 | .nilchk x=>e_nilchk own t x
 | .pick c a b=>e_pick own t c a b
 | .newv cs slot=>e_newv d n0 own cs slot
 | .box x slot=>e_box d n0 own t x slot
 | .build zero parts=>(fillI t zero parts).map fun c=>(.p,.agg c,own)
 | .bslice zero sz len parts=>e_bslice own t zero sz len parts
 | .mslice zero sz len parts slot=>e_mslice d n0 own t zero sz len parts slot
 | .load agg n x=>e_load d out ownV own t agg n x
 | .store n x v=>e_store d own t n x v
 | .bin op x y=>(binI op (ρ t x) (ρ t y)).map fun v=>(.p,v,own)
 | .eqagg neg ks x y=>e_eqagg own t neg ks x y
 | .eqb neg x y=>e_eqb own t neg x y
 | .eqp neg x y=>e_eqp own t neg x y
 | .eqs neg x y=>e_eqs own t neg x y
 | .un op x=>(unI op (ρ t x)).map fun v=>(.p,v,own)
 | .conv k x=>e_conv own t k x
 | .cstr x=>e_cstr own t x
 | .mkfn f first cap=>some (.p,.fn f (first.map (ρ t)) (cap.map (ρ t)),own)
 | .mkmap slot=>e_mkmap d n0 own slot
 | .slice sz x lo hi mx=>(sliceI sz t (ρ t x) lo hi mx).map fun v=>(.p,v,own)
 | .sliceS x lo hi=>(sliceStr t (ρ t x) lo hi).map fun v=>(.p,v,own)
 | .faddr off x=>e_faddr own t off x
 | .field agg off n x=>e_field own t agg off n x
 | .iaddr sz x ix=>e_iaddr own t sz x ix
 | .iaddrA sz len x ix=>e_iaddrA own t sz len x ix
 | .index agg sz len x ix=>e_index own t agg sz len x ix
 | .indexS x ix=>e_indexS own t x ix
 | .lookup zero kt ok x ix=>e_lookup d out ownV own t zero kt ok x ix
 | .mapupd kt m k v=>e_mapupd d own t kt m k v
 | .extract x i=>e_extract own t x i
 | .call f args slot=>e_call C d out n0 ownV own t f args slot
 | .append zero sz zeros s x slot=>e_append d out n0 ownV own t zero sz zeros s x slot
 | .len k x=>e_len d out ownV own t k x
 | .mx isMax x y=>e_mx own t isMax x y
 | .cap x=>e_cap own t x
 | .clr zero sz x=>e_clr d own t zero sz x
 | .cpy sz x y=>e_cpy d out ownV own t sz x y
 | .mks zero sz n m slot=>e_mks d n0 own t zero sz n m slot
 | .fail=>none
noncomputable def hide (vis:List Nat) (n0:Nat) (own:List IObj):List IObj:=lit (own.mapIdx fun i o=>if i<n0||vis.contains (i - n0) then o else .gone)
noncomputable def wantedI (t:List IV):Option (Nat × Bool)->Bool
 | none=>true
 | some (j,b)=>match t[j]? with
  | some (.bool c)=>c==b
  | _=>false
noncomputable def stepR (C:Call) (d:Nat) (out:Nat->List IObj) (drawn:Bool) (n0:Nat) (o:IOpR) (st:St):Option (Eff × St) :=
 if wantedI st.t o.guard then
  match evOp C d out n0 (if drawn then hide o.vis n0 st.own else st.own) st.own st.t o.op with
  | some (e,v,own)=>some (e,⟨put st.t o.dst v,own⟩)
  | none=>none
 else some (.p,⟨put st.t o.dst (.tuple []),st.own⟩)
noncomputable def runR (C:Call) (d:Nat) (out:Nat->List IObj) (drawn:Bool) (n0:Nat):List IOpR->St->Option (List Eff × St)
 | [],st=>some ([],st)
 | o::rest,st=>match stepR C d out drawn n0 o st with
  | some (e,st1)=>match runR C d out drawn n0 rest st1 with
   | some (es,st2)=>some (e::es,st2)
   | none=>none
  | none=>none
noncomputable def comm:Eff->Eff->Bool
 | .p,_=>true
 | _,.p=>true
 | .r,.r=>true
 | .r,.rl ..=>true
 | .r,.a=>true
 | .rl ..,.r=>true
 | .rl ..,.rl ..=>true
 | .rl ..,.a=>true
 | .a,.r=>true
 | .a,.rl ..=>true
 | .a,.a=>true
 | .rl l i o n,.w l' i' o' n'=>!(l==l'&&i==i')||o+n<=o'||o'+n'<=o
 | .w l i o n,.rl l' i' o' n'=>!(l==l'&&i==i')||o+n<=o'||o'+n'<=o
 | .rl _ i _ _,.k i' _=>!(i==i')
 | .k i' _,.rl _ i _ _=>!(i==i')
 | _,_=>false
noncomputable def iter (f:St->Option (Out × St)):Nat->St->Option (Out × St)
 | 0,_=>none
 | n+1,st=>match f st with
  | some (.normal,st1)=>iter f n st1
  | r=>r
noncomputable def seqX (x:Option (Out × St)) (g:St->Option (Out × St)):Option (Out × St) :=
 match x with
 | some (.normal,st1)=>g st1
 | r=>r
noncomputable def condX (v:IV) (x y:Option (Out × St)):Option (Out × St) :=
 match v with
 | .bool true=>x
 | .bool false=>y
 | _=>none
noncomputable def blockX (id:Nat) (x:Option (Out × St)):Option (Out × St) :=
 match x with
 | some (.exit j,st1)=>if j=id then some (.normal,st1) else some (.exit j,st1)
 | r=>r
noncomputable def regionX (C:Call) (d:Nat) (out:Nat->List IObj) (drawn:Bool) (slots:Nat) (ops:List IOpR) (free:List (Nat × Nat)) (st:St):Option (Out × St) :=
 match runR C d out drawn st.own.length ops ⟨st.t,lit (st.own++List.replicate slots .free)⟩ with
 | some (es,st1)=>if !drawn||free.all (fun (j,i)=>comm (es.getD j .x) (es.getD i .x)) then some (.normal,st1) else none
 | none=>none
noncomputable def exec (C:Call) (d:Nat) (out:Nat->List IObj) (n:Nat):IC->St->Option (Out × St)
 | .skip,st=>some (.normal,st)
 | .ret,st=>some (.ret,st)
 | .exit id,st=>some (.exit id,st)
 | .seq a b,st=>seqX (exec C d out n a st) (exec C d out n b)
 | .cond c a b,st=>condX (ρ st.t c) (exec C d out n a st) (exec C d out n b st)
 | .block id a,st=>blockX id (exec C d out n a st)
 | .loop a,st=>iter (exec C d out n a) n st
 | .region drawn slots ops free,st=>regionX C d out drawn slots ops free st
noncomputable def freeze:Nat->Nat->List IObj->IV->Option IV
 | 0,_,_,_=>none
 | n+1,lv,own,v=>match v with
  | .ptrM l i off=>if l=lv then match own[i]? with
    | some (.cells c)=>(c.mapM (freeze n lv own)).map (.ptrC · off)
    | _=>none
   else some v
  | .slM l i off len cap sz tight=>if l=lv then match own[i]? with
    | some (.cells c)=>((seg c off (len*sz)).bind fun s=>s.mapM (freeze n lv own)).map (.slC · len sz (tight&&cap==len))
    | _=>none
   else some v
  | .mapM l i=>if l=lv then match own[i]? with
    | some (.map ks vs _ _)=>match ks.mapM (freeze n lv own),vs.mapM (freeze n lv own) with
     | some a,some b=>some (.mapC a b)
     | _,_=>none
    | _=>none
   else some v
  | .ptrC cs off=>(cs.mapM (freeze n lv own)).map (.ptrC · off)
  | .slC cs len sz tight=>(cs.mapM (freeze n lv own)).map (.slC · len sz tight)
  | .mapC ks vs=>match ks.mapM (freeze n lv own),vs.mapM (freeze n lv own) with
   | some a,some b=>some (.mapC a b)
   | _,_=>none
  | .agg cs=>(cs.mapM (freeze n lv own)).map .agg
  | .tuple cs=>(cs.mapM (freeze n lv own)).map .tuple
  | .fn f a b=>match a.mapM (freeze n lv own),b.mapM (freeze n lv own) with
   | some a,some b=>some (.fn f a b)
   | _,_=>none
  | _=>some v
noncomputable def resI (d:Nat) (out:Nat->List IObj) (st:St):IRes->Option IV
 | .tmp t=>some (st.t.getD t (.tuple []))
 | .cell agg n t=>match st.t.getD t (.tuple []) with
  | .ptrM l i off=>match look d out st.own l i with
   | some (.cells c)=>(rdN c off n).bind (mkv agg)
   | _=>none
  | _=>none
noncomputable def resultI (d:Nat) (out:Nat->List IObj) (st:St) (rs:List IRes):Option IV :=
 match rs.mapM (resI d out st) with
 | some [v]=>some v
 | some vs=>some (.tuple vs)
 | none=>none
noncomputable def handed (n d:Nat) (own ownC:List IObj) (id:Nat) (i off len cap sz:Nat) (tight:Bool) (rest:Option (List IV)):Res :=
 match own[i]? with
 | some (.cells c)=>match seg c off (cap*sz) with
  | some s=>match s.mapM (freeze n (d+1) (own.set i .gone)) with
   | some c'=>match rest with
    | none=>mkAt ownC id (.cells c') (.slM d id 0 len cap sz tight)
    | some r=>match r.mapM (freeze n (d+1) (own.set i .gone)) with
     | some r'=>mkAt ownC id (.cells c') (.tuple (.slM d id 0 len cap sz tight::r'))
     | none=>none
   | none=>none
  | none=>none
 | _=>none
noncomputable def leave (n d:Nat) (own ownC:List IObj) (id mode:Nat) (v:IV):Res :=
 match (if mode=1 then (match v with
  | .slM l i off len cap sz tight=>if l=d+1 then some (i,off,len,cap,sz,tight,none) else none
  | .tuple (.slM l i off len cap sz tight::r)=>if l=d+1 then some (i,off,len,cap,sz,tight,some r) else none
  | _=>none) else none:Option (Nat × Nat × Nat × Nat × Nat × Bool × Option (List IV))) with
 | some (i,off,len,cap,sz,tight,r)=>handed n d own ownC id i off len cap sz tight r
 | none=>(freeze n (d+1) own v).map fun v'=>(.r,v',ownC)
noncomputable def ended {α:Type} (x:Option (Out × St)) (k:St->Option α):Option α :=
 match x with
 | some (.normal,st)=>k st
 | some (.ret,st)=>k st
 | _=>none
noncomputable def freezeA:Nat->Nat->List IObj->IV->Option IV
 | 0,_,_,_=>none
 | n+1,lv,own,v=>match v with
  | .slM l i off len _ sz _=>if l=lv then match own[i]? with
    | some (.cells c)=>((seg c off (len*sz)).bind fun s=>s.mapM (freezeA n lv own)).map (.slC · len sz false)
    | _=>none
   else none
  | .slC cs len sz tight=>(cs.mapM (freezeA n lv own)).map (.slC · len sz tight)
  | .agg cs=>(cs.mapM (freezeA n lv own)).map .agg
  | .bool b=>some (.bool b)
  | .int k x=>some (.int k x)
  | .str x=>some (.str x)
  | .nilsl=>some .nilsl
  | _=>none
noncomputable def scalarR (own:List IObj) (v:IV):Res:=match v with
 | .int k x=>some (.r,.int k x,own)
 | .bool b=>some (.r,.bool b,own)
 | _=>none
noncomputable def callN (F:FuncId->Option IFn) (S:FuncId->List IV->Option IV):Nat->Call
 | 0=>fun _ _ _ _ _ _ _=>none
 | n+1=>fun d out ownV own id f args =>
  match S f args with
  | some v=>some (.r,v,own)
  | none=>match F f with
   | none=>none
   | some fn =>
    if fn.mode=2 then
     ended (exec (callN F S n) d out n fn.body ⟨lit (args++List.replicate (fn.ntmps - args.length) (.tuple [])),own⟩) fun st=>(resultI d out st fn.res).map fun v=>(.x,v,st.own)
    else if fn.mode=3 then
     (args.mapM (freezeA 12 d ownV)).bind fun as=>ended (exec (callN F S n) 0 (fun _=>[]) n fn.body ⟨lit (as++List.replicate (fn.ntmps - as.length) (.tuple [])),[]⟩) fun st=>(resultI 0 (fun _=>[]) st fn.res).bind fun v=>scalarR own v
    else
     ended (exec (callN F S n) (d+1) (fun l=>if l=d then ownV else out l) n fn.body ⟨lit (args++List.replicate (fn.ntmps - args.length) (.tuple [])),[]⟩) fun st =>
      (resultI (d+1) (fun l=>if l=d then ownV else out l) st fn.res).bind fun v=>leave n d st.own own id fn.mode v
end
section
theorem aj {a b:Prop} (x:a) (y:b):a/\b:=⟨x,y⟩
abbrev ySM:=FuncId->List IV->Option IV
abbrev yLM:=Nat->List IObj
abbrev yLO:=List IObj
abbrev yKM:=Out->St->Prop
def toI1:Value->Option IV
 | .bool b=>some (.bool b)
 | .int k n=>some (.int k n)
 | .string s=>some (.str s)
 | .pointer none=>some .nilptr
 | .slice none 0 0=>some .nilsl
 | .map none=>some .nilmap
 | .nilFunc=>some .nilfn
 | _=>none
def allM {α β:Type} (f:α->Option β):List α->Option (List β)
 | []=>some []
 | x::xs=>match f x,allM f xs with
  | some y,some ys=>some (y::ys)
  | _,_=>none
def toI:Value->Option IV
 | .agg cs=>(allM toI1 cs.toList).map .agg
 | v=>toI1 v
def cOpd:Operand->Option Opd
 | .tmp t=>some (.tmp t)
 | .const v=>(toI v).map .const
 | .func f=>some (.const (.fn f [] []))
 | .global _=>none
def cOpd?:Option Operand->Option (Option Opd)
 | none=>some none
 | some x=>(cOpd x).map some
def sizeT (P:Program) (t:TypeId):Option Nat:=(P.info? t).map (·.size)
def aggD:TypeDesc->Bool
 | .struct _=>true
 | .array _ _=>true
 | _=>false
def zeroT (P:Program) (t:TypeId):Option IV:=match P.info? t with
 | some i=>match i.zero with
  | some v=>toI v
  | none=>none
 | none=>none
def catK (f:TypeId->Option (List Nat)):List Field->Nat->Option (List Nat)
 | [],_=>some []
 | fd :: fs, off => if fd.name ≠ "_" ∧ fd.offset = off then
   match f fd.type with
   | some a=>match catK f fs (off+a.length) with
    | some b=>some (a++b)
    | none=>none
   | none=>none
  else none
def repK (a:List Nat):Nat->List Nat
 | 0=>[]
 | n+1=>a++repK a n
def cellK (P:Program):Nat->TypeId->Option (List Nat)
 | 0,_=>none
 | D+1,t=>match P.underlying t with
  | some .bool=>if sizeT P t=some 1 then some [0] else none
  | some (.int _)=>if sizeT P t=some 1 then some [1] else none
  | some .string=>if sizeT P t=some 1 then some [2] else none
  | some (.struct fs)=>if P.stoodInHeld t then none else
    match catK (cellK P D) fs.toList 0 with
    | some l=>if sizeT P t=some l.length then some l else none
    | none=>none
  | some (.array len e)=>match cellK P D e with
    | some l=>if sizeT P t=some (len*l.length) then some (repK l len) else none
    | none=>none
  | _=>none
def loadT (P:Program) (t:TypeId):Option (Bool × Nat):=match P.underlying t,sizeT P t with
 | some u,some n=>some (if aggD u then (true,n) else (false,1))
 | _,_=>none
def cParts (g:Nat->Option (Nat × Nat)):List (Nat × Operand)->Option (List (Nat × Nat × Opd))
 | []=>some []
 | (i,x)::rest=>match g i,cOpd x,cParts g rest with
  | some (off,n),some y,some ys=>some ((off,n,y)::ys)
  | _,_,_=>none
def smallT (P:Program) (t:TypeId):Bool:=match P.info? t with
 | some i=>i.bytes<=1024
 | none=>false
def cBin (P:Program) (op:BinOp) (t:TypeId) (x y:Opd):Option IOp :=
 match P.underlying t with
 | some (.int _)=>some (.bin op x y)
 | some .string=>match op with
  | .add=>none
  | _=>some (.bin op x y)
 | some u=>match op with
  | .eql=>cEq false u
  | .neq=>cEq true u
  | _=>none
 | none=>none
 where
 cEq (neg:Bool) (u:TypeDesc):Option IOp:=match u with
  | .bool=>some (.eqb neg x y)
  | .pointer _=>some (.eqp neg x y)
  | .slice _=>some (.eqs neg x y)
  | .struct _=>if P.eqGuardType P.depth t then none else (cellK P 40 t).map fun ks=>.eqagg neg ks x y
  | .array _ _=>if P.eqGuardType P.depth t then none else (cellK P 40 t).map fun ks=>.eqagg neg ks x y
  | _=>none
def cCall (P:Program) (c:Go.Call) (slot:Nat):Option IOp :=
 match c.callee,allM cOpd c.args.toList with
 | .value f,some xs=>(cOpd f).map fun y=>.call y xs slot
 | .builtin .append,some [s,x]=>match c.argTypes[0]?,c.argTypes[1]? with
  | some st,some xt=>match P.underlying st,P.underlying xt with
   | some (.slice e),some xu=>match sizeT P e,zeroT P e with
    | some n,some z=>if smallT P e&&z.cells.length==n&&0<n then
      match xu with
      | .int _=>some (.append z.cells n true s x slot)
      | .slice e'=>if e'==e then some (.append z.cells n false s x slot) else none
      | _=>none
     else none
    | _,_=>none
   | _,_=>none
  | _,_=>none
 | .builtin .len,some [x]=>match c.argTypes[0]? with
  | some t=>match P.underlying t with
   | some .string=>some (.len 0 x)
   | some (.slice _)=>some (.len 1 x)
   | some (.map _ _)=>some (.len 2 x)
   | _=>none
  | none=>none
 | .builtin .cap,some [x]=>match c.argTypes[0]? with
  | some t=>match P.underlying t with
   | some (.slice _)=>some (.cap x)
   | _=>none
  | none=>none
 | .builtin .clear,some [x]=>match c.argTypes[0]? with
  | some t=>match P.underlying t with
   | some (.slice e)=>match sizeT P e,zeroT P e with
    | some n,some z=>if z.cells.length==n&&0<n then some (.clr z.cells n x) else none
    | _,_=>none
   | _=>none
  | none=>none
 | .builtin .copy,some [x,y]=>match c.argTypes[0]? with
  | some t=>match P.underlying t with
   | some (.slice e)=>match sizeT P e with
    | some n=>if 0<n then some (.cpy n x y) else none
    | none=>none
   | _=>none
  | none=>none
 | .builtin .max,some [x,y]=>some (.mx true x y)
 | .builtin .min,some [x,y]=>some (.mx false x y)
 | _,_=>none
def ownLit:List IV->Bool
 | [.int _ _,.nilsl,.nilsl,.nilsl]=>true
 | _=>false
def cOp (P:Program) (o:Op) (slot:Nat):Option IOp :=
 match o with
 | .move x=>(cOpd x).map .mov
 | .assign x=>(cOpd x).map .mov
 | .nilCheck x=>(cOpd x).map .nilchk
 | .pick c a b=>match cOpd c,cOpd a,cOpd b with
  | some c,some a,some b=>some (.pick c a b)
  | _,_,_=>none
 | .alloc e=>(zeroT P e).map fun z=>.newv z.cells slot
 | .box _ x=>(cOpd x).map fun y=>.box y slot
 | .build t parts=>match P.underlying t,zeroT P t with
  | some (.struct fs),some z=>if fs.toList.all (fun f=>(sizeT P f.type).isSome) then
    (cParts (fun i=>match fs[i]? with | some f=>(sizeT P f.type).map (f.offset,·) | none=>none) parts.toList).map (.build z.cells ·)
   else none
  | some (.array _ e),some z=>match sizeT P e with
   | some n=>(cParts (fun i=>some (i*n,n)) parts.toList).map (.build z.cells ·)
   | none=>none
  | _,_=>none
 | .buildSlice t len parts=>match P.underlying t with
  | some (.slice e)=>match sizeT P e,zeroT P e with
   | some n,some z=>if len*n<=2 ^ 24/\z.cells.length=n/\0<n then (cParts (fun i=>some (i*n,n)) parts.toList).map (fun ps=>if ownLit z.cells then .mslice z.cells n len ps slot else .bslice z.cells n len ps) else none
   | _,_=>none
  | _=>none
 | .load t x=>match loadT P t,cOpd x with
  | some (agg,n),some y=>some (.load agg n y)
  | _,_=>none
 | .store t x v=>match sizeT P t,cOpd x,cOpd v with
  | some n,some y,some z=>if n=0 then none else some (.store n y z)
  | _,_,_=>none
 | .binOp op t x y _=>match cOpd x,cOpd y with
  | some x,some y=>cBin P op t x y
  | _,_=>none
 | .unOp op _ x=>(cOpd x).map (.un op)
 | .convert s d x=>match P.underlying s,P.underlying d,cOpd x with
  | some (.int _),some (.int k),some y=>some (.conv k y)
  | some .string,some .string,some y=>some (.cstr y)
  | _,_,_=>none
 | .makeFunc (.func f) first cap=>match allM cOpd first.toList,allM cOpd cap.toList with
  | some a,some b=>some (.mkfn f a b)
  | _,_=>none
 | .makeMap _ none=>some (.mkmap slot)
 | .makeSlice t n m=>match P.underlying t,cOpd n,cOpd m with
  | some (.slice e),some x,some y=>match sizeT P e,zeroT P e with
   | some k,some z=>if smallT P e&&z.cells.length==k&&0<k then some (.mks z.cells k x y slot) else none
   | _,_=>none
  | _,_,_=>none
 | .slice t x lo hi mx=>match P.underlying t,cOpd x,cOpd? lo,cOpd? hi,cOpd? mx with
  | some (.slice e),some y,some l,some h,some m=>if mx.isSome&&hi.isNone then none else (sizeT P e).map fun n=>.slice n y l h m
  | some .string,some y,some l,some h,some none=>some (.sliceS y l h)
  | _,_,_,_,_=>none
 | .fieldAddr s x f=>match P.underlying s,cOpd x with
  | some (.struct fs),some y=>match fs[f]? with
   | some fd=>match sizeT P fd.type with
    | some n=>if n=0 then none else some (.faddr fd.offset y)
    | none=>none
   | none=>none
  | _,_=>none
 | .field s x f=>match P.underlying s,cOpd x with
  | some (.struct fs),some y=>match fs[f]? with
   | some fd=>(loadT P fd.type).map fun (agg,n)=>.field agg fd.offset n y
   | none=>none
  | _,_=>none
 | .indexAddr t x ix=>match P.underlying t,cOpd x,cOpd ix with
  | some (.slice e),some y,some j=>(sizeT P e).map fun n=>.iaddr n y j
  | some (.array len e),some y,some j=>(sizeT P e).map fun n=>.iaddrA n len y j
  | _,_,_=>none
 | .index t x ix=>match P.underlying t,cOpd x,cOpd ix with
  | some (.array len e),some y,some j=>match loadT P e,sizeT P e with
   | some (agg,n),some m=>if n=m then some (.index agg n len y j) else none
   | _,_=>none
  | some .string,some y,some j=>some (.indexS y j)
  | _,_,_=>none
 | .lookup t x ix ok=>match P.underlying t,cOpd x,cOpd ix with
  | some (.map k e),some y,some j=>match cellK P 40 k,P.underlying k with
   | some kt,some u=>(zeroT P e).map fun z=>.lookup z (aggD u,kt) ok y j
   | _,_=>none
  | _,_,_=>none
 | .mapUpdate t m k v=>match P.underlying t,cOpd m,cOpd k,cOpd v with
  | some (.map kt _),some a,some b,some c=>match cellK P 40 kt,P.underlying kt with
   | some l,some u=>some (.mapupd (aggD u,l) a b c)
   | _,_=>none
  | _,_,_,_=>none
 | .extract x i=>(cOpd x).map fun y=>.extract y i
 | .call c=>cCall P c slot
 | .makeInterface _ _=>some .fail
 | .panic _=>some .fail
 | _=>none
def IOp.makes:IOp->Bool
 | .newv ..=>true
 | .box ..=>true
 | .mslice ..=>true
 | .mkmap ..=>true
 | .call ..=>true
 | .append ..=>true
 | .mks ..=>true
 | _=>false
def IOp.quiet:IOp->Bool
 | .mov ..=>true
 | .nilchk ..=>true
 | .pick ..=>true
 | .build ..=>true
 | .bslice ..=>true
 | .bin ..=>true
 | .eqagg ..=>true
 | .eqb ..=>true
 | .eqp ..=>true
 | .eqs ..=>true
 | .un ..=>true
 | .conv ..=>true
 | .cstr ..=>true
 | .mkfn ..=>true
 | .slice ..=>true
 | .sliceS ..=>true
 | .faddr ..=>true
 | .field ..=>true
 | .iaddr ..=>true
 | .iaddrA ..=>true
 | .index ..=>true
 | .indexS ..=>true
 | .extract ..=>true
 | .mx ..=>true
 | .cap ..=>true
 | .fail=>true
 | _=>false
def Opd.tmps:Opd->List Nat
 | .tmp t=>[t]
 | .const _=>[]
def optTmps:Option Opd->List Nat
 | some x=>x.tmps
 | none=>[]
def IOp.tmps:IOp->List Nat
 | .mov x=>x.tmps
 | .nilchk x=>x.tmps
 | .pick c a b=>c.tmps++a.tmps++b.tmps
 | .newv _ _=>[]
 | .box x _=>x.tmps
 | .build _ ps=>ps.flatMap (·.2.2.tmps)
 | .bslice _ _ _ ps=>ps.flatMap (·.2.2.tmps)
 | .mslice _ _ _ ps _=>ps.flatMap (·.2.2.tmps)
 | .load _ _ x=>x.tmps
 | .store _ x v=>x.tmps++v.tmps
 | .bin _ x y=>x.tmps++y.tmps
 | .eqagg _ _ x y=>x.tmps++y.tmps
 | .eqb _ x y=>x.tmps++y.tmps
 | .eqp _ x y=>x.tmps++y.tmps
 | .eqs _ x y=>x.tmps++y.tmps
 | .un _ x=>x.tmps
 | .conv _ x=>x.tmps
 | .cstr x=>x.tmps
 | .mkfn _ a b=>a.flatMap Opd.tmps++b.flatMap Opd.tmps
 | .mkmap _=>[]
 | .slice _ x lo hi m=>x.tmps++optTmps lo++optTmps hi++optTmps m
 | .sliceS x lo hi=>x.tmps++optTmps lo++optTmps hi
 | .faddr _ x=>x.tmps
 | .field _ _ _ x=>x.tmps
 | .iaddr _ x ix=>x.tmps++ix.tmps
 | .iaddrA _ _ x ix=>x.tmps++ix.tmps
 | .index _ _ _ x ix=>x.tmps++ix.tmps
 | .indexS x ix=>x.tmps++ix.tmps
 | .lookup _ _ _ x ix=>x.tmps++ix.tmps
 | .mapupd _ m k v=>m.tmps++k.tmps++v.tmps
 | .extract x _=>x.tmps
 | .call f xs _=>f.tmps++xs.flatMap Opd.tmps
 | .append _ _ _ s x _=>s.tmps++x.tmps
 | .len _ x=>x.tmps
 | .mx _ x y=>x.tmps++y.tmps
 | .cap x=>x.tmps
 | .clr _ _ x=>x.tmps
 | .cpy _ x y=>x.tmps++y.tmps
 | .mks _ _ x y _=>x.tmps++y.tmps
 | .fail=>[]
def IOp.slot?:IOp->Option Nat
 | .newv _ s=>some s
 | .box _ s=>some s
 | .mslice _ _ _ _ s=>some s
 | .mkmap s=>some s
 | .call _ _ s=>some s
 | .append _ _ _ _ _ s=>some s
 | .mks _ _ _ _ s=>some s
 | _=>none
def IOpR.reads (o:IOpR):List Nat:=o.op.tmps++(match o.guard with | some (j,_)=>[j] | none=>[])
def apartI (a b:IOpR):Bool :=
 (match a.dst with | some x=>!b.reads.contains x&&b.dst != some x | none=>true) &&
 (match b.dst with | some x=>!a.reads.contains x | none=>true)
def cGuard (ops:Array Oper):Option (Nat × Bool)->Option (Option (Nat × Bool))
 | none=>some none
 | some (j,b)=>match (ops[j]?).bind (·.dst) with
  | some t=>some (some (t,b))
  | none=>none
def cOps (P:Program) (ops:Array Oper):List Oper->Nat->Option (List IOpR × Nat)
 | [],s=>some ([],s)
 | o::rest,s=>match cOp P o.op s,cGuard ops o.guard with
  | some op,some g=>match cOps P ops rest (if op.makes then s+1 else s) with
   | some (l,s')=>some (⟨o.dst,op,g,[]⟩::l,s')
   | none=>none
  | _,_=>none
def pairs (n:Nat):List (Nat × Nat):=(List.range n).flatMap fun i=>(List.range i).map fun j=>(j,i)
def slotOf (l:List IOpR) (j:Nat):List Nat:=match l[j]? with
 | some o=>o.op.slot?.toList
 | none=>[]
def slotApart (x y:IOpR):Bool :=
 (match x.op.slot? with | some s=>!y.vis.contains s&&y.op.slot? != some s | none=>true) &&
 (match y.op.slot? with | some s=>!x.vis.contains s | none=>true)
def beforeOne (b:Array Nat) (o:Oper):Nat:=o.after.foldl (fun s e=>if Region.binds .any e then s ||| 2 ^ e.on ||| b.getD e.on 0 else s) 0
def looseP (b:Array Nat) (n:Nat):List (Nat × Nat):=(pairs n).filter fun ji=>!(b.getD ji.2 0).testBit ji.1
def withVis (b:Array Nat) (l:List IOpR):List IOpR:=l.mapIdx fun i o=>{ o with vis:=(List.range i).flatMap fun j=>if (b.getD i 0).testBit j then slotOf l j else [] }
def loud (l:List IOpR) (ji:Nat × Nat):Bool:=match l[ji.1]?,l[ji.2]? with
 | some x,some y=>!x.op.quiet&&!y.op.quiet
 | _,_=>true
def regionOK (ops:Array Oper) (b:Array Nat) (l:List IOpR):Bool :=
 (looseP b l.length).all (fun ji=>match l[ji.1]?,l[ji.2]? with | some x,some y=>apartI x y&&slotApart x y | _,_=>false) &&
 ops.toList.zipIdx.all fun oi=>oi.1.after.all (fun e=>!Region.binds .any e||decide (e.on<oi.2))&&b.getD oi.2 0==beforeOne b oi.1
def drawnR (ops:Array Oper) (b:Array Nat) (l:List IOpR) (s:Nat):Option IC :=
 if regionOK ops b l then some (.region true s l ((looseP b l.length).filter (loud l))) else none
def cRegion (P:Program) (ops:Array Oper) (drawn:Bool):Option IC :=
 match cOps P ops ops.toList 0 with
 | none=>none
 | some (l,s)=>if drawn then drawnR ops (CheckFast.beforeF ops) (withVis (CheckFast.beforeF ops) l) s else some (.region false s l [])
def cCode (P:Program):Code->Option IC
 | .skip=>some .skip
 | .region _ ops draw=>cRegion P ops draw
 | .seq a b=>match cCode P a,cCode P b with
  | some x,some y=>some (.seq x y)
  | _,_=>none
 | .cond c a b=>match cOpd c,cCode P a,cCode P b with
  | some z,some x,some y=>some (.cond z x y)
  | _,_,_=>none
 | .block id a=>(cCode P a).map (.block id)
 | .loop a=>(cCode P a).map .loop
 | .exit id=>some (.exit id)
 | .ret=>some .ret
 | _=>none
def cRes (P:Program):ResultVar->Option IRes
 | .tmp t=>some (.tmp t)
 | .cell a t=>(loadT P t).map fun (agg,n)=>.cell agg n a
def cFn (P:Program) (fn:Func) (mode:Nat):Option IFn :=
 if fn.name = "runtime.NumGoroutine" then none else
 match fn.body with
 | none=>none
 | some c=>match cCode P c,allM (cRes P) fn.results.toList with
  | some b,some r=>some ⟨fn.ntmps,r,b,mode⟩
  | _,_=>none
end
section
def VRs (β:Pl) (W:World) (xs:List IV) (ys:List Value):Prop:=xs.length=ys.length/\∀ (j:Nat) (x:IV) (y:Value),xs[j]?=some x->ys[j]?=some y->VR β W x y
def TR (β:Pl) (W:World) (t:List IV) (a:Array Value):Prop:=VRs β W t a.toList
theorem VRs.ext {β β':Pl} {W W':World} (e:Ext β W β' W') {xs:List IV} {ys:List Value} (h:VRs β W xs ys):VRs β' W' xs ys:=⟨h.1,fun j x y hx hy=>(h.2 j x y hx hy).ext e⟩
theorem TR.ext {β β':Pl} {W W':World} (e:Ext β W β' W') {t:List IV} {a:Array Value} (h:TR β W t a):TR β' W' t a:=VRs.ext e h
theorem VRs.nil {β:Pl} {W:World}:VRs β W [] []:=⟨rfl,fun j x y hx=>by simp at hx⟩
theorem VRs.cons {β:Pl} {W:World} {x:IV} {y:Value} {xs:List IV} {ys:List Value} (h:VR β W x y) (hs:VRs β W xs ys):VRs β W (x::xs) (y::ys) :=
 ⟨by simp [hs.1],fun j a b ha hb=>by
  cases j with
  | zero=>simp at ha hb; rw [← ha,← hb]; exact h
  | succ j=>simp at ha hb; exact hs.2 j a b ha hb⟩
theorem VRs.append {β:Pl} {W:World} {xs xs':List IV} {ys ys':List Value} (h:VRs β W xs ys) (hs:VRs β W xs' ys'):VRs β W (xs++xs') (ys++ys') :=
 ⟨by simp [h.1,hs.1],fun j a b ha hb=>by
  by_cases hj:j<xs.length
  ·rw [zar hj] at ha
   rw [zar (h.1 ▸ hj)] at hb
   exact h.2 j a b ha hb
  ·rw [zas (Nat.le_of_not_lt hj)] at ha
   rw [zas (h.1 ▸ Nat.le_of_not_lt hj),← h.1] at hb
   exact hs.2 _ a b ha hb⟩
theorem VRs.get {β:Pl} {W:World} {xs:List IV} {ys:List Value} (h:VRs β W xs ys) {j:Nat} {x:IV} (hx:xs[j]?=some x):∃ y,ys[j]?=some y/\VR β W x y:=by
 have hj:j<ys.length:=h.1 ▸ (zal.1 hx).1
 exact ⟨ys[j],zak hj,h.2 j x _ hx (zak hj)⟩
theorem VRs.drop {β:Pl} {W:World} {xs:List IV} {ys:List Value} (h:VRs β W xs ys) (n:Nat):VRs β W (xs.drop n) (ys.drop n) :=
 ⟨by simp [h.1],fun j a b ha hb=>by rw [List.getElem?_drop] at ha hb; exact h.2 _ a b ha hb⟩
theorem VRs.take {β:Pl} {W:World} {xs:List IV} {ys:List Value} (h:VRs β W xs ys) (n:Nat):VRs β W (xs.take n) (ys.take n) :=
 ⟨by simp [h.1],fun j a b ha hb=>by
  rw [zbt] at ha hb
  split at ha
  ·rename_i hj; rw [if_pos hj] at hb; exact h.2 _ a b ha hb
  ·simp at ha⟩
theorem VRs.set {β:Pl} {W:World} {xs:List IV} {ys:List Value} (h:VRs β W xs ys) {x:IV} {y:Value} (hv:VR β W x y) (i:Nat):VRs β W (xs.set i x) (ys.set i y) :=
 ⟨by simp [h.1],fun j a b ha hb=>by
  rw [List.getElem?_set] at ha hb
  by_cases hij:i=j
  ·subst hij
   simp only [if_true] at ha hb
   split at ha
   ·split at hb
    ·cases ha; cases hb; exact hv
    ·simp at hb
   ·simp at ha
  ·rw [if_neg hij] at ha hb
   exact h.2 j a b ha hb⟩
theorem ZM {β:Pl} {W:World}:VR β W (.tuple []) undef:=.tuple rfl (fun j x y hx=>by simp at hx)
theorem YG {β:Pl} {W:World} {xs:List IV} {ys:List Value} (h:VRs β W xs ys):VR β W (.agg xs) (.agg ys.toArray):=.agg (by simp [h.1]) (fun j x y hx hy=>h.2 j x y hx (by simpa using hy))
theorem ZN {β:Pl} {W:World} {xs:List IV} {ws:Array Value} (n:xs.length=ws.size) (h:∀ (j:Nat) (x:IV) (y:Value),xs[j]?=some x->ws[j]?=some y->VR β W x y):VRs β W xs ws.toList :=
 ⟨by simp [n],fun j x y hx hy=>h j x y hx (by simpa using hy)⟩
theorem zA {β:Pl} {W:World} {v:IV} {x:Value} (h:VR β W v x):VRs β W v.cells x.cells.toList:=by
 cases h with
 | agg n h=>exact ZN n h
 | _=>exact .cons (by first | exact .bool _ | exact .int _ _ | exact .str _ | exact .nilptr | exact .ptrM ‹_› | exact .nilsl | exact .nilmap | exact .nilfn | exact .mapM ‹_› | (constructor <;> assumption)) .nil
theorem Zr {β:Pl} {W:World} {v:IV} {x:Value} (h:VR β W v x) (hs:v.scalar=true):x.oneCell'=true:=by
 cases h <;> first | rfl | (simp [IV.scalar] at hs)
theorem Za {β:Pl} {W:World} {xs:List IV} {ys:List Value} (h:VRs β W xs ys) (hs:xs.all IV.scalar=true):∀ y∈ys,y.oneCell'=true:=by
 intro y hy
 obtain ⟨j,hj,rfl⟩:=List.mem_iff_getElem.1 hy
 have hj':j<xs.length:=h.1 ▸ hj
 have hx:xs[j]?=some xs[j]:=zak hj'
 exact Zr (h.2 j _ _ hx (zak hj)) (zbu.1 hs _ (List.getElem_mem _))
theorem vr_toI1 {β:Pl} {W:World} {v:Value} {x:IV} (h:toI1 v=some x):VR β W x v:=by
 unfold toI1 at h
 split at h <;> first | (cases h; first | exact .bool _ | exact .int _ _ | exact .str _ | exact .nilptr | exact .nilsl | exact .nilmap | exact .nilfn) | (simp at h)
theorem yY {α γ:Type} {f:α->Option γ}:∀ {l:List α} {r:List γ},allM f l=some r->r.length=l.length/\∀ (j:Nat) (x:α),l[j]?=some x->∃ y,r[j]?=some y/\f x=some y
 | [],r,h=>by simp only [allM,zao] at h; subst h; exact ⟨rfl,fun j x hx=>by simp at hx⟩
 | x::xs,r,h=>by
  simp only [allM] at h
  split at h
  ·rename_i y ys hy hys
   cases h
   obtain ⟨h1,h2⟩:=yY hys
   refine ⟨by simp [h1],fun j z hz=>?_⟩
   cases j with
   | zero=>simp at hz; subst hz; exact ⟨y,rfl,hy⟩
   | succ j=>simp at hz; simpa using h2 j z hz
  ·simp at h
theorem vr_toI {β:Pl} {W:World} {v:Value} {x:IV} (h:toI v=some x):VR β W x v:=by
 unfold toI at h
 split at h
 ·rename_i cs
  cases hl:allM toI1 cs.toList with
  | none=>rw [hl] at h; simp at h
  | some l =>
   rw [hl] at h
   cases h
   obtain ⟨h1,h2⟩:=yY hl
   refine .agg (by simpa using h1) fun j a b ha hb=>?_
   obtain ⟨y,hy,hf⟩:=h2 j b (by simpa using hb)
   rw [ha] at hy; cases hy
   exact vr_toI1 hf
 ·exact vr_toI1 h
theorem TR.get {β:Pl} {W:World} {t:List IV} {a:Array Value} (h:TR β W t a) (i:Nat):VR β W (t.getD i (.tuple [])) (a.getD i undef):=by
 by_cases hi:i<t.length
 ·have hi':i<a.size:=by have:=h.1; simp at this; omega
  have:=h.2 i t[i] a[i] (zak hi) (by simp [hi'])
  simpa [List.getD,hi,hi'] using this
 ·have hi':¬ i<a.size:=by have:=h.1; simp at this; omega
  simpa [List.getD,hi,hi',List.getElem?_eq_none (Nat.le_of_not_lt hi)] using ZM
theorem TR.eval {β:Pl} {W:World} {t:List IV} {a:Act} (h:TR β W t a.tmps) {x:Operand} {y:Opd} (hx:cOpd x=some y):VR β W (ρ t y) (a.eval x):=by
 cases x with
 | tmp i=>simp only [cOpd,zao] at hx; subst hx; rw [ρ_tmp]; exact h.get i
 | const v =>
  simp only [cOpd] at hx
  cases hv:toI v with
  | none=>rw [hv] at hx; simp at hx
  | some z=>rw [hv] at hx; cases hx; exact vr_toI hv
 | func f=>simp only [cOpd,zao] at hx; subst hx; exact .fn rfl rfl (fun j x y hx=>by simp at hx) (fun j x y hx=>by simp at hx)
 | global g=>simp [cOpd] at hx
theorem TR.put {β:Pl} {W:World} {t:List IV} {a:Act} (h:TR β W t a.tmps) {v:IV} {x:Value} (hv:VR β W v x) (dst:Option Nat):TR β W (put t dst v) (a.put dst x).tmps:=by
 cases dst with
 | none=>exact h
 | some i =>
  rw [zK]
  show VRs β W (t.set i v) (a.tmps.setIfInBounds i x).toList
  rw [Array.toList_setIfInBounds]
  exact VRs.set h hv i
theorem YH:∀ {n:Nat} {c:List IV} {off:Nat} {xs:List IV},rdN c off n=some xs->xs.length=n/\∀ j,j<n->xs[j]?=c[off+j]?
 | 0,c,off,xs,h=>by simp only [rdN,zao] at h; subst h; exact ⟨rfl,fun j hj=>absurd hj (by omega)⟩
 | n+1,c,off,xs,h=>by
  simp only [rdN] at h
  cases hc:c[off]? with
  | none=>rw [hc] at h; simp at h
  | some x =>
   rw [hc] at h
   cases hr:rdN c (off+1) n with
   | none=>rw [hr] at h; simp at h
   | some ys =>
    rw [hr] at h; cases h
    obtain ⟨h1,h2⟩:=YH hr
    refine ⟨by simp [h1],fun j hj=>?_⟩
    cases j with
    | zero=>simp [hc]
    | succ j=>simp only [za1]; rw [h2 j (by omega)]; congr 1; omega
def At (β:Pl) (W:World) (c:List IV) (off:Nat) (a:Addr):Prop:=a.spot=none/\∀ (j:Nat) (z:IV),c[off+j]?=some z->∃ y,W.cell? ⟨a.block,a.off+j,none⟩=some y/\VR β W z y
theorem at_ptrM {β:Pl} {W:World} {get:Nat->Nat->Option IObj} (hR:RS β get W) {l i off:Nat} {c:List IV} {x:Value} (h:VR β W (.ptrM l i off) x) (hg:get l i=some (.cells c)):∃ a,x=.pointer (some a)/\At β W c off a:=by
 cases h with
 | @ptrM _ _ _ k s hb =>
  refine ⟨_,rfl,rfl,fun j z hz=>?_⟩
  obtain ⟨c',ty,hh,hc⟩:=hR.obj _ _ _ _ _ hb hg
  obtain ⟨y,hy,hv⟩:=hc _ z hz
  refine ⟨y,?_,hv⟩
  simp only [World.cell?,hh,Option.isSome_none,zaz,if_false]
  rw [← hy]; congr 1; omega
theorem at_ptrC {β:Pl} {W:World} {off:Nat} {c:List IV} {x:Value} (h:VR β W (.ptrC c off) x):∃ a,x=.pointer (some a)/\At β W c off a:=by
 cases h with
 | @ptrC _ _ k s f hk hc hv =>
  refine ⟨_,rfl,rfl,fun j z hz=>?_⟩
  exact ⟨f (off+j),by have:=hc _ z hz; rw [← this]; congr 2; show off+s+j=_; omega,hv _ z hz⟩
theorem yD {a:Addr} (h:a.spot=none) (j:Nat):a.add j=⟨a.block,a.off+j,none⟩:=by
 unfold Addr.add
 split
 ·rename_i hj; subst hj; cases a; simp at h; simp [h]
 ·rfl
theorem yp {P:Program} {t:TypeId} {u:TypeDesc} (h:P.underlying t=some u) (W:World):(isAgg t).run P W=.ok (aggD u) W:=by
 cases u <;> simp [isAgg,run_underlying h,aggD]
theorem zJ {P:Program} {t:TypeId} {n:Nat} (h:sizeT P t=some n) (W:World):(sizeOf t).run P W=.ok n W:=by
 unfold sizeT at h
 cases hi:P.info? t with
 | none=>rw [hi] at h; simp at h
 | some i=>rw [hi] at h; cases h; simp [sizeOf,typeInfo,hi]
theorem mkv_true {xs:List IV} {v:IV} (h:mkv true xs=some v):v=.agg xs:=by simpa [mkv,eq_comm] using h
theorem mkv_false {xs:List IV} {v:IV} (h:mkv false xs=some v):xs=[v]:=by
 unfold mkv at h
 simp only [zaz,if_false] at h
 split at h
 ·cases h; rfl
 ·simp at h
theorem At.cells {β:Pl} {W:World} {c:List IV} {off:Nat} {a:Addr} (h:At β W c off a) {n:Nat} {xs:List IV} (hr:∀ j x,xs[j]?=some x->c[off+j]?=some x) (hn:xs.length=n) :
  ∃ ys:List Value,ys.length=n/\VRs β W xs ys/\∀ j y,ys[j]?=some y->W.cell? (a.add j)=some y:=by
 induction xs generalizing off a n with
 | nil=>subst hn; exact ⟨[],rfl,.nil,fun j y hy=>by simp at hy⟩
 | cons x xs ih =>
  obtain ⟨y,hy,hv⟩:=h.2 0 x (hr 0 x rfl)
  have h':At β W c (off+1) ⟨a.block,a.off+1,none⟩:=⟨rfl,fun j z hz=>by
   obtain ⟨y,hy,hv⟩:=h.2 (j+1) z (by rw [← hz]; congr 1; omega)
   exact ⟨y,by rw [← hy]; congr 2; show a.off+1+j=_; omega,hv⟩⟩
  obtain ⟨ys,h1,h2,h3⟩:=ih h' (n:=xs.length) (fun j z hz=>by rw [show off+1+j=off+(j+1) by omega]; exact hr (j+1) z (by simpa using hz)) rfl
  refine ⟨y::ys,by simp [h1,← hn],.cons hv h2,fun j z hz=>?_⟩
  cases j with
  | zero=>simp at hz; subst hz; rw [yD h.1]; exact hy
  | succ j =>
   simp at hz
   have:=h3 j z hz
   rw [yD rfl] at this
   rw [yD h.1,← this]; congr 2; show a.off+(j+1)=a.off+1+j; omega
theorem load_sim {P:Program} {β:Pl} {W:World} {t:TypeId} {agg:Bool} {n off:Nat} {c:List IV} {a:Addr} {v:IV} (hl:loadT P t=some (agg,n)) (h:At β W c off a) (hr:(rdN c off n).bind (mkv agg)=some v) :
  ∃ x,(loadVar t a).run P W=.ok x W/\VR β W v x:=by
 unfold loadT at hl
 cases hu:P.underlying t with
 | none=>rw [hu] at hl; simp at hl
 | some u =>
  cases hs:sizeT P t with
  | none=>rw [hu,hs] at hl; simp at hl
  | some n0 =>
   rw [hu,hs] at hl
   dsimp only at hl
   cases hx:rdN c off n with
   | none=>rw [hx] at hr; simp at hr
   | some xs =>
    rw [hx] at hr
    simp only [za7] at hr
    obtain ⟨h1,h2⟩:=YH hx
    have hr':∀ j x,xs[j]?=some x->c[off+j]?=some x:=fun j x hj=>by
     rw [← h2 j (h1 ▸ (zal.1 hj).1)]; exact hj
    obtain ⟨ys,e1,e2,e3⟩:=h.cells hr' h1
    cases ha:aggD u with
    | true =>
     rw [ha] at hl
     simp only [if_true,zao,Prod.mk.injEq] at hl
     obtain ⟨rfl,rfl⟩:=hl
     rw [mkv_true hr]
     have hc:=run_loadCells_list (P:=P) W a ys e3
     rw [e1] at hc
     refine ⟨.agg ys.toArray,?_,YG e2⟩
     simp [loadVar,yp hu,ha,zJ hs,hc]
    | false =>
     rw [ha] at hl
     simp only [zaz,if_false,zao,Prod.mk.injEq] at hl
     obtain ⟨rfl,rfl⟩:=hl
     have hxs:=mkv_false hr
     subst hxs
     obtain ⟨y,rfl⟩:∃ y,ys=[y]:=by
      cases ys with
      | nil=>simp at e1
      | cons y ys=>cases ys with
       | nil=>exact ⟨y,rfl⟩
       | cons _ _=>simp at e1
     refine ⟨y,?_,e2.2 0 v y rfl rfl⟩
     have:=e3 0 y rfl
     rw [yD h.1] at this
     have ha0:(⟨a.block,a.off+0,none⟩:Addr)=a:=by cases a; have:=h.1; simp at this; simp [this]
     rw [ha0] at this
     simp [loadVar,yp hu,ha,run_load,this]
end
section
theorem zY {d:Nat} {out:yLM} {own:yLO} (i:Nat):look d out own d i=own[i]?:=by simp [look]
theorem zG {d:Nat} {out:yLM} {own:yLO} {i:Nat} {o o0:IObj} (h:own[i]?=some o0):look d out (own.set i o) d i=some o:=by
 rw [zY,List.getElem?_set]
 have:=(zal.1 h).1
 simp [this]
theorem zB {d:Nat} {out:yLM} {own:yLO} {i:Nat} {o:IObj} {l j:Nat} (h:¬ (l=d/\j=i)):look d out (own.set i o) l j=look d out own l j:=by
 unfold look
 split
 ·rename_i hl
  rw [List.getElem?_set,if_neg (fun e=>h ⟨hl,e.symm⟩)]
 ·rfl
theorem OR.ext {β β':Pl} {W W':World} {k s:Nat} {o:IObj} (h:OR β W k s o) (e:Ext β W β' W') (hk:W'.heap[k]?=W.heap[k]?):OR β' W' k s o:=by
 cases o with
 | free=>exact h
 | gone=>exact h
 | cells c =>
  obtain ⟨c',t,h1,h2⟩:=h
  exact ⟨c',t,hk.trans h1,fun j x hx=>let ⟨y,hy,hv⟩:=h2 j x hx; ⟨y,hy,hv.ext e⟩⟩
 | map ks vs bs clock =>
  obtain ⟨es,h1,h2,h3,h4,h5⟩:=h
  exact ⟨es,hk.trans h1,h2,h3,h4,fun j en he=>let ⟨a,b,c⟩:=h5 j en he; ⟨fun x hx=>(a x hx).ext e,fun x hx=>(b x hx).ext e,c⟩⟩
def upd (β:Pl) (d id:Nat) (p:Nat × Nat):Pl:=fun l i=>if l=d/\i=id then some p else β l i
theorem zF (β:Pl) (d id:Nat) (p:Nat × Nat):upd β d id p d id=some p:=by simp [upd]
theorem yq {β:Pl} {d id:Nat} {p:Nat × Nat} {l i:Nat} (h:¬ (l=d/\i=id)):upd β d id p l i=β l i:=by simp [upd,h]
theorem RS.free {β:Pl} {get:Nat->Nat->Option IObj} {W:World} (h:RS β get W) {l i:Nat} (hg:get l i=some .free):β l i=none:=by
 cases hb:β l i with
 | none=>rfl
 | some p=>exact (h.obj l i p.1 p.2 .free hb hg).elim
theorem YI {d:Nat} {out:yLM} {own:yLO} {β:Pl} {W W':World} {id k s:Nat} {o:IObj} (hR:RS β (look d out own) W) (hf:own[id]?=some .free)
  (hk:∀ l i s' o',β l i=some (k,s')->look d out own l i=some o'->o'.live=true->False) (hkd:W.heap.size<=k∨∃ i s',β d i=some (k,s'))
  (hW:∀ k2,k2≠k->k2<W.heap.size->W'.heap[k2]?=W.heap[k2]?) (hs:W.heap.size<=W'.heap.size) (hk':k<W'.heap.size)
  (hrow:∀ (c:Array Value) (t:TypeId) (f:Nat × Nat),W.heap[k]?=some (.cells c t f)->∃ c2,W'.heap[k]?=some (.cells c2 t f)/\c2.size=c.size) (h1:W'.os=W.os) (h2:W'.tape=W.tape) (h3:W'.output=W.output)
  (hO:Ext β W (upd β d id (k,s)) W'->OR (upd β d id (k,s)) W' k s o) :
  RS (upd β d id (k,s)) (look d out (own.set id o)) W'/\Fr d β W (upd β d id (k,s)) W':=by
 have hfree:β d id=none:=hR.free (by rw [zY]; exact hf)
 have hF:Fr d β W (upd β d id (k,s)) W' :=
  {keep:=fun l i p hb=>by
    rw [yq (fun h=>by rw [h.1,h.2,hfree] at hb; simp at hb)]; exact hb
   fresh:=fun l i k' s' hb=>by
    by_cases h:l=d/\i=id
    ·rw [h.1,h.2,zF] at hb
     cases hb
     exact .inr ⟨h.1,hkd.elim (fun h=>.inr h) (fun ⟨i',s',h⟩=>.inl ⟨i',s',h⟩)⟩
    ·rw [yq h] at hb; exact .inl hb
   block:=fun k2 hk2 hn=>by
    refine hW k2 (fun e=>?_) hk2
    subst e
    rcases hkd with h | ⟨i',s',h⟩
    ·omega
    ·exact hn _ _ h
   size:=hs,os:=h1,tape:=h2,output:=h3
   rows:=fun k2 c t f hc=>by
    by_cases e:k2=k
    ·subst e; exact hrow c t f hc
    ·exact ⟨c,(hW k2 e (za6.1 hc).1).trans hc,rfl⟩ }
 refine ⟨?_,hF⟩
 have old:∀ {l i o'},¬ (l=d/\i=id)->look d out (own.set id o) l i=some o'->look d out own l i=some o':=fun h hg=>by rwa [zB h] at hg
 constructor
 ·intro l i k2 s2 o2 hb hg
  by_cases h:l=d/\i=id
  ·obtain ⟨rfl,rfl⟩:=h
   rw [zF] at hb; cases hb
   rw [zG hf] at hg; cases hg
   exact hO hF.ext
  ·rw [yq h] at hb
   rw [zB h] at hg
   by_cases hl:o2.live=true
   ·exact (hR.obj _ _ _ _ _ hb hg).ext hF.ext (hW k2 (fun e=>hk _ _ _ _ (e ▸ hb) hg hl) (hR.here _ _ _ _ hb))
   ·cases o2 with
    | free=>exact hR.obj _ _ _ _ _ hb hg
    | gone=>trivial
    | cells _=>exact absurd rfl hl
    | map _ _ _ _=>exact absurd rfl hl
 ·intro l i l' i' k2 s2 s2' o1 o2 hb hb' hg hg' hl hl'
  by_cases h:l=d/\i=id
  ·by_cases h':l'=d/\i'=id
   ·exact ⟨h.1.trans h'.1.symm,h.2.trans h'.2.symm⟩
   ·rw [h.1,h.2,zF] at hb; cases hb
    rw [yq h'] at hb'
    exact (hk _ _ _ _ hb' (old h' hg') hl').elim
  ·by_cases h':l'=d/\i'=id
   ·rw [h'.1,h'.2,zF] at hb'; cases hb'
    rw [yq h] at hb
    exact (hk _ _ _ _ hb (old h hg) hl).elim
   ·rw [yq h] at hb
    rw [yq h'] at hb'
    exact hR.one _ _ _ _ _ _ _ _ _ hb hb' (old h hg) (old h' hg') hl hl'
 ·intro l i k2 s2 hb
  by_cases h:l=d/\i=id
  ·rw [h.1,h.2,zF] at hb; cases hb; exact hk'
  ·rw [yq h] at hb; exact Nat.lt_of_lt_of_le (hR.here _ _ _ _ hb) hs
 ·intro l i o2 hg hl
  by_cases h:l=d/\i=id
  ·exact ⟨_,by rw [h.1,h.2]; exact zF _ _ _ _⟩
  ·rw [yq h]; exact hR.has _ _ _ (old h hg) hl
 ·intro l i p hb
  by_cases h:l=d/\i=id
  ·exact ⟨o,by rw [h.1,h.2]; exact zG hf⟩
  ·rw [yq h] at hb; rw [zB h]; exact hR.dom _ _ _ hb
theorem rs_upd {d:Nat} {out:yLM} {own:yLO} {β:Pl} {W W':World} {i k s:Nat} {o o0:IObj} (hR:RS β (look d out own) W) (hi:own[i]?=some o0) (hl:o0.live=true) (hb:β d i=some (k,s))
  (hW:∀ k2,k2≠k->W'.heap[k2]?=W.heap[k2]?) (hs:W'.heap.size=W.heap.size)
  (hrow:∀ (c:Array Value) (t:TypeId) (f:Nat × Nat),W.heap[k]?=some (.cells c t f)->∃ c2,W'.heap[k]?=some (.cells c2 t f)/\c2.size=c.size) (h1:W'.os=W.os) (h2:W'.tape=W.tape) (h3:W'.output=W.output)
  (hO:Ext β W β W'->OR β W' k s o) (hlo:o.live=true):RS β (look d out (own.set i o)) W'/\Fr d β W β W':=by
 have hF:Fr d β W β W':=⟨fun _ _ _ h=>h,fun _ _ _ _ h=>.inl h,fun k2 _ hn=>hW k2 (fun e=>hn i s (e ▸ hb)),Nat.le_of_eq hs.symm,fun k2 c t f hc=>(by
   by_cases e:k2=k
   ·subst e; exact hrow c t f hc
   ·exact ⟨c,(hW k2 e).trans hc,rfl⟩),h1,h2,h3⟩
 refine ⟨?_,hF⟩
 have gi:look d out own d i=some o0:=by rw [zY]; exact hi
 constructor
 ·intro l j k2 s2 o2 hb2 hg
  by_cases h:l=d/\j=i
  ·obtain ⟨rfl,rfl⟩:=h
   rw [hb] at hb2; cases hb2
   rw [zG hi] at hg; cases hg
   exact hO hF.ext
  ·rw [zB h] at hg
   by_cases hl2:o2.live=true
   ·refine (hR.obj _ _ _ _ _ hb2 hg).ext hF.ext (hW k2 (fun e=>?_))
    subst e
    exact h (hR.one _ _ _ _ _ _ _ _ _ hb2 hb hg gi hl2 hl)
   ·cases o2 with
    | free=>exact hR.obj _ _ _ _ _ hb2 hg
    | gone=>trivial
    | cells _=>exact absurd rfl hl2
    | map _ _ _ _=>exact absurd rfl hl2
 ·intro l j l' j' k2 s2 s2' o1 o2 hb1 hb2 hg hg' hl1 hl2
  have fix:∀ {l j o'},look d out (own.set i o) l j=some o'->o'.live=true->∃ o'',look d out own l j=some o''/\o''.live=true:=fun {l j o'} hg hl'=>by
   by_cases h:l=d/\j=i
   ·exact ⟨o0,by rw [h.1,h.2]; exact gi,hl⟩
   ·rw [zB h] at hg; exact ⟨_,hg,hl'⟩
  obtain ⟨a,ha,hla⟩:=fix hg hl1
  obtain ⟨b,hb',hlb⟩:=fix hg' hl2
  exact hR.one _ _ _ _ _ _ _ _ _ hb1 hb2 ha hb' hla hlb
 ·intro l j k2 s2 hb2; rw [hs]; exact hR.here _ _ _ _ hb2
 ·intro l j o2 hg hl2
  by_cases h:l=d/\j=i
  ·exact ⟨_,by rw [h.1,h.2]; exact hb⟩
  ·rw [zB h] at hg; exact hR.has _ _ _ hg hl2
 ·intro l j p hb2
  by_cases h:l=d/\j=i
  ·exact ⟨o,by rw [h.1,h.2]; exact zG hi⟩
  ·rw [zB h]; exact hR.dom _ _ _ hb2
theorem rs_gone {d:Nat} {out:yLM} {own:yLO} {β:Pl} {W:World} {i:Nat} {o0:IObj} (hR:RS β (look d out own) W) (hi:own[i]?=some o0):RS β (look d out (own.set i .gone)) W:=by
 have old:∀ {l j o'},look d out (own.set i .gone) l j=some o'->o'.live=true->look d out own l j=some o':=fun {l j o'} hg hl=>by
  by_cases h:l=d/\j=i
  ·rw [h.1,h.2,zG hi] at hg; cases hg; simp [IObj.live] at hl
  ·rwa [zB h] at hg
 constructor
 ·intro l j k2 s2 o2 hb hg
  by_cases h:l=d/\j=i
  ·rw [h.1,h.2,zG hi] at hg; cases hg; trivial
  ·rw [zB h] at hg; exact hR.obj _ _ _ _ _ hb hg
 ·intro l j l' j' k2 s2 s2' o1 o2 hb1 hb2 hg hg' hl1 hl2
  exact hR.one _ _ _ _ _ _ _ _ _ hb1 hb2 (old hg hl1) (old hg' hl2) hl1 hl2
 ·exact hR.here
 ·intro l j o2 hg hl; exact hR.has _ _ _ (old hg hl) hl
 ·intro l j p hb
  by_cases h:l=d/\j=i
  ·exact ⟨.gone,by rw [h.1,h.2]; exact zG hi⟩
  ·rw [zB h]; exact hR.dom _ _ _ hb
theorem RS.same {get:Nat->Nat->Option IObj} {β:Pl} {W W':World} (hR:RS β get W) (h:W'.heap=W.heap):RS β get W':=by
 have e:Ext β W β W':=⟨fun _ _ _ h=>h,fun l i k s h=>.inl ⟨l,i,s,h⟩,fun k _ _=>by rw [h],by rw [h]; exact zaq _,fun k c t f hc=>⟨c,by rw [h]; exact hc,rfl⟩⟩
 exact ⟨fun l i k s o hb hg=>(hR.obj l i k s o hb hg).ext e (by rw [h]),hR.one,fun l i k s hb=>by rw [h]; exact hR.here l i k s hb,hR.has,hR.dom⟩
theorem RS.old {get:Nat->Nat->Option IObj} {β:Pl} {W W':World} (hR:RS β get W) (h:∀ k,k<W.heap.size->W'.heap[k]?=W.heap[k]?) (hs:W.heap.size<=W'.heap.size):RS β get W':=by
 have e:Ext β W β W':=⟨fun _ _ _ h=>h,fun l i k s h=>.inl ⟨l,i,s,h⟩,fun k hk _=>h k hk,hs,fun k c t f hc=>⟨c,(h k (za6.1 hc).1).trans hc,rfl⟩⟩
 exact ⟨fun l i k s o hb hg=>(hR.obj l i k s o hb hg).ext e (h k (hR.here _ _ _ _ hb)),hR.one,fun l i k s hb=>Nat.lt_of_lt_of_le (hR.here l i k s hb) hs,hR.has,hR.dom⟩
theorem RS.more {d:Nat} {out:yLM} {own:yLO} {β:Pl} {W:World} (hR:RS β (look d out own) W) (n:Nat):RS β (look d out (own++List.replicate n .free)) W:=by
 have cas:∀ {l i o},look d out (own++List.replicate n .free) l i=some o->look d out own l i=some o∨(o=.free/\look d out own l i=none):=fun {l i o} hg=>by
  unfold look at hg ⊢
  split at hg
  ·rename_i hl
   rw [if_pos hl]
   by_cases hi:i<own.length
   ·rw [zar hi] at hg; exact .inl hg
   ·rw [zas (Nat.le_of_not_lt hi)] at hg
    rw [List.getElem?_replicate] at hg
    split at hg
    ·cases hg; exact .inr ⟨rfl,List.getElem?_eq_none (Nat.le_of_not_lt hi)⟩
    ·simp at hg
  ·rename_i hl; rw [if_neg hl]; exact .inl hg
 constructor
 ·intro l i k s o hb hg
  rcases cas hg with hg | ⟨rfl,hn⟩
  ·exact hR.obj _ _ _ _ _ hb hg
  ·obtain ⟨o',ho'⟩:=hR.dom _ _ _ hb; rw [hn] at ho'; simp at ho'
 ·intro l i l' i' k s s' o o' hb hb' hg hg' hl hl'
  rcases cas hg with hg | ⟨rfl,_⟩
  ·rcases cas hg' with hg' | ⟨rfl,_⟩
   ·exact hR.one _ _ _ _ _ _ _ _ _ hb hb' hg hg' hl hl'
   ·simp [IObj.live] at hl'
  ·simp [IObj.live] at hl
 ·exact hR.here
 ·intro l i o hg hl
  rcases cas hg with hg | ⟨rfl,_⟩
  ·exact hR.has _ _ _ hg hl
  ·simp [IObj.live] at hl
 ·intro l i p hb
  obtain ⟨o,ho⟩:=hR.dom _ _ _ hb
  refine ⟨o,?_⟩
  unfold look at ho ⊢
  split
  ·rename_i hl; rw [if_pos hl] at ho
   rw [zar (zal.1 ho).1]; exact ho
  ·rename_i hl; rw [if_neg hl] at ho; exact ho
end
section
section
variable {β:Pl} {W:World} {x:Value}
theorem yZ {b:Bool} (h:VR β W (.bool b) x):x=.bool b:=by cases h; rfl
theorem ZB {k:IntKind} {n:Int} (h:VR β W (.int k n) x):x=.int k n:=by cases h; rfl
theorem Yk {s:ByteArray} (h:VR β W (.str s) x):x=.string s:=by cases h; rfl
theorem Zb (h:VR β W .nilptr x):x=.pointer none:=by cases h; rfl
theorem YJ {l i off:Nat} (h:VR β W (.ptrM l i off) x):∃ k s,β l i=some (k,s)/\x=.pointer (some ⟨k,off+s,none⟩):=by cases h with | ptrM h=>exact ⟨_,_,h,rfl⟩
theorem ptrCI {cs:List IV} {off:Nat} (h:VR β W (.ptrC cs off) x):∃ k s,x=.pointer (some ⟨k,off+s,none⟩):=by cases h with | ptrC f hk hc hv=>exact ⟨_,_,rfl⟩
theorem ptrCI2 {cs:List IV} {off:Nat} (h:VR β W (.ptrC cs off) x):∃ k s,Konst β W k/\(∀ (j:Nat) (z:IV),cs[j]?=some z->∃ y,W.cell? ⟨k,s+j,none⟩=some y/\VR β W z y)/\x=.pointer (some ⟨k,off+s,none⟩):=by
 cases h with | ptrC f hk hc hv=>exact ⟨_,_,hk,fun j z hz=>⟨f j,by rw [Nat.add_comm]; exact hc j z hz,hv j z hz⟩,rfl⟩
theorem yb (h:VR β W .nilsl x):x=.slice none 0 0:=by cases h; rfl
theorem slMI {l i off len cap sz:Nat} {tight:Bool} (h:VR β W (.slM l i off len cap sz tight) x):∃ k s o' cap',β l i=some (k,s)/\(cap=0∨o'=off+s)/\len<=cap/\cap<=cap'/\(tight=true->cap'=cap)/\x=.slice (some ⟨k,o',none⟩) len cap':=by
 cases h with | slM h ho hl hc ht hr=>exact ⟨_,_,_,_,h,ho,hl,hc,ht,rfl⟩
theorem YK {l i off len cap sz:Nat} {tight:Bool} (h:VR β W (.slM l i off len cap sz tight) x):∃ k s o' cap',β l i=some (k,s)/\(cap=0∨o'=off+s)/\len<=cap/\cap<=cap'/\(tight=true->cap'=cap)/\Room W k (o'+cap'*sz)/\x=.slice (some ⟨k,o',none⟩) len cap':=by
 cases h with | slM h ho hl hc ht hr=>exact ⟨_,_,_,_,h,ho,hl,hc,ht,hr,rfl⟩
theorem slCI {cs:List IV} {len sz:Nat} {tight:Bool} (h:VR β W (.slC cs len sz tight) x):∃ k s cap' ad,(len≠0->Konst β W k)/\(∀ (j:Nat) (z:IV),cs[j]?=some z->∃ y,W.cell? ⟨k,s+j,none⟩=some y/\VR β W z y)/\cs.length=len*sz/\len<=cap' /\
  (tight=true->cap'=len)/\(len≠0->ad=⟨k,s,none⟩)/\x=.slice (some ad) len cap':=by
 cases h with | slC f hk hc hv hn hl ht ha=>exact ⟨_,_,_,_,hk,fun j z hz=>⟨f j,by rw [Nat.add_comm]; exact hc j z hz,hv j z hz⟩,hn,hl,ht,ha,rfl⟩
theorem nilmapI (h:VR β W .nilmap x):x=.map none:=by cases h; rfl
theorem mapMI {l i:Nat} (h:VR β W (.mapM l i) x):∃ k s,β l i=some (k,s)/\x=.map (some k):=by cases h with | mapM h=>exact ⟨_,_,h,rfl⟩
theorem fnI {f:FuncId} {c1 c2:List IV} (h:VR β W (.fn f c1 c2) x):∃ a b:Array Value,VRs β W c1 a.toList/\VRs β W c2 b.toList/\x=.func (.func f) a b:=by
 cases h with | fn n1 n2 h1 h2=>exact ⟨_,_,ZN n1 h1,ZN n2 h2,rfl⟩
theorem aggI {cs:List IV} (h:VR β W (.agg cs) x):∃ ws:Array Value,VRs β W cs ws.toList/\x=.agg ws:=by cases h with | agg n h=>exact ⟨_,ZN n h,rfl⟩
theorem tupleI {cs:List IV} (h:VR β W (.tuple cs) x):∃ ws:Array Value,VRs β W cs ws.toList/\x=.tuple ws:=by cases h with | tuple n h=>exact ⟨_,ZN n h,rfl⟩
theorem ZO {cs:List IV} {len sz:Nat} {tight:Bool} {k s cap':Nat} {ad:Addr} (hk:len≠0->Konst β W k) (hc:∀ (j:Nat) (z:IV),cs[j]?=some z->∃ y,W.cell? ⟨k,s+j,none⟩=some y/\VR β W z y) (hn:cs.length=len*sz) (hl:len<=cap') (ht:tight=true->cap'=len)
  (ha:len≠0->ad=⟨k,s,none⟩):VR β W (.slC cs len sz tight) (.slice (some ad) len cap'):=by
 refine .slC (fun j=>(W.cell? ⟨k,s+j,none⟩).getD undef) hk (fun j z hz=>?_) (fun j z hz=>?_) hn hl ht ha
 ·obtain ⟨y,hy,_⟩:=hc j z hz; rw [Nat.add_comm j s,hy]; rfl
 ·obtain ⟨y,hy,hv⟩:=hc j z hz; rw [hy]; exact hv
theorem slC_mk {cs:List IV} {len sz:Nat} {tight:Bool} {k s cap':Nat} (hk:len≠0->Konst β W k) (hc:∀ (j:Nat) (z:IV),cs[j]?=some z->∃ y,W.cell? ⟨k,s+j,none⟩=some y/\VR β W z y) (hn:cs.length=len*sz) (hl:len<=cap') (ht:tight=true->cap'=len) :
  VR β W (.slC cs len sz tight) (.slice (some ⟨k,s,none⟩) len cap'):=ZO hk hc hn hl ht fun _=>rfl
theorem ZP {cs:List IV} {off k s:Nat} (hk:Konst β W k) (hc:∀ (j:Nat) (z:IV),cs[j]?=some z->∃ y,W.cell? ⟨k,s+j,none⟩=some y/\VR β W z y):VR β W (.ptrC cs off) (.pointer (some ⟨k,off+s,none⟩)):=by
 refine .ptrC (fun j=>(W.cell? ⟨k,s+j,none⟩).getD undef) hk (fun j z hz=>?_) (fun j z hz=>?_)
 ·obtain ⟨y,hy,_⟩:=hc j z hz; rw [Nat.add_comm j s,hy]; rfl
 ·obtain ⟨y,hy,hv⟩:=hc j z hz; rw [hy]; exact hv
end
def PureOK (P:Program) (β:Pl) (W:World) (ev:Operand->Value) (o:Oper) (v:IV):Prop:=∃ x,(execOp ev o).run P W=.ok (.value x) W/\VR β W v x
section
variable {P:Program} {β:Pl} {W:World} {a:Act} {o:Oper} {t:List IV} {own own':yLO} {e:Eff} {v:IV}
theorem s_move {x:Operand} {y:Opd} (ho:o.op=.move x) (ht:TR β W t a.tmps) (hx:cOpd x=some y):PureOK P β W a.eval o (ρ t y) :=
 ⟨a.eval x,by simp [execOp,ho],ht.eval hx⟩
theorem s_assign {x:Operand} {y:Opd} (ho:o.op=.assign x) (ht:TR β W t a.tmps) (hx:cOpd x=some y):PureOK P β W a.eval o (ρ t y) :=
 ⟨a.eval x,by simp [execOp,ho],ht.eval hx⟩
theorem s_nilchk {x:Operand} {y:Opd} (ho:o.op=.nilCheck x) (ht:TR β W t a.tmps) (hx:cOpd x=some y) (he:e_nilchk own t y=some (e,v,own')):e=.p/\own'=own/\PureOK P β W a.eval o v:=by
 have hv:=ht.eval hx
 unfold e_nilchk at he
 split at he
 ·rename_i heq
  cases he
  rw [heq] at hv
  obtain ⟨k,s,_,hx'⟩:=YJ hv
  exact ⟨rfl,rfl,_,by simp [execOp,ho,hx'],hx' ▸ hv⟩
 ·rename_i heq
  cases he
  rw [heq] at hv
  obtain ⟨k,s,hx'⟩:=ptrCI hv
  exact ⟨rfl,rfl,_,by simp [execOp,ho,hx'],hx' ▸ hv⟩
 ·rename_i heq
  cases he
  rw [heq] at hv
  obtain ⟨_,_,_,_,hx'⟩:=fnI hv
  exact ⟨rfl,rfl,_,by simp [execOp,ho,hx'],hx' ▸ hv⟩
 ·simp at he
theorem s_pick {x y z:Operand} {x' y' z':Opd} (ho:o.op=.pick x y z) (ht:TR β W t a.tmps) (hx:cOpd x=some x') (hy:cOpd y=some y') (hz:cOpd z=some z')
  (he:e_pick own t x' y' z'=some (e,v,own')):e=.p/\own'=own/\PureOK P β W a.eval o v:=by
 have hv:=ht.eval hx
 unfold e_pick at he
 split at he
 ·rename_i heq
  cases he
  rw [heq] at hv
  exact ⟨rfl,rfl,a.eval y,by simp [execOp,ho,yZ hv,asBool],ht.eval hy⟩
 ·rename_i heq
  cases he
  rw [heq] at hv
  exact ⟨rfl,rfl,a.eval z,by simp [execOp,ho,yZ hv,asBool],ht.eval hz⟩
 ·simp at he
theorem ZQ {α:Type} {x:Option α} {f:α->IV} (h:(x.map fun z=>(Eff.p,f z,own))=some (e,v,own')):∃ z,x=some z/\e=.p/\v=f z/\own'=own:=by
 cases x with
 | none=>simp at h
 | some z=>simp at h; exact ⟨z,rfl,h.1.symm,h.2.1.symm,h.2.2.symm⟩
theorem Yx (op:BinOp) (ty:TypeId) (x y:Operand) (k k':IntKind) (m n:Int):(eqGuard op ty x y (.int k m) (.int k' n)).run P W=.ok () W:=by cases op <;> simp [eqGuard]
theorem Yy (op:BinOp) (ty:TypeId) (x y:Operand) (m n:ByteArray):(eqGuard op ty x y (.string m) (.string n)).run P W=.ok () W:=by cases op <;> simp [eqGuard]
theorem Yl (op:BinOp) (ty:TypeId) (x y:Operand) (m n:Bool):(eqGuard op ty x y (.bool m) (.bool n)).run P W=.ok () W:=by cases op <;> simp [eqGuard]
theorem Yz (op:BinOp) (ty:TypeId) (x y:Operand) (m n:Option Addr):(eqGuard op ty x y (.pointer m) (.pointer n)).run P W=.ok () W:=by cases op <;> simp [eqGuard]
theorem YL (op:BinOp) (ty:TypeId) (x y:Operand) (m n:Option Addr) (a1 a2 b1 b2:Nat):(eqGuard op ty x y (.slice m a1 a2) (.slice n b1 b2)).run P W=.ok () W:=by cases op <;> simp [eqGuard]
theorem bin_int {op:BinOp} {ty:TypeId} {k k':IntKind} {m n:Int} {v:IV} (h:binI op (.int k m) (.int k' n)=some v):∃ x,(binOp op ty (.int k m) (.int k' n)).run P W=.ok x W/\VR β W v x:=by
 unfold binI at h
 dsimp only at h
 cases hs:isShift op with
 | true =>
  rw [hs,if_pos rfl] at h
  unfold shiftI at h
  rw [zE] at h
  by_cases h0:n<0
  ·rw [if_pos h0] at h; simp at h
  ·rw [if_neg h0] at h
   cases op <;> simp only [isShift,zaz] at hs <;> (cases h; exact ⟨_,by simp [binOp,Op.shift,h0] <;> rfl,.int _ _⟩)
 | false =>
  rw [hs,if_neg (by simp)] at h
  by_cases hk:k=k'
  ·subst hk
   rw [if_pos rfl] at h
   unfold intBin at h
   simp only [zE] at h
   cases op <;> simp only [isShift,Bool.true_eq_false] at hs <;> dsimp only at h
   case quo =>
    by_cases h0:n=0
    ·rw [if_pos h0] at h; simp at h
    ·rw [if_neg h0] at h; cases h; exact ⟨_,by simp [binOp,Op.intDiv,h0] <;> rfl,.int _ _⟩
   case rem =>
    by_cases h0:n=0
    ·rw [if_pos h0] at h; simp at h
    ·rw [if_neg h0] at h; cases h; exact ⟨_,by simp [binOp,Op.intDiv,h0] <;> rfl,.int _ _⟩
   all_goals first
    | (cases h; exact ⟨_,by simp only [binOp,Op.intArith,Op.intBits,Op.intCmp,ne_eq,not_true_eq_false,if_false,zay] <;> rfl,by first | exact .int _ _ | exact .bool _⟩)
    | (simp at h)
  ·rw [if_neg hk] at h; simp at h
theorem bin_str {op:BinOp} {ty:TypeId} {m n:ByteArray} {v:IV} (h:binI op (.str m) (.str n)=some v):∃ x,(binOp op ty (.string m) (.string n)).run P W=.ok x W/\VR β W v x:=by
 unfold binI at h
 dsimp only at h
 unfold strBin at h
 cases op <;> dsimp only at h
 all_goals first
  | (cases h; exact ⟨_,by simp only [binOp,Op.stringOp,zay] <;> rfl,.bool _⟩)
  | (simp at h)
theorem s_bin {op:BinOp} {ty ty':TypeId} {x y:Operand} {x' y':Opd} (ho:o.op=.binOp op ty x y ty') (ht:TR β W t a.tmps) (hx:cOpd x=some x') (hy:cOpd y=some y') (he:((binI op (ρ t x') (ρ t y')).map fun v=>(Eff.p,v,own))=some (e,v,own')) :
  e=.p/\own'=own/\PureOK P β W a.eval o v:=by
 have hv:=ht.eval hx
 have hw:=ht.eval hy
 obtain ⟨z,hz,rfl,rfl,rfl⟩:=ZQ he
 refine ⟨rfl,rfl,?_⟩
 have hz0:=hz
 unfold binI at hz
 split at hz
 ·rename_i k m k' n h1 h2
  rw [h1] at hv hz0; rw [h2] at hw hz0
  obtain ⟨r,hr,hvr⟩:=bin_int (P:=P) (β:=β) (W:=W) (ty:=ty) hz0
  exact ⟨r,by simp [execOp,ho,ZB hv,ZB hw,Yx,hr],hvr⟩
 ·rename_i m n h1 h2
  rw [h1] at hv hz0; rw [h2] at hw hz0
  obtain ⟨r,hr,hvr⟩:=bin_str (P:=P) (β:=β) (W:=W) (ty:=ty) hz0
  exact ⟨r,by simp [execOp,ho,Yk hv,Yk hw,Yy,hr],hvr⟩
 ·simp at hz
theorem s_un {op:UnOp} {ty:TypeId} {x:Operand} {x':Opd} (ho:o.op=.unOp op ty x) (ht:TR β W t a.tmps) (hx:cOpd x=some x') (he:((unI op (ρ t x')).map fun v=>(Eff.p,v,own))=some (e,v,own')):e=.p/\own'=own/\PureOK P β W a.eval o v:=by
 have hv:=ht.eval hx
 obtain ⟨z,hz,rfl,rfl,rfl⟩:=ZQ he
 refine ⟨rfl,rfl,?_⟩
 unfold unI at hz
 split at hz
 ·rename_i h1
  cases hz
  rw [h1] at hv
  rw [zE]
  exact ⟨.int _ _,by simp [execOp,ho,ZB hv,Op.unary,Op.intArith],.int _ _⟩
 ·rename_i h1
  cases hz
  rw [h1] at hv
  exact ⟨.bool _,by simp [execOp,ho,yZ hv,Op.unary],.bool _⟩
 ·simp at hz
theorem s_conv {ts td:TypeId} {x:Operand} {x':Opd} {k0 k:IntKind} (ho:o.op=.convert ts td x) (hs:P.underlying ts=some (.int k0)) (hd:P.underlying td=some (.int k)) (ht:TR β W t a.tmps) (hx:cOpd x=some x') (he:e_conv own t k x'=some (e,v,own')) :
  e=.p/\own'=own/\PureOK P β W a.eval o v:=by
 have hv:=ht.eval hx
 unfold e_conv at he
 split at he
 ·rename_i h1
  cases he
  rw [h1] at hv
  rw [zE]
  exact ⟨rfl,rfl,.int _ _,by simp [execOp,ho,ZB hv,convert,run_underlying hs,run_underlying hd,Conv.intToInt],.int _ _⟩
 ·simp at he
theorem s_cstr {ts td:TypeId} {x:Operand} {x':Opd} (ho:o.op=.convert ts td x) (hs:P.underlying ts=some .string) (hd:P.underlying td=some .string) (ht:TR β W t a.tmps) (hx:cOpd x=some x') (he:e_cstr own t x'=some (e,v,own')) :
  e=.p/\own'=own/\PureOK P β W a.eval o v:=by
 have hv:=ht.eval hx
 unfold e_cstr at he
 split at he
 ·rename_i h1
  cases he
  rw [h1] at hv
  exact ⟨rfl,rfl,_,by simp only [execOp,ho,Yk hv,convert,zat,run_underlying hs,run_underlying hd,zan,zay] <;> rfl,.str _⟩
 ·simp at he
theorem YM {xs:List Operand} {ys:List Opd} (ht:TR β W t a.tmps) (h:allM cOpd xs=some ys):VRs β W (ys.map (ρ t)) (xs.map a.eval):=by
 obtain ⟨h1,h2⟩:=yY h
 refine ⟨by simp [h1],fun j x y hx hy=>?_⟩
 simp only [zbs,Option.map_eq_some_iff] at hx hy
 obtain ⟨y0,hy0,rfl⟩:=hx
 obtain ⟨x0,hx0,rfl⟩:=hy
 obtain ⟨y1,hy1,hc⟩:=h2 j x0 hx0
 rw [hy0] at hy1; cases hy1
 exact ht.eval hc
theorem s_mkfn {f:FuncId} {xs ys:Array Operand} {xs' ys':List Opd} (ho:o.op=.makeFunc (.func f) xs ys) (ht:TR β W t a.tmps) (hx:allM cOpd xs.toList=some xs') (hy:allM cOpd ys.toList=some ys'):PureOK P β W a.eval o (.fn f (xs'.map (ρ t)) (ys'.map (ρ t))):=by
 have h1:=YM ht hx
 have h2:=YM ht hy
 refine ⟨.func (.func f) (xs.map a.eval) (ys.map a.eval),by simp [execOp,ho,Instr.makeFunc],.fn (by have:=h1.1; simpa using this) (by have:=h2.1; simpa using this) (fun j x y hx hy=>h1.2 j x y hx ?_) (fun j x y hx hy=>h2.2 j x y hx ?_)⟩
 ·rw [← za2] at hy; simpa using hy
 ·rw [← za2] at hy; simpa using hy
end
end
section
section
variable {P:Program} {β:Pl} {W:World} {a:Act} {o:Oper} {t:List IV} {own own':yLO} {e:Eff} {v:IV}
theorem fold_sim (off:Nat):∀ {xs:List IV} {ys:List Value} (k:Nat) {c:List IV} {cs:Array Value},VRs β W xs ys->VRs β W c cs.toList ->
  VRs β W (wrN c (off+k) xs) ((ys.zipIdx k).foldl (fun (cs:Array Value) (p:Value × Nat)=>cs.setIfInBounds (off+p.2) p.1) cs).toList
 | [],ys,k,c,cs,h,hc=>by
  cases ys with
  | nil=>exact hc
  | cons _ _=>exact absurd h.1 (by simp)
 | x::xs,ys,k,c,cs,h,hc=>by
  cases ys with
  | nil=>exact absurd h.1 (by simp)
  | cons y ys =>
   have hxy:=h.2 0 x y rfl rfl
   have hs:VRs β W xs ys:=⟨by have:=h.1; simpa using this,fun j a b ha hb=>h.2 (j+1) a b (by simpa using ha) (by simpa using hb)⟩
   simp only [wrN,List.zipIdx_cons,List.foldl_cons]
   exact fold_sim off (k+1) hs (by rw [Array.toList_setIfInBounds]; exact VRs.set hc hxy _)
theorem wr_sim {xs:List IV} {ys:Array Value} {c:List IV} {cs:Array Value} {off:Nat} (h:VRs β W xs ys.toList) (hc:VRs β W c cs.toList) :
  VRs β W (wrN c off xs) (ys.zipIdx.foldl (fun (cs:Array Value) (p:Value × Nat)=>cs.setIfInBounds (off+p.2) p.1) cs).toList:=by
 have:=fold_sim off 0 h hc
 rw [← Array.foldl_toList,Array.toList_zipIdx]
 simpa using this
theorem Zo (g:Nat->Option (Nat × Nat)):∀ {parts:List (Nat × Operand)} {ps:List (Nat × Nat × Opd)} {c c':List IV} {cs:Array Value},TR β W t a.tmps->cParts g parts=some ps->VRs β W c cs.toList->fillI t c ps=some c' ->
  ∃ cs',Instr.fill g cs (parts.map fun p=>(p.1,a.eval p.2))=some cs'/\VRs β W c' cs'.toList
 | [],ps,c,c',cs,ht,hp,hc,hf=>by
  simp only [cParts,zao] at hp
  subst hp
  simp only [fillI,zao] at hf
  subst hf
  exact ⟨cs,rfl,hc⟩
 | (i,x)::rest,ps,c,c',cs,ht,hp,hc,hf=>by
  simp only [cParts] at hp
  split at hp
  ·rename_i off n y ys h1 h2 h3
   cases hp
   simp only [fillI,zf] at hf
   split at hf
   ·rename_i hlen
    have hv:=zA (ht.eval h2)
    have hsz:(a.eval x).cells.size=n:=by have:=hv.1; simp at this; omega
    have hcs:cs.size=c.length:=by have:=hc.1; simp at this; omega
    obtain ⟨cs',e1,e2⟩:=Zo g ht h3 (wr_sim (off:=off) hv hc) hf
    refine ⟨cs',?_,e2⟩
    simp only [List.map_cons,Instr.fill,h1]
    rw [if_neg (by simp [hsz,hcs]; omega)]
    exact e1
   ·simp at hf
  ·simp at hp
theorem z8 {ty:TypeId} {z:IV} (h:zeroT P ty=some z):∃ i zv,P.info? ty=some i/\i.zero=some zv/\VR β W z zv:=by
 unfold zeroT at h
 split at h
 ·rename_i i hi
  split at h
  ·rename_i zv hz
   exact ⟨i,zv,hi,hz,vr_toI h⟩
  ·simp at h
 ·simp at h
theorem zZ {ty:TypeId} {n:Nat} (h:sizeT P ty=some n):∃ i,P.info? ty=some i/\i.size=n:=by
 unfold sizeT at h
 cases hi:P.info? ty with
 | none=>rw [hi] at h; simp at h
 | some i=>rw [hi] at h; exact ⟨i,rfl,by simpa using h⟩
theorem places_eq:∀ {fs:List Field},fs.all (fun f=>(sizeT P f.type).isSome)=true->fs.mapM (fun f=>(P.info? f.type).map fun i=>(f.offset,i.size))=some (fs.map fun f=>(f.offset,(sizeT P f.type).getD 0))
 | [],_=>rfl
 | f::fs,h=>by
  simp only [List.all_cons,za3] at h
  obtain ⟨n,hn⟩:=Option.isSome_iff_exists.1 h.1
  obtain ⟨i,hi,hs⟩:=zZ hn
  simp only [List.mapM_cons,hi,za5,Option.pure_def,Option.bind_eq_bind,za7,places_eq h.2,List.map_cons,hn,hs,zba]
theorem YN {ty:TypeId} {parts:Array (Nat × Operand)} {fs:Array Field} {z:IV} {ps:List (Nat × Nat × Opd)} (ho:o.op=.build ty parts) (hu:P.underlying ty=some (.struct fs)) (hz:zeroT P ty=some z)
  (hall:fs.toList.all (fun f=>(sizeT P f.type).isSome)=true) (hp:cParts (fun i=>match fs[i]? with | some f=>(sizeT P f.type).map (f.offset,·) | none=>none) parts.toList=some ps) (ht:TR β W t a.tmps)
  (he:((fillI t z.cells ps).map fun c=>(Eff.p,IV.agg c,own))=some (e,v,own')):e=.p/\own'=own/\PureOK P β W a.eval o v:=by
 obtain ⟨c',hc',rfl,rfl,rfl⟩:=ZQ he
 refine ⟨rfl,rfl,?_⟩
 obtain ⟨i,zv,hi,hzv,hv⟩:=z8 (β:=β) (W:=W) hz
 obtain ⟨cs',e1,e2⟩:=Zo _ ht hp (zA hv) hc'
 refine ⟨.agg cs',?_,YG e2⟩
 have hb:P.built ty (parts.map fun p=>(p.1,a.eval p.2)).toList=some cs':=by
  unfold Program.built
  simp only [hi,hu,hzv,places_eq hall]
  rw [← e1,Array.toList_map]
  congr 1
  funext i
  simp only [List.getElem?_toArray,zbs]
  cases hf:fs[i]? with
  | none=>rw [za2,hf]; rfl
  | some f =>
   have hm:f∈fs.toList:=by simpa using Array.mem_of_getElem? hf
   obtain ⟨n,hn⟩:=Option.isSome_iff_exists.1 (zbu.1 hall f hm)
   rw [za2,hf]
   simp [hn]
 have:=run_build (P:=P) W ty (parts.map fun p=>(p.1,a.eval p.2)) cs' hb
 simp only [execOp,ho,zat]
 rw [this]
 rfl
theorem s_build_array {ty el:TypeId} {len n:Nat} {parts:Array (Nat × Operand)} {z:IV} {ps:List (Nat × Nat × Opd)} (ho:o.op=.build ty parts) (hu:P.underlying ty=some (.array len el)) (hz:zeroT P ty=some z) (hn:sizeT P el=some n)
  (hp:cParts (fun i=>some (i*n,n)) parts.toList=some ps) (ht:TR β W t a.tmps)
  (he:((fillI t z.cells ps).map fun c=>(Eff.p,IV.agg c,own))=some (e,v,own')):e=.p/\own'=own/\PureOK P β W a.eval o v:=by
 obtain ⟨c',hc',rfl,rfl,rfl⟩:=ZQ he
 refine ⟨rfl,rfl,?_⟩
 obtain ⟨i,zv,hi,hzv,hv⟩:=z8 (β:=β) (W:=W) hz
 obtain ⟨ie,hie,hs⟩:=zZ hn
 obtain ⟨cs',e1,e2⟩:=Zo _ ht hp (zA hv) hc'
 refine ⟨.agg cs',?_,YG e2⟩
 have hb:P.built ty (parts.map fun p=>(p.1,a.eval p.2)).toList=some cs':=by
  unfold Program.built
  simp only [hi,hu,hzv,hie,hs]
  rw [← e1,Array.toList_map]
 have:=run_build (P:=P) W ty (parts.map fun p=>(p.1,a.eval p.2)) cs' hb
 simp only [execOp,ho,zat]
 rw [this]
 rfl
theorem yu (z:List IV):∀ n,(rep z n).length=n*z.length
 | 0=>by simp [rep]
 | n+1=>by simp only [rep,zaw,yu z n,Nat.add_mul,Nat.one_mul]; omega
theorem rep_get (z:List IV) (hz:0<z.length):∀ (n j:Nat),j<n*z.length->(rep z n)[j]?=z[j % z.length]?
 | 0,j,h=>absurd h (by simp)
 | n+1,j,h=>by
  simp only [rep]
  by_cases hj:j<z.length
  ·rw [zar hj,Nat.mod_eq_of_lt hj]
  ·rw [zas (Nat.le_of_not_lt hj),rep_get z hz n (j - z.length) (by rw [Nat.add_mul,Nat.one_mul] at h; omega)]
   congr 1
   conv=>rhs; rw [show j=j - z.length+z.length by omega,Nat.add_mod_right]
theorem ZR {z:List IV} {zs:Array Value} (h:VRs β W z zs.toList) (hz:0<z.length) (n:Nat):VRs β W (rep z n) ((Array.range (n*z.length)).map (zs[· % zs.size]!)).toList:=by
 have hl:zs.size=z.length:=by have:=h.1; simp at this; omega
 refine ⟨by simp [yu],fun j x y hx hy=>?_⟩
 have hj:j<n*z.length:=by have:=(zal.1 hx).1; rwa [yu] at this
 rw [rep_get z hz n j hj] at hx
 simp only [Array.toList_map,Array.toList_range,zbs,List.getElem?_range hj,za5,zao] at hy
 have hm:j % z.length<zs.size:=by rw [hl]; exact Nat.mod_lt _ hz
 refine h.2 _ x y hx ?_
 rw [← hy,hl,za2,getElem!_pos zs _ hm]
 simp [hm]
end
end
section
def NX (β:Pl) (W:World) (v:IV):Next->Prop
 | .value x=>VR β W v x
 | .skip=>v=.tuple []
 | _=>False
def StepOK (P:Program) (d:Nat) (out:yLM) (β:Pl) (W:World) (ev:Operand->Value) (o:Oper) (v:IV) (own':yLO):Prop :=
 ∃ nx β' W',(execOp ev o).run P W=.ok nx W'/\NX β' W' v nx/\RS β' (look d out own') W'/\Fr d β W β' W'
section
variable {P:Program} {d:Nat} {out:yLM} {β:Pl} {W:World} {a:Act} {o:Oper} {t:List IV} {own own':yLO} {e:Eff} {v:IV}
theorem PureOK.step (h:PureOK P β W a.eval o v) (hR:RS β (look d out own) W):StepOK P d out β W a.eval o v own :=
 let ⟨x,h1,h2⟩:=h; ⟨.value x,β,W,h1,h2,hR,Fr.refl _ _ _⟩
theorem rs_alloc (hR:RS β (look d out own) W) (O:Obj):RS β (look d out own) (W.alloc O)/\Fr d β W β (W.alloc O) :=
 ⟨hR.old (fun k hk=>Below.heap_alloc W O k hk) (by simp),⟨fun _ _ _ h=>h,fun _ _ _ _ h=>.inl h,fun k hk _=>Below.heap_alloc W O k hk,by simp,fun k c t f hc=>⟨c,(Below.heap_alloc W O k (za6.1 hc).1).trans hc,rfl⟩,rfl,rfl,rfl⟩⟩
theorem yL (W:World) (O:Obj):(W.alloc O).heap[W.heap.size]?=some O:=by
 show (W.heap.push O)[W.heap.size]?=some O
 simp
theorem cell_new (W:World) (cs:Array Value) (ty:TypeId) (j:Nat):(W.alloc (.cells cs ty)).cell? ⟨W.heap.size,j,none⟩=cs[j]?:=by
 unfold World.cell?
 rw [yL]
 rfl
theorem s_bslice {ty el:TypeId} {len n:Nat} {parts:Array (Nat × Operand)} {z:IV} {ps:List (Nat × Nat × Opd)} (ho:o.op=.buildSlice ty len parts) (hu:P.underlying ty=some (.slice el)) (hz:zeroT P el=some z) (hn:sizeT P el=some n)
  (h24:len*n<=2 ^ 24) (hzl:z.cells.length=n) (hn0:0<n) (hp:cParts (fun i=>some (i*n,n)) parts.toList=some ps) (ht:TR β W t a.tmps) (hR:RS β (look d out own) W)
  (he:((fillI t (rep z.cells len) ps).map fun c=>(Eff.p,IV.slC c len n true,own))=some (e,v,own')):e=.p/\own'=own/\StepOK P d out β W a.eval o v own:=by
 obtain ⟨c',hc',rfl,rfl,rfl⟩:=ZQ he
 refine ⟨rfl,rfl,?_⟩
 obtain ⟨i,zv,hi,hzv,hv⟩:=z8 (β:=β) (W:=W) hz
 obtain ⟨ie,hie,hs⟩:=zZ hn
 obtain rfl:i=ie:=by rw [hi] at hie; exact zbh hie
 have hv':=zA hv
 have hlen:zv.cells.size=n:=by have:=hv'.1; simp at this; omega
 have e0:VRs β W (rep z.cells len) (if len*n=0 then (#[]:Array Value) else (Array.range (len*n)).map (zv.cells[· % zv.cells.size]!)).toList:=by
  by_cases h0:len*n=0
  ·have hl0:len=0:=by rcases Nat.mul_eq_zero.1 h0 with h | h <;> omega
   subst hl0
   simp [rep]; exact .nil
  ·rw [if_neg h0]
   have:=ZR (β:=β) (W:=W) hv' (by omega) len
   rw [hzl] at this; exact this
 obtain ⟨cs',e1,e2⟩:=Zo _ ht hp e0 hc'
 obtain ⟨hR',hF⟩:=rs_alloc hR (.cells cs' el)
 refine ⟨.value (.slice (some ⟨W.heap.size,0,none⟩) len len),β,W.alloc (.cells cs' el),?_,?_,hR',hF⟩
 ·have hfill:Instr.fill (fun i=>some (i*n,n)) ((Array.range (len*n)).map (((if len*n=0 then (#[]:Array Value) else zv.cells))[· % ((if len*n=0 then (#[]:Array Value) else zv.cells)).size]!)) (parts.map fun p=>(p.1,a.eval p.2)).toList=some cs':=by
   rw [← e1,Array.toList_map]
   congr 1
   by_cases h0:len*n=0
   ·rw [h0]; simp
   ·simp only [if_neg h0]
  simp only [execOp,ho,zat,Instr.buildSlice,run_underlying hu,zan,zJ hn]
  rw [if_neg (by omega)]
  by_cases h0:len*n=0
  ·rw [if_pos h0] at hfill
   simp only [h0,if_true,zat,zay,zan]
   rw [h0] at hfill
   rw [hfill]
   simp [newRow,run_newObj]
  ·rw [if_neg h0] at hfill
   rw [if_neg h0]
   simp only [zeroValue,typeInfo,zat,run_program,zan,hie,hzv,zay]
   rw [hfill]
   simp [newRow,run_newObj]
 ·have hlc:c'.length=cs'.size:=by have:=e2.1; simpa using this
  have hlr:∀ {c c'':List IV} {ps},fillI t c ps=some c''->c''.length=c.length:=by
   intro c c'' ps
   induction ps generalizing c with
   | nil=>intro h; simp only [fillI,zao] at h; rw [h]
   | cons p ps ih =>
    obtain ⟨off,m,x⟩:=p
    intro h
    simp only [fillI,zf] at h
    split at h
    ·rw [ih h]
     have:∀ (xs:List IV) (c:List IV) (off:Nat),(wrN c off xs).length=c.length:=by
      intro xs
      induction xs with
      | nil=>intro c off; rfl
      | cons x xs ih2=>intro c off; simp only [wrN]; rw [ih2]; simp
     exact this _ _ _
    ·simp at h
  refine slC_mk (fun hne=>⟨by simp,fun l i s hb=>?_⟩) (fun j zz hj=>?_) (by rw [hlr hc',yu,hzl]) (zaq _) (fun _=>rfl)
  ·have:=hR.here _ _ _ _ hb; omega
  ·obtain ⟨y,hy,hvy⟩:=e2.get hj
   refine ⟨y,?_,hvy.ext hF.ext⟩
   rw [zap,cell_new]
   simpa using hy
theorem s_eqb {op:BinOp} {neg:Bool} {ty ty':TypeId} {x y:Operand} {x' y':Opd} (ho:o.op=.binOp op ty x y ty') (hop:op=if neg then .neq else .eql) (hu:P.underlying ty=some .bool) (ht:TR β W t a.tmps) (hx:cOpd x=some x') (hy:cOpd y=some y')
  (he:((eqbI (ρ t x') (ρ t y')).map fun v=>(Eff.p,IV.bool (neg != v),own))=some (e,v,own')):e=.p/\own'=own/\PureOK P β W a.eval o v:=by
 have hv:=ht.eval hx
 have hw:=ht.eval hy
 obtain ⟨z,hz,rfl,rfl,rfl⟩:=ZQ he
 refine ⟨rfl,rfl,?_⟩
 unfold eqbI at hz
 split at hz
 ·rename_i m n h1 h2
  rw [h1] at hv; rw [h2] at hw
  cases hz
  cases neg <;> (subst hop; exact ⟨_,by simp [execOp,ho,yZ hv,yZ hw,Yl,run_eql_bool W ty m n hu,run_neq_bool W ty m n hu] <;> rfl,.bool _⟩)
 ·simp at hz
theorem run_equal_ptr {ty el:TypeId} (hu:P.underlying ty=some (.pointer el)) (p q:Option Addr) (h:p=none∨q=none):(Op.equal ty (.pointer p) (.pointer q)).run P W=.ok (p.isNone&&q.isNone) W:=by
 show (Op.equalIn (9999+1) ty (.pointer p) (.pointer q)).run P W=_
 rw [Op.equalIn]
 simp only [zat,run_underlying hu,zan]
 rcases h with rfl | rfl
 ·cases q <;> rfl
 ·cases p <;> rfl
theorem run_equal_sl {ty el:TypeId} (hu:P.underlying ty=some (.slice el)) (p q:Option Addr) (n c n' c':Nat) (h:p=none∨q=none):(Op.equal ty (.slice p n c) (.slice q n' c')).run P W=.ok (p.isNone&&q.isNone) W:=by
 show (Op.equalIn (9999+1) ty (.slice p n c) (.slice q n' c')).run P W=_
 rw [Op.equalIn]
 simp only [zat,run_underlying hu,zan]
 rcases h with rfl | rfl
 ·cases q <;> rfl
 ·cases p <;> rfl
theorem bin_ptr {op:BinOp} {neg:Bool} (hop:op=if neg then .neq else .eql) {ty el:TypeId} (hu:P.underlying ty=some (.pointer el)) (p q:Option Addr) (h:p=none∨q=none) :
  (binOp op ty (.pointer p) (.pointer q)).run P W=.ok (.bool (neg != (p.isNone&&q.isNone))) W:=by
 have:=run_equal_ptr (P:=P) (W:=W) hu p q h
 cases neg
 ·subst hop
  show (do pure (.bool (← Op.equal ty (.pointer p) (.pointer q))):Sem Value).run P W=_
  simp only [zat,this,zan,zay,Bool.false_bne]
 ·subst hop
  show (do pure (.bool (!(← Op.equal ty (.pointer p) (.pointer q)))):Sem Value).run P W=_
  simp only [zat,this,zan,zay,Bool.true_bne]
theorem bin_sl {op:BinOp} {neg:Bool} (hop:op=if neg then .neq else .eql) {ty el:TypeId} (hu:P.underlying ty=some (.slice el)) (p q:Option Addr) (n c n' c':Nat) (h:p=none∨q=none) :
  (binOp op ty (.slice p n c) (.slice q n' c')).run P W=.ok (.bool (neg != (p.isNone&&q.isNone))) W:=by
 have:=run_equal_sl (P:=P) (W:=W) hu p q n c n' c' h
 cases neg
 ·subst hop
  show (do pure (.bool (← Op.equal ty (.slice p n c) (.slice q n' c'))):Sem Value).run P W=_
  simp only [zat,this,zan,zay,Bool.false_bne]
 ·subst hop
  show (do pure (.bool (!(← Op.equal ty (.slice p n c) (.slice q n' c')))):Sem Value).run P W=_
  simp only [zat,this,zan,zay,Bool.true_bne]
theorem s_eqp {op:BinOp} {neg:Bool} {ty ty' el:TypeId} {x y:Operand} {x' y':Opd} (ho:o.op=.binOp op ty x y ty') (hop:op=if neg then .neq else .eql) (hu:P.underlying ty=some (.pointer el)) (ht:TR β W t a.tmps) (hx:cOpd x=some x') (hy:cOpd y=some y')
  (he:((eqpI (ρ t x') (ρ t y')).map fun v=>(Eff.p,IV.bool (neg != v),own))=some (e,v,own')):e=.p/\own'=own/\PureOK P β W a.eval o v:=by
 have hv:=ht.eval hx
 have hw:=ht.eval hy
 obtain ⟨z,hz,rfl,rfl,rfl⟩:=ZQ he
 refine ⟨rfl,rfl,?_⟩
 have key:∃ p q:Option Addr,a.eval x=.pointer p/\a.eval y=.pointer q/\(p=none∨q=none)/\z=(p.isNone&&q.isNone):=by
  unfold eqpI at hz
  split at hz
  ·rename_i h1 h2
   rw [h1] at hv; rw [h2] at hw; cases hz
   exact ⟨none,none,Zb hv,Zb hw,.inl rfl,rfl⟩
  ·rename_i h1 h2
   rw [h1] at hv; rw [h2] at hw; cases hz
   obtain ⟨k,s,_,hq⟩:=YJ hw
   exact ⟨none,_,Zb hv,hq,.inl rfl,rfl⟩
  ·rename_i h1 h2
   rw [h1] at hv; rw [h2] at hw; cases hz
   obtain ⟨k,s,hq⟩:=ptrCI hw
   exact ⟨none,_,Zb hv,hq,.inl rfl,rfl⟩
  ·rename_i h1 h2
   rw [h1] at hv; rw [h2] at hw; cases hz
   obtain ⟨k,s,_,hq⟩:=YJ hv
   exact ⟨_,none,hq,Zb hw,.inr rfl,rfl⟩
  ·rename_i h1 h2
   rw [h1] at hv; rw [h2] at hw; cases hz
   obtain ⟨k,s,hq⟩:=ptrCI hv
   exact ⟨_,none,hq,Zb hw,.inr rfl,rfl⟩
  ·simp at hz
 obtain ⟨p,q,e1,e2,h,rfl⟩:=key
 exact ⟨_,by simp only [execOp,ho,e1,e2,zat,Yz,zan,bin_ptr hop hu p q h,zay] <;> rfl,.bool _⟩
theorem s_eqs {op:BinOp} {neg:Bool} {ty ty' el:TypeId} {x y:Operand} {x' y':Opd} (ho:o.op=.binOp op ty x y ty') (hop:op=if neg then .neq else .eql) (hu:P.underlying ty=some (.slice el)) (ht:TR β W t a.tmps) (hx:cOpd x=some x') (hy:cOpd y=some y')
  (he:((eqsI (ρ t x') (ρ t y')).map fun v=>(Eff.p,IV.bool (neg != v),own))=some (e,v,own')):e=.p/\own'=own/\PureOK P β W a.eval o v:=by
 have hv:=ht.eval hx
 have hw:=ht.eval hy
 obtain ⟨z,hz,rfl,rfl,rfl⟩:=ZQ he
 refine ⟨rfl,rfl,?_⟩
 have key:∃ (p q:Option Addr) (n c n' c':Nat),a.eval x=.slice p n c/\a.eval y=.slice q n' c'/\(p=none∨q=none)/\z=(p.isNone&&q.isNone):=by
  unfold eqsI at hz
  split at hz
  ·rename_i h1 h2
   rw [h1] at hv; rw [h2] at hw; cases hz
   exact ⟨none,none,_,_,_,_,yb hv,yb hw,.inl rfl,rfl⟩
  ·rename_i h1 h2
   rw [h1] at hv; rw [h2] at hw; cases hz
   obtain ⟨_,_,_,_,_,_,_,_,_,hq⟩:=slMI hw
   exact ⟨none,_,_,_,_,_,yb hv,hq,.inl rfl,rfl⟩
  ·rename_i h1 h2
   rw [h1] at hv; rw [h2] at hw; cases hz
   obtain ⟨_,_,_,_,_,_,_,_,_,_,hq⟩:=slCI hw
   exact ⟨none,_,_,_,_,_,yb hv,hq,.inl rfl,rfl⟩
  ·rename_i h1 h2
   rw [h1] at hv; rw [h2] at hw; cases hz
   obtain ⟨_,_,_,_,_,_,_,_,_,hq⟩:=slMI hv
   exact ⟨_,none,_,_,_,_,hq,yb hw,.inr rfl,rfl⟩
  ·rename_i h1 h2
   rw [h1] at hv; rw [h2] at hw; cases hz
   obtain ⟨_,_,_,_,_,_,_,_,_,_,hq⟩:=slCI hv
   exact ⟨_,none,_,_,_,_,hq,yb hw,.inr rfl,rfl⟩
  ·simp at hz
 obtain ⟨p,q,n,c,n',c',e1,e2,h,rfl⟩:=key
 exact ⟨_,by simp only [execOp,ho,e1,e2,zat,YL,zan,bin_sl hop hu p q n c n' c' h,zay] <;> rfl,.bool _⟩
end
end
section
section
variable {P:Program} {d:Nat} {out:yLM} {β:Pl} {W:World} {a:Act} {o:Oper} {t:List IV} {own own':yLO} {e:Eff} {v:IV}
theorem s_faddr {s:TypeId} {fs:Array Field} {fd:Field} {f n:Nat} {x:Operand} {x':Opd} (ho:o.op=.fieldAddr s x f) (hu:P.underlying s=some (.struct fs)) (hf:fs[f]?=some fd) (hn:sizeT P fd.type=some n) (hn0:n≠0) (ht:TR β W t a.tmps) (hx:cOpd x=some x')
  (he:e_faddr own t fd.offset x'=some (e,v,own')):e=.p/\own'=own/\PureOK P β W a.eval o v:=by
 have hv:=ht.eval hx
 have run:∀ k s',(Instr.fieldAt s (.pointer (some ⟨k,s',none⟩)) f).run P W=.ok (.pointer (some ⟨k,s'+fd.offset,none⟩)) W:=fun k s'=>by
  simp only [Instr.fieldAt,zat,run_underlying hu,zan,hf,Instr.sureAddr,zay,fieldPlace,zJ hn]
  rw [if_neg hn0]
  simp only [zay,zan]
  rw [yD rfl]
 unfold e_faddr at he
 split at he
 ·rename_i l i off h1
  cases he
  rw [h1] at hv
  obtain ⟨k,s',hb,hq⟩:=YJ hv
  refine ⟨rfl,rfl,_,?_,.ptrM hb⟩
  simp only [execOp,ho,hq,zat,run,zan,zay]
  congr 4
  simp only [Addr.mk.injEq,and_true,true_and]; omega
 ·rename_i cs off h1
  cases he
  rw [h1] at hv
  obtain ⟨k,s',hk,hc,hq⟩:=ptrCI2 hv
  refine ⟨rfl,rfl,_,?_,ZP (s:=s') hk hc⟩
  simp only [execOp,ho,hq,zat,run,zan,zay]
  congr 4
  simp only [Addr.mk.injEq,and_true,true_and]; omega
 ·simp at he
theorem zU {x:Operand} {x':Opd} {j:Nat} (ht:TR β W t a.tmps) (hx:cOpd x=some x') (h:natI (ρ t x')=some j):∃ k:IntKind,∃ n:Int,a.eval x=.int k n/\0<=n/\n.toNat=j:=by
 have hv:=ht.eval hx
 unfold natI at h
 split at h
 ·rename_i k n h1
  split at h
  ·rename_i h0
   rw [h1] at hv
   exact ⟨k,n,ZB hv,h0,by simpa using h⟩
  ·simp at h
 ·simp at h
theorem s_iaddr {ty el:TypeId} {n:Nat} {x ix:Operand} {x' ix':Opd} (ho:o.op=.indexAddr ty x ix) (hu:P.underlying ty=some (.slice el)) (hn:sizeT P el=some n) (ht:TR β W t a.tmps) (hx:cOpd x=some x') (hix:cOpd ix=some ix')
  (he:e_iaddr own t n x' ix'=some (e,v,own')):e=.p/\own'=own/\PureOK P β W a.eval o v:=by
 have hv:=ht.eval hx
 unfold e_iaddr at he
 have run:∀ (b:Addr) (len cap:Nat) (k:IntKind) (i:Int),0<=i->i.toNat<len->b.spot=none->(Instr.indexAt ty (.slice (some b) len cap) (.int k i)).run P W=.ok (.pointer (some ⟨b.block,b.off+i.toNat*n,none⟩)) W:=fun b len cap k i h0 h1 hb=>by
  simp only [Instr.indexAt,asIntOf,zat,zay,zan,run_underlying hu]
  rw [if_pos ⟨h0,by omega⟩]
  simp only [zat,zJ hn,zan,zay]
  rw [yD hb]
 split at he
 ·rename_i l i off len cap sz tight j h1 h2
  obtain ⟨k,m,hq,h0,rfl⟩:=zU ht hix h2
  split at he
  ·rename_i hlt
   cases he
   rw [h1] at hv
   obtain ⟨kb,s,o',cap',hb,hoff,hl,hc,htt,hx2⟩:=slMI hv
   obtain rfl:o'=off+s:=hoff.resolve_left (by omega)
   refine ⟨rfl,rfl,_,?_,.ptrM hb⟩
   simp only [execOp,ho,hx2,hq,zat,run _ _ _ _ _ h0 hlt,zan,zay]
   congr 4
   simp only [Addr.mk.injEq,and_true,true_and]; omega
  ·simp at he
 ·rename_i cs len sz tight j h1 h2
  obtain ⟨k,m,hq,h0,rfl⟩:=zU ht hix h2
  split at he
  ·rename_i hlt
   cases he
   rw [h1] at hv
   obtain ⟨kb,s,cap',ad,hk,hc,hnn,hl,htt,hadd,hx2⟩:=slCI hv
   obtain rfl:=hadd (by omega)
   refine ⟨rfl,rfl,_,?_,ZP (s:=s) (hk (by omega)) hc⟩
   simp only [execOp,ho,hx2,hq,zat,run _ _ _ _ _ h0 hlt,zan,zay]
   congr 4
   simp only [Addr.mk.injEq,and_true,true_and]; omega
  ·simp at he
 ·simp at he
theorem s_iaddrA {ty el:TypeId} {n len:Nat} {x ix:Operand} {x' ix':Opd} (ho:o.op=.indexAddr ty x ix) (hu:P.underlying ty=some (.array len el)) (hn:sizeT P el=some n) (ht:TR β W t a.tmps) (hx:cOpd x=some x') (hix:cOpd ix=some ix')
  (he:e_iaddrA own t n len x' ix'=some (e,v,own')):e=.p/\own'=own/\PureOK P β W a.eval o v:=by
 have hv:=ht.eval hx
 unfold e_iaddrA at he
 have run:∀ (b:Addr) (k:IntKind) (i:Int),0<=i->i.toNat<len->b.spot=none->(Instr.indexAt ty (.pointer (some b)) (.int k i)).run P W=.ok (.pointer (some ⟨b.block,b.off+i.toNat*n,none⟩)) W:=fun b k i h0 h1 hb=>by
  simp only [Instr.indexAt,asIntOf,zat,zay,zan,run_underlying hu,Instr.sureAddr]
  rw [if_pos ⟨h0,by omega⟩]
  simp only [zat,zJ hn,zan,zay]
  rw [yD hb]
 split at he
 ·rename_i l i off j h1 h2
  obtain ⟨k,m,hq,h0,rfl⟩:=zU ht hix h2
  split at he
  ·rename_i hlt
   cases he
   rw [h1] at hv
   obtain ⟨kb,s,hb,hx2⟩:=YJ hv
   refine ⟨rfl,rfl,_,?_,.ptrM hb⟩
   simp only [execOp,ho,hx2,hq,zat,run _ _ _ h0 hlt,zan,zay]
   congr 4
   simp only [Addr.mk.injEq,and_true,true_and]; omega
  ·simp at he
 ·rename_i cs off j h1 h2
  obtain ⟨k,m,hq,h0,rfl⟩:=zU ht hix h2
  split at he
  ·rename_i hlt
   cases he
   rw [h1] at hv
   obtain ⟨kb,s,hk,hc,hx2⟩:=ptrCI2 hv
   refine ⟨rfl,rfl,_,?_,ZP (s:=s) hk hc⟩
   simp only [execOp,ho,hx2,hq,zat,run _ _ _ h0 hlt,zan,zay]
   congr 4
   simp only [Addr.mk.injEq,and_true,true_and]; omega
  ·simp at he
 ·simp at he
theorem part_sim {ty:TypeId} {agg:Bool} {n off:Nat} {cs:List IV} {ws:Array Value} (hl:loadT P ty=some (agg,n)) (h:VRs β W cs ws.toList) (hr:(rdN cs off n).bind (mkv agg)=some v):∃ x,(part ty ws off).run P W=.ok x W/\VR β W v x:=by
 unfold loadT at hl
 cases hu:P.underlying ty with
 | none=>rw [hu] at hl; simp at hl
 | some u =>
  cases hs:sizeT P ty with
  | none=>rw [hu,hs] at hl; simp at hl
  | some n0 =>
   rw [hu,hs] at hl
   dsimp only at hl
   cases hx:rdN cs off n with
   | none=>rw [hx] at hr; simp at hr
   | some xs =>
    rw [hx] at hr
    simp only [za7] at hr
    obtain ⟨h1,h2⟩:=YH hx
    cases ha:aggD u with
    | true =>
     rw [ha] at hl
     simp only [if_true,zao,Prod.mk.injEq] at hl
     obtain ⟨rfl,rfl⟩:=hl
     rw [mkv_true hr]
     refine ⟨.agg (ws.extract off (off+n0)),by simp [part,yp hu,ha,zJ hs],?_⟩
     have hlen:n0≠0->off+n0<=cs.length:=fun h0=>by
      have h3:=h2 (n0 - 1) (by omega)
      rw [zak (by omega)] at h3
      have:=(zal.1 h3.symm).1
      omega
     have hw:ws.size=cs.length:=by have:=h.1; simp at this; omega
     have e:VRs β W xs (ws.extract off (off+n0)).toList:=by
      refine ⟨?_,fun j x y hjx hjy=>?_⟩
      ·simp only [Array.toList_extract,List.extract_eq_take_drop,zbl,List.length_drop,Array.length_toList]
       by_cases h0:n0=0
       ·omega
       ·have:=hlen h0; omega
      ·have hj:j<n0:=h1 ▸ (zal.1 hjx).1
       rw [h2 j hj] at hjx
       refine h.2 _ x y hjx ?_
       rw [za2] at hjy
       rw [Array.getElem?_extract] at hjy
       rw [za2]
       split at hjy
       ·exact hjy
       ·simp at hjy
     refine .agg (by have:=e.1; rw [Array.length_toList] at this; exact this) fun j x y hjx hjy=>e.2 j x y hjx (by rw [za2]; exact hjy)
    | false =>
     rw [ha] at hl
     simp only [zaz,if_false,zao,Prod.mk.injEq] at hl
     obtain ⟨rfl,rfl⟩:=hl
     have hxs:=mkv_false hr
     subst hxs
     have h3:=h2 0 (by omega)
     obtain ⟨y,hy,hvy⟩:=h.get (j:=off) (x:=v) (by simpa using h3.symm)
     rw [za2] at hy
     exact ⟨y,by simp [part,yp hu,ha,hy],hvy⟩
theorem s_field {s:TypeId} {fs:Array Field} {fd:Field} {f n:Nat} {agg:Bool} {x:Operand} {x':Opd} (ho:o.op=.field s x f) (hu:P.underlying s=some (.struct fs)) (hf:fs[f]?=some fd) (hl:loadT P fd.type=some (agg,n)) (ht:TR β W t a.tmps) (hx:cOpd x=some x')
  (he:e_field own t agg fd.offset n x'=some (e,v,own')):e=.p/\own'=own/\PureOK P β W a.eval o v:=by
 have hv:=ht.eval hx
 unfold e_field at he
 split at he
 ·rename_i cs h1
  obtain ⟨z,hz,rfl,rfl,rfl⟩:=ZQ he
  rw [h1] at hv
  obtain ⟨ws,hws,hq⟩:=aggI hv
  obtain ⟨x2,hx2,hvx⟩:=part_sim (P:=P) hl hws hz
  exact ⟨rfl,rfl,x2,by simp only [execOp,ho,hq,zat,Instr.field,run_underlying hu,zan,hf,asAgg,zay,hx2],hvx⟩
 ·simp at he
theorem s_index {ty el:TypeId} {n len:Nat} {agg:Bool} {x ix:Operand} {x' ix':Opd} (ho:o.op=.index ty x ix) (hu:P.underlying ty=some (.array len el)) (hl:loadT P el=some (agg,n)) (hn:sizeT P el=some n) (ht:TR β W t a.tmps) (hx:cOpd x=some x') (hix:cOpd ix=some ix')
  (he:e_index own t agg n len x' ix'=some (e,v,own')):e=.p/\own'=own/\PureOK P β W a.eval o v:=by
 have hv:=ht.eval hx
 unfold e_index at he
 split at he
 ·rename_i cs j h1 h2
  obtain ⟨k,m,hq2,h0,rfl⟩:=zU ht hix h2
  split at he
  ·rename_i hlt
   obtain ⟨z,hz,rfl,rfl,rfl⟩:=ZQ he
   rw [h1] at hv
   obtain ⟨ws,hws,hq⟩:=aggI hv
   obtain ⟨x2,hx2,hvx⟩:=part_sim (P:=P) hl hws hz
   refine ⟨rfl,rfl,x2,?_,hvx⟩
   simp only [execOp,ho,hq,hq2,zat,Instr.index,asIntOf,zay,run_underlying hu,zan]
   rw [if_pos ⟨h0,by omega⟩]
   simp only [zat,zJ hn,zan,hx2,zay]
  ·simp at he
 ·simp at he
theorem s_indexS {ty:TypeId} {x ix:Operand} {x' ix':Opd} (ho:o.op=.index ty x ix) (hu:P.underlying ty=some .string) (ht:TR β W t a.tmps) (hx:cOpd x=some x') (hix:cOpd ix=some ix')
  (he:e_indexS own t x' ix'=some (e,v,own')):e=.p/\own'=own/\PureOK P β W a.eval o v:=by
 have hv:=ht.eval hx
 unfold e_indexS at he
 split at he
 ·rename_i s j h1 h2
  obtain ⟨k,m,hq2,h0,rfl⟩:=zU ht hix h2
  split at he
  ·rename_i b hb
   cases he
   rw [h1] at hv
   refine ⟨rfl,rfl,.int .u8 b.toNat,?_,.int _ _⟩
   simp only [execOp,ho,Yk hv,hq2,zat,Instr.index,asIntOf,zay,run_underlying hu,zan,if_pos h0,hb]
  ·simp at he
 ·simp at he
theorem s_extract {x:Operand} {x':Opd} {i:Nat} (ho:o.op=.extract x i) (ht:TR β W t a.tmps) (hx:cOpd x=some x') (he:e_extract own t x' i=some (e,v,own')):e=.p/\own'=own/\PureOK P β W a.eval o v:=by
 have hv:=ht.eval hx
 unfold e_extract at he
 split at he
 ·rename_i vs h1
  obtain ⟨z,hz,rfl,rfl,rfl⟩:=ZQ he
  rw [h1] at hv
  obtain ⟨ws,hws,hq⟩:=tupleI hv
  obtain ⟨y,hy,hvy⟩:=hws.get hz
  rw [za2] at hy
  exact ⟨rfl,rfl,y,by simp only [execOp,ho,hq,zat,Instr.extract,hy,zay,zan],hvy⟩
 ·simp at he
end
end
section
def Bnd (o:Option Value) (dflt n:Nat):Prop:=(o=none/\n=dflt)∨∃ (k:IntKind) (i:Int),o=some (.int k i)/\0<=i/\i.toNat=n
section
variable {P:Program} {d:Nat} {out:yLM} {β:Pl} {W:World} {a:Act} {o:Oper} {t:List IV} {own own':yLO} {e:Eff} {v:IV}
theorem z6 {x:Option Operand} {x':Option Opd} {dflt n:Nat} (ht:TR β W t a.tmps) (hx:cOpd? x=some x') (h:optI t dflt x'=some n):Bnd (x.map a.eval) dflt n:=by
 cases x with
 | none=>simp only [cOpd?,zao] at hx; subst hx; simp only [optI,zao] at h; exact .inl ⟨rfl,h.symm⟩
 | some y =>
  simp only [cOpd?] at hx
  cases hy:cOpd y with
  | none=>rw [hy] at hx; simp at hx
  | some y' =>
   rw [hy] at hx; cases hx
   simp only [optI] at h
   obtain ⟨k,i,h1,h2,h3⟩:=zU ht hy h
   exact .inr ⟨k,i,by simp [h1],h2,h3⟩
theorem cOpd?_none {x:Option Operand} {x':Option Opd} (hx:cOpd? x=some x'):x'.isSome=x.isSome:=by
 cases x with
 | none=>simp only [cOpd?,zao] at hx; subst hx; rfl
 | some y =>
  simp only [cOpd?] at hx
  cases hy:cOpd y with
  | none=>rw [hy] at hx; simp at hx
  | some y'=>rw [hy] at hx; cases hx; rfl
theorem yG {x:Value} {dflt n y:Nat} (code:BoundsCode) (h:Bnd (some x) dflt n) (hn:n<=y):(Instr.sliceBound x y code).run P W=.ok n W:=by
 rcases h with ⟨h,_⟩ | ⟨k,i,h,h0,rfl⟩
 ·simp at h
 ·cases h
  exact run_sliceBound W k i y code h0 (by omega)
theorem Zc {b:Bool} {lo hi mx:Option Value} {len cap l h m:Nat} (hm:Bnd mx cap m) (hmc:m<=cap) (hh:Bnd hi len h) (hhm:h<=m) (hl:Bnd lo 0 l) (hlh:l<=h) (hx:mx.isSome=true->hi.isSome=true) :
  (Instr.sliceBounds b len cap lo hi mx).run P W=.ok (l,h,m) W:=by
 unfold Instr.sliceBounds
 cases mx with
 | none =>
  obtain rfl:m=cap:=by rcases hm with ⟨_,h⟩ | ⟨_,_,h,_⟩ <;> first | exact h | simp at h
  cases hi with
  | none =>
   obtain rfl:h=len:=by rcases hh with ⟨_,h⟩ | ⟨_,_,h,_⟩ <;> first | exact h | simp at h
   cases lo with
   | none =>
    obtain rfl:l=0:=by rcases hl with ⟨_,h⟩ | ⟨_,_,h,_⟩ <;> first | exact h | simp at h
    simp
   | some z=>simp [yG _ hl hlh]
  | some y =>
   cases lo with
   | none =>
    obtain rfl:l=0:=by rcases hl with ⟨_,h⟩ | ⟨_,_,h,_⟩ <;> first | exact h | simp at h
    simp [yG _ hh hhm]
   | some z=>simp [yG _ hh hhm,yG _ hl hlh]
 | some q =>
  cases hi with
  | none=>simp at hx
  | some y =>
   cases lo with
   | none =>
    obtain rfl:l=0:=by rcases hl with ⟨_,h⟩ | ⟨_,_,h,_⟩ <;> first | exact h | simp at h
    simp [yG _ hm hmc,yG _ hh hhm]
   | some z=>simp [yG _ hm hmc,yG _ hh hhm,yG _ hl hlh]
theorem Bnd.cap {mx:Option Value} {c c' m:Nat} (h:Bnd mx c m) (hc:c<=c') (hm:m<=c):∃ m',Bnd mx c' m'/\m<=m'/\m'<=c'/\(mx.isSome=true->m'=m)/\(mx.isSome=false->m=c/\m'=c'):=by
 rcases h with ⟨rfl,rfl⟩ | ⟨k,i,rfl,h0,rfl⟩
 ·exact ⟨c',.inl ⟨rfl,rfl⟩,hc,zaq _,fun h=>by simp at h,fun _=>⟨rfl,rfl⟩⟩
 ·exact ⟨_,.inr ⟨k,i,rfl,h0,rfl⟩,zaq _,zbo hm hc,fun _=>rfl,fun h=>by simp at h⟩
theorem s_slice {ty el:TypeId} {n:Nat} {x:Operand} {lo hi mx:Option Operand} {x':Opd} {lo' hi' mx':Option Opd} (ho:o.op=.slice ty x lo hi mx) (hu:P.underlying ty=some (.slice el)) (hn:sizeT P el=some n) (ht:TR β W t a.tmps)
  (hx:cOpd x=some x') (h1:cOpd? lo=some lo') (h2:cOpd? hi=some hi') (h3:cOpd? mx=some mx') (hmx:¬ (mx.isSome&&hi.isNone)=true)
  (he:((sliceI n t (ρ t x') lo' hi' mx').map fun v=>(Eff.p,v,own))=some (e,v,own')):e=.p/\own'=own/\PureOK P β W a.eval o v:=by
 have hv:=ht.eval hx
 obtain ⟨z,hz,rfl,rfl,rfl⟩:=ZQ he
 refine ⟨rfl,rfl,?_⟩
 have hxx:(mx.map a.eval).isSome=true->(hi.map a.eval).isSome=true:=by
  cases mx <;> cases hi <;> simp at hmx ⊢
 have run:∀ (p:Option Addr) (len cap l h m:Nat),(Instr.sliceBounds true len cap (lo.map a.eval) (hi.map a.eval) (mx.map a.eval)).run P W=.ok (l,h,m) W ->
   (Instr.sliceAt ty (.slice p len cap) (lo.map a.eval) (hi.map a.eval) (mx.map a.eval)).run P W=.ok (.slice (if m=l then p else p.map (·.add (l*n))) (h - l) (m - l)) W:=fun p len cap l h m hb=>by
  simp only [Instr.sliceAt,Instr.slice,zat,run_underlying hu,zan,hb,zJ hn,zay]
 unfold sliceI at hz
 split at hz
 ·rename_i q1
  split at hz
  ·rename_i l h m e1 e2 e3
   split at hz
   ·rename_i hc
    cases hz
    rw [q1] at hv
    have hb:=Zc (P:=P) (W:=W) (b:=true) (z6 ht h3 e3) hc.1 (z6 ht h2 e2) hc.2.1 (z6 ht h1 e1) hc.2.2 hxx
    refine ⟨.slice none 0 0,?_,.nilsl⟩
    simp only [execOp,ho,yb hv,zat,run _ _ _ _ _ _ hb,zan,zay]
    obtain ⟨hm0,hh0,hl0⟩:=hc
    have:m=0:=by omega
    have:h=0:=by omega
    have:l=0:=by omega
    simp [*]
   ·simp at hz
  ·simp at hz
 ·rename_i lv i off len cap sz tight q1
  split at hz
  ·rename_i l h m e1 e2 e3
   split at hz
   ·rename_i hc
    obtain ⟨hc,rfl⟩:=hc
    cases hz
    rw [q1] at hv
    obtain ⟨k,s,o',cap',hb,hoff,hl,hcc,htt,hroom,hq⟩:=YK hv
    obtain ⟨m',hm',g1,g2,g3,g4⟩:=(z6 ht h3 e3).cap hcc hc.1
    have hbb:=Zc (P:=P) (W:=W) (b:=true) hm' g2 (z6 ht h2 e2) (zbo hc.2.1 g1) (z6 ht h1 e1) hc.2.2 hxx
    have hsm:mx'.isSome=(mx.map a.eval).isSome:=by rw [cOpd?_none h3]; cases mx <;> rfl
    have hone:∃ o2,(if m'=l then (some ⟨k,o',none⟩:Option Addr) else (some ⟨k,o',none⟩:Option Addr).map (·.add (l*sz)))=some ⟨k,o2,none⟩/\(m - l=0∨o2=off+l*sz+s)/\o2+(m' - l)*sz<=o'+cap'*sz:=by
     by_cases hml:m'=l
     ·rw [if_pos hml]
      exact ⟨o',rfl,.inl (by omega),by rw [hml,Nat.sub_self,Nat.zero_mul]; omega⟩
     ·rw [if_neg hml]
      refine ⟨o'+l*sz,by simp [yD],?_,?_⟩
      ·rcases hoff with h0 | rfl
       ·exact .inl (by omega)
       ·exact .inr (by omega)
      ·rw [Nat.add_assoc,← Nat.add_mul]
       exact Nat.add_le_add_left (Nat.mul_le_mul_right _ (by omega)) _
    obtain ⟨o2,ho2,ho3,ho4⟩:=hone
    refine ⟨_,?_,.slM hb (o':=o2) (cap':=m' - l) ho3 (by omega) (by omega) (fun h=>?_) (let ⟨c1,t1,f1,r1,r2⟩:=hroom; ⟨c1,t1,f1,r1,zbo ho4 r2⟩)⟩
    ·simp only [execOp,ho,hq,zat,run _ _ _ _ _ _ hbb,zan,zay,ho2]
    ·simp only [Bool.or_eq_true] at h
     rcases h with h | h
     ·rw [hsm] at h; rw [g3 h]
     ·have:=htt h
      cases hss:(mx.map a.eval).isSome with
      | true=>rw [g3 hss]
      | false=>obtain ⟨r1,r2⟩:=g4 hss; rw [r1,r2,this]
   ·simp at hz
  ·simp at hz
 ·rename_i cs len sz tight q1
  split at hz
  ·rename_i l h m e1 e2 e3
   split at hz
   ·rename_i hc
    obtain ⟨hc,rfl⟩:=hc
    cases hz
    rw [q1] at hv
    obtain ⟨k,s,cap',ad,hk,hcell,hlen,hl,htt,hadd,hq⟩:=slCI hv
    obtain ⟨m',hm',g1,g2,g3,g4⟩:=(z6 ht h3 e3).cap hl hc.1
    have hbb:=Zc (P:=P) (W:=W) (b:=true) hm' g2 (z6 ht h2 e2) (zbo hc.2.1 g1) (z6 ht h1 e1) hc.2.2 hxx
    have hsm:mx'.isSome=(mx.map a.eval).isSome:=by rw [cOpd?_none h3]; cases mx <;> rfl
    have hone:∃ a2:Addr,(if m'=l then (some ad:Option Addr) else (some ad:Option Addr).map (·.add (l*sz)))=some a2/\(h - l≠0->a2=⟨k,s+l*sz,none⟩):=by
     by_cases hml:m'=l
     ·rw [if_pos hml]
      exact ⟨ad,rfl,fun h0=>by omega⟩
     ·rw [if_neg hml]
      refine ⟨ad.add (l*sz),rfl,fun h0=>?_⟩
      rw [hadd (by omega)]
      exact yD rfl _
    obtain ⟨a2,ho2,ho3⟩:=hone
    rw [zf]
    have hle:l*sz+(h - l)*sz<=cs.length:=by
     rw [hlen,← Nat.add_mul]
     exact Nat.mul_le_mul_right _ (by omega)
    refine ⟨_,?_,ZO (s:=s+l*sz) (cap':=m' - l) (fun h0=>hk (by omega)) (fun j zz hj=>?_) ?_ (by omega) (fun hg=>?_) ho3⟩
    ·simp only [execOp,ho,hq,zat,run _ _ _ _ _ _ hbb,zan,zay,ho2]
    ·rw [zbt] at hj
     split at hj
     ·rename_i hjl
      rw [List.getElem?_drop] at hj
      obtain ⟨y,hy,hvy⟩:=hcell _ zz hj
      refine ⟨y,?_,hvy⟩
      rw [← hy]; congr 2; omega
     ·simp at hj
    ·rw [zbl,List.length_drop]; omega
    ·cases hss:mx'.isSome with
     | true =>
      rw [hss,if_pos rfl] at hg
      rw [hsm] at hss
      have:=g3 hss
      have:m=h:=by simpa using hg
      omega
     | false =>
      rw [hss,if_neg (by simp)] at hg
      rw [hsm] at hss
      obtain ⟨r1,r2⟩:=g4 hss
      simp only [za3,beq_iff_eq] at hg
      have:=htt hg.1
      omega
   ·simp at hz
  ·simp at hz
 ·simp at hz
theorem s_sliceS {ty:TypeId} {x:Operand} {lo hi:Option Operand} {x':Opd} {lo' hi':Option Opd} (ho:o.op=.slice ty x lo hi none) (hu:P.underlying ty=some .string) (ht:TR β W t a.tmps) (hx:cOpd x=some x') (h1:cOpd? lo=some lo') (h2:cOpd? hi=some hi')
  (he:((sliceStr t (ρ t x') lo' hi').map fun v=>(Eff.p,v,own))=some (e,v,own')):e=.p/\own'=own/\PureOK P β W a.eval o v:=by
 have hv:=ht.eval hx
 obtain ⟨z,hz,rfl,rfl,rfl⟩:=ZQ he
 refine ⟨rfl,rfl,?_⟩
 unfold sliceStr at hz
 split at hz
 ·rename_i s q1
  split at hz
  ·rename_i l h e1 e2
   split at hz
   ·rename_i hc
    cases hz
    rw [q1] at hv
    have hb:=Zc (P:=P) (W:=W) (b:=false) (mx:=none) (cap:=s.size) (m:=s.size) (.inl ⟨rfl,rfl⟩) (zaq _) (z6 ht h2 e2) hc.1 (z6 ht h1 e1) hc.2 (fun h=>by simp at h)
    refine ⟨.string (s.extract l h),?_,.str _⟩
    simp only [execOp,ho,Yk hv,zat,Instr.sliceAt,Instr.slice,run_underlying hu,zan,Option.map_none,Option.isSome_none,zaz,if_false,hb,zay]
   ·simp at hz
  ·simp at hz
 ·simp at hz
end
end
section
def Vis (ownV own:yLO):Prop:=∀ (i:Nat) (o:IObj),ownV[i]?=some o->o.live=true->own[i]?=some o
theorem Vis.refl (own:yLO):Vis own own:=fun _ _ h _=>h
theorem Zp {d:Nat} {out:yLM} {ownV own:yLO} (h:Vis ownV own) {l i:Nat} {o:IObj} (hl:look d out ownV l i=some o) (ho:o.live=true):look d out own l i=some o:=by
 unfold look at hl ⊢
 split
 ·rename_i e; rw [if_pos e] at hl; exact h i o hl ho
 ·rename_i e; rw [if_neg e] at hl; exact hl
theorem zX {own own':yLO} {id:Nat} {o:IObj} {u v:IV} {e:Eff} (h:mkAt own id o u=some (e,v,own')):own[id]?=some .free/\e=.a/\v=u/\own'=own.set id o:=by
 unfold mkAt at h
 split at h
 ·rename_i hf
  cases h
  exact ⟨hf,rfl,rfl,zf _⟩
 ·simp at h
theorem Zd:∀ (xs:List IV) (c:List IV) (off j:Nat),off+xs.length<=c.length->(wrN c off xs)[j]?=if off<=j/\j<off+xs.length then xs[j - off]? else c[j]?
 | [],c,off,j,_=>by simp only [wrN,zbc]; rw [if_neg (by omega)]
 | x::xs,c,off,j,h=>by
  simp only [wrN]
  rw [Zd xs (c.set off x) (off+1) j (by simp at h ⊢; omega)]
  simp only [zau] at h ⊢
  by_cases h1:off+1<=j/\j<off+1+xs.length
  ·rw [if_pos h1,if_pos (by omega),show j - off=(j - (off+1))+1 by omega,za1]
  ·rw [if_neg h1]
   by_cases h2:j=off
   ·subst h2
    rw [if_pos (by omega),Nat.sub_self,za8,List.getElem?_set,if_pos rfl,if_pos (by omega)]
   ·rw [if_neg (by omega),List.getElem?_set,if_neg (fun e=>h2 e.symm)]
section
variable {P:Program} {d:Nat} {out:yLM} {β:Pl} {W:World} {a:Act} {o:Oper} {t:List IV} {own own' ownV:yLO} {e:Eff} {v:IV} {n0:Nat}
theorem rs_new {id:Nat} {c:List IV} {cs:Array Value} {ty:TypeId} (hR:RS β (look d out own) W) (hf:own[id]?=some .free) (h:VRs β W c cs.toList) {W':World} (hW:∃ q,W'=({ W with drawn:=q }:World).alloc (.cells cs ty)) :
  RS (upd β d id (W.heap.size,0)) (look d out (own.set id (.cells c))) W'/\Fr d β W (upd β d id (W.heap.size,0)) W':=by
 obtain ⟨q,rfl⟩:=hW
 refine YI hR hf (fun l i s' o' hb _ _=>absurd (hR.here _ _ _ _ hb) (by omega)) (.inl (zaq _)) (fun k2 _ hk2=>Below.heap_alloc _ _ k2 hk2) (by simp) (by simp) (fun c t f hc=>absurd (za6.1 hc).1 (Nat.lt_irrefl _)) rfl rfl rfl (fun e=>?_)
 refine ⟨cs,ty,yL _ _,fun j x hx=>?_⟩
 obtain ⟨y,hy,hv⟩:=h.get hx
 rw [za2] at hy
 exact ⟨y,hy,hv.ext e⟩
theorem s_load {ty:TypeId} {agg:Bool} {n:Nat} {x:Operand} {x':Opd} (ho:o.op=.load ty x) (hl:loadT P ty=some (agg,n)) (hx:cOpd x=some x') (ht:TR β W t a.tmps) (hR:RS β (look d out own) W) (hV:Vis ownV own)
  (he:e_load d out ownV own t agg n x'=some (e,v,own')):own'=own/\PureOK P β W a.eval o v:=by
 have hv:=ht.eval hx
 unfold e_load at he
 have fin:∀ (ad:Addr) (c:List IV) (off:Nat) (z:IV),a.eval x=.pointer (some ad)->At β W c off ad->(rdN c off n).bind (mkv agg)=some z->PureOK P β W a.eval o z:=fun ad c off z hq hA hr=>by
  obtain ⟨y,hy,hvy⟩:=load_sim (P:=P) hl hA hr
  exact ⟨y,by simp only [execOp,ho,hq,zat,Instr.loadAt,Instr.sureAddr,zay,zan,hy],hvy⟩
 split at he
 ·rename_i l i off q1
  rw [q1] at hv
  split at he
  ·rename_i c hg
   cases hz:(rdN c off n).bind (mkv agg) with
   | none=>rw [hz] at he; simp at he
   | some z =>
    rw [hz] at he; cases he
    obtain ⟨ad,hq,hA⟩:=at_ptrM hR hv (Zp hV hg rfl)
    exact ⟨rfl,fin ad c off v hq hA hz⟩
  ·simp at he
 ·rename_i cs off q1
  rw [q1] at hv
  cases hz:(rdN cs off n).bind (mkv agg) with
  | none=>rw [hz] at he; simp at he
  | some z =>
   rw [hz] at he; cases he
   obtain ⟨ad,hq,hA⟩:=at_ptrC hv
   exact ⟨rfl,fin ad cs off v hq hA hz⟩
 ·simp at he
theorem s_store {ty:TypeId} {n:Nat} {x y:Operand} {x' y':Opd} (ho:o.op=.store ty x y) (hn:sizeT P ty=some n) (hn0:n≠0) (hx:cOpd x=some x') (hy:cOpd y=some y') (ht:TR β W t a.tmps) (hR:RS β (look d out own) W)
  (he:e_store d own t n x' y'=some (e,v,own')):StepOK P d out β W a.eval o v own':=by
 have hv:=ht.eval hx
 have hw:=zA (ht.eval hy)
 unfold e_store at he
 split at he
 ·rename_i l i off q1
  rw [q1] at hv
  split at he
  ·rename_i c hg
   split at he
   ·rename_i hc
    obtain ⟨rfl,hlen,hfit,hsc⟩:=hc
    cases he
    rw [zf,zf]
    obtain ⟨k,s,hb,hq⟩:=YJ hv
    have hg':look l out own l i=some (.cells c):=by rw [zY]; exact hg
    obtain ⟨c',ty',hh,hcc⟩:=hR.obj _ _ _ _ _ hb hg'
    have hsz:(a.eval y).cells.size=n:=by have:=hw.1; simp at this; omega
    have hroom:off+s+n<=c'.size:=by
     obtain ⟨z,hz,_⟩:=hcc (off+n - 1) _ (zak (by omega))
     have:=(za6.1 hz).1
     omega
    have hone:=Za hw hsc
    have hrun:=run_storeCells_at (P:=P) k (off+s) ty' (a.eval y).cells.toList 0 c' W hh (by simp [hsz]; omega) hone
    obtain ⟨W',hW'⟩:∃ W',W'=W.setRow k (c'.toList.take (off+s+0)++(a.eval y).cells.toList++c'.toList.drop (off+s+0+(a.eval y).cells.toList.length)).toArray:=⟨_,rfl⟩
    have hO:Ext β W β W'->OR β W' k s (.cells (wrN c off (ρ t y').cells)):=fun e=>by
     refine ⟨_,ty',by rw [hW']; exact setRow_heap W k c' _ ty' _ hh,fun j z hz=>?_⟩
     rw [Zd _ _ _ _ (by rw [hlen]; exact hfit)] at hz
     simp only [Nat.add_zero,List.getElem?_toArray]
     have hl2:(a.eval y).cells.toList.length=n:=by simp [hsz]
     by_cases hj:off<=j/\j<off+(ρ t y').cells.length
     ·rw [if_pos hj] at hz
      obtain ⟨r,hr,hvr⟩:=hw.get hz
      refine ⟨r,?_,hvr.ext e⟩
      rw [za9,zas (by simp; omega),zar (by simp [hsz]; omega)]
      rw [← hr]; congr 1; simp; omega
     ·rw [if_neg hj] at hz
      obtain ⟨r,hr,hvr⟩:=hcc j z hz
      refine ⟨r,?_,hvr.ext e⟩
      rw [← hr,za9,← za2]
      by_cases hjl:j<off
      ·rw [zar (by simp; omega),zbt,if_pos (by omega)]
      ·rw [zas (by simp; omega),zas (by simp [hsz]; omega),List.getElem?_drop]
       congr 1; simp [hsz]; omega
    obtain ⟨hR',hF⟩:=rs_upd (W':=W') hR hg rfl hb (fun k2 hk2=>by rw [hW']; exact setRow_other W k k2 _ hk2) (by rw [hW']; simp) (fun c2 t2 f2 hc2=>by
     rw [hh] at hc2
     cases hc2
     exact ⟨_,by rw [hW']; exact setRow_heap W k c' _ ty' _ hh,by simp [hsz]; omega⟩) (by rw [hW']; rfl) (by rw [hW']; rfl) (by rw [hW']; rfl) hO rfl
    refine ⟨.skip,β,W',?_,rfl,hR',hF⟩
    simp only [execOp,ho,hq,zat,Instr.storeAt,Instr.sureAddr,storeVar,zay,zan,zJ hn]
    rw [if_neg (by simp [hsz]),hrun,← hW']
    simp only [zan]
   ·simp at he
  ·simp at he
 ·simp at he
theorem s_newv {el:TypeId} {z:IV} {slot:Nat} (ho:o.op=.alloc el) (hz:zeroT P el=some z) (hR:RS β (look d out own) W) (he:e_newv d n0 own z.cells slot=some (e,v,own')):StepOK P d out β W a.eval o v own':=by
 unfold e_newv at he
 obtain ⟨hf,rfl,rfl,rfl⟩:=zX he
 obtain ⟨i,zv,hi,hzv,hv⟩:=z8 (β:=β) (W:=W) hz
 obtain ⟨hR',hF⟩:=rs_new (ty:=el) hR hf (zA hv) (W':=W.alloc (.cells zv.cells el)) ⟨W.drawn,rfl⟩
 refine ⟨.value (.pointer (some ⟨W.heap.size,0,none⟩)),_,_,?_,?_,hR',hF⟩
 ·simp [execOp,ho,Instr.alloc,zeroValue,typeInfo,hi,hzv,newVar,newRow]
 ·exact .ptrM (s:=0) (zF _ _ _ _)
theorem s_box {el:TypeId} {x:Operand} {x':Opd} {slot:Nat} (ho:o.op=.box el x) (hx:cOpd x=some x') (ht:TR β W t a.tmps) (hR:RS β (look d out own) W) (he:e_box d n0 own t x' slot=some (e,v,own')):StepOK P d out β W a.eval o v own':=by
 unfold e_box at he
 split at he
 ·obtain ⟨hf,rfl,rfl,rfl⟩:=zX he
  obtain ⟨hR',hF⟩:=rs_new (ty:=el) hR hf (zA (ht.eval hx)) (W':=W.alloc (.cells (a.eval x).cells el)) ⟨W.drawn,rfl⟩
  refine ⟨.value (.pointer (some ⟨W.heap.size,0,none⟩)),_,_,?_,?_,hR',hF⟩
  ·simp [execOp,ho,Instr.box,newVar,newRow]
  ·exact .ptrM (s:=0) (zF _ _ _ _)
 ·simp at he
theorem s_mslice {ty el:TypeId} {len n slot:Nat} {parts:Array (Nat × Operand)} {z:IV} {ps:List (Nat × Nat × Opd)} (ho:o.op=.buildSlice ty len parts) (hu:P.underlying ty=some (.slice el)) (hz:zeroT P el=some z) (hn:sizeT P el=some n)
  (h24:len*n<=2 ^ 24) (hzl:z.cells.length=n) (hn0:0<n) (hp:cParts (fun i=>some (i*n,n)) parts.toList=some ps) (ht:TR β W t a.tmps) (hR:RS β (look d out own) W)
  (he:e_mslice d n0 own t z.cells n len ps slot=some (e,v,own')):StepOK P d out β W a.eval o v own':=by
 unfold e_mslice at he
 split at he
 rotate_left
 ·simp at he
 rename_i c' hc'
 split at he
 rotate_left
 ·simp at he
 obtain ⟨hf,rfl,rfl,rfl⟩:=zX he
 obtain ⟨i,zv,hi,hzv,hv⟩:=z8 (β:=β) (W:=W) hz
 obtain ⟨ie,hie,hs⟩:=zZ hn
 obtain rfl:i=ie:=by rw [hi] at hie; exact zbh hie
 have hv':=zA hv
 have hlen:zv.cells.size=n:=by have:=hv'.1; simp at this; omega
 have e0:VRs β W (rep z.cells len) (if len*n=0 then (#[]:Array Value) else (Array.range (len*n)).map (zv.cells[· % zv.cells.size]!)).toList:=by
  by_cases h0:len*n=0
  ·have hl0:len=0:=by rcases Nat.mul_eq_zero.1 h0 with h | h <;> omega
   subst hl0
   simp [rep]; exact .nil
  ·rw [if_neg h0]
   have:=ZR (β:=β) (W:=W) hv' (by omega) len
   rw [hzl] at this; exact this
 obtain ⟨cs',e1,e2⟩:=Zo _ ht hp e0 hc'
 obtain ⟨hR',hF⟩:=rs_new (ty:=el) hR hf e2 (W':=W.alloc (.cells cs' el)) ⟨W.drawn,rfl⟩
 refine ⟨.value (.slice (some ⟨W.heap.size,0,none⟩) len len),_,_,?_,?_,hR',hF⟩
 ·have hfill:Instr.fill (fun i=>some (i*n,n)) ((Array.range (len*n)).map (((if len*n=0 then (#[]:Array Value) else zv.cells))[· % ((if len*n=0 then (#[]:Array Value) else zv.cells)).size]!)) (parts.map fun p=>(p.1,a.eval p.2)).toList=some cs':=by
   rw [← e1,Array.toList_map]
   congr 1
   by_cases h0:len*n=0
   ·rw [h0]; simp
   ·simp only [if_neg h0]
  simp only [execOp,ho,zat,Instr.buildSlice,run_underlying hu,zan,zJ hn]
  rw [if_neg (by omega)]
  by_cases h0:len*n=0
  ·rw [if_pos h0] at hfill
   simp only [h0,if_true,zat,zay,zan]
   rw [h0] at hfill
   rw [hfill]
   simp [newRow,run_newObj]
  ·rw [if_neg h0] at hfill
   rw [if_neg h0]
   simp only [zeroValue,typeInfo,zat,run_program,zan,hie,hzv,zay]
   rw [hfill]
   simp [newRow,run_newObj]
 ·have hlc:c'.length=cs'.size:=by have:=e2.1; simpa using this
  have hlr:∀ {c c'':List IV} {ps},fillI t c ps=some c''->c''.length=c.length:=by
   intro c c'' ps
   induction ps generalizing c with
   | nil=>intro h; simp only [fillI,zao] at h; rw [h]
   | cons p ps ih =>
    obtain ⟨off,m,x⟩:=p
    intro h
    simp only [fillI,zf] at h
    split at h
    ·rw [ih h]
     have:∀ (xs:List IV) (c:List IV) (off:Nat),(wrN c off xs).length=c.length:=by
      intro xs
      induction xs with
      | nil=>intro c off; rfl
      | cons x xs ih2=>intro c off; simp only [wrN]; rw [ih2]; simp
     exact this _ _ _
    ·simp at h
  have hl2:=hlr hc'
  rw [yu,hzl] at hl2
  exact .slM (s:=0) (zF _ _ _ _) (.inr (by simp)) (zaq _) (zaq _) (fun h=>by simp at h) ⟨_,_,_,yL _ _,by omega⟩
theorem s_mkmap {ty:TypeId} {slot:Nat} (ho:o.op=.makeMap ty none) (hR:RS β (look d out own) W) (he:e_mkmap d n0 own slot=some (e,v,own')):StepOK P d out β W a.eval o v own':=by
 unfold e_mkmap at he
 obtain ⟨hf,rfl,rfl,rfl⟩:=zX he
 obtain ⟨hR',hF⟩:=YI (s:=0) (o:=.map [] [] [] 0) (W':=W.alloc (.map #[] 0)) hR hf (fun l i s' o' hb _ _=>absurd (hR.here _ _ _ _ hb) (Nat.lt_irrefl _)) (.inl (zaq _)) (fun k2 _ hk2=>Below.heap_alloc _ _ k2 hk2) (by simp) (by simp) (fun c t f hc=>absurd (za6.1 hc).1 (Nat.lt_irrefl _)) rfl rfl rfl
  (fun e=>⟨#[],yL _ _,rfl,rfl,rfl,fun j en hj=>by simp at hj⟩)
 refine ⟨.value (.map (some W.heap.size)),_,_,?_,.mapM (s:=0) (zF _ _ _ _),hR',hF⟩
 simp [execOp,ho,Instr.makeMap]
theorem s_mx {isMax:Bool} {c:Go.Call} {x y:Operand} {x' y':Opd} (ho:o.op=.call c) (hcal:c.callee=.builtin (if isMax then .max else .min)) (hargs:c.args.toList=[x,y]) (hx:cOpd x=some x') (hy:cOpd y=some y') (ht:TR β W t a.tmps)
  (he:e_mx own t isMax x' y'=some (e,v,own')):e=.p/\own'=own/\PureOK P β W a.eval o v:=by
 have hv:=ht.eval hx
 have hw:=ht.eval hy
 unfold e_mx at he
 split at he
 ·rename_i k p k' q h1 h2
  cases he
  rw [h1] at hv; rw [h2] at hw
  have hargs':c.args=#[x,y]:=by rw [← Array.toArray_toList (xs:=c.args),hargs]
  refine ⟨rfl,rfl,_,?_,.int _ _⟩
  cases isMax
  ·simp only [execOp,ho,resolve,hcal,hargs',zaz,if_false,List.map_toArray,List.map_cons,List.map_nil,ZB hv,ZB hw,zat,zay,zan,invoke,builtin,run_min_int2]
  ·simp only [execOp,ho,resolve,hcal,hargs',if_true,List.map_toArray,List.map_cons,List.map_nil,ZB hv,ZB hw,zat,zay,zan,invoke,builtin,run_max_int2]
 ·simp at he
end
end
section
theorem y3:∀ {ks:List Nat} {xs ys:List IV} {r:Bool},eqvs ks xs ys=some r->xs.length=ks.length/\ys.length=ks.length
 | [],[],[],_,_=>⟨rfl,rfl⟩
 | k::ks,x::xs,y::ys,r,h=>by
  simp only [eqvs] at h
  split at h
  ·have:=y3 h; simp [this.1,this.2]
  ·split at h
   ·rename_i z hz; have:=y3 hz; simp [this.1,this.2]
   ·simp at h
  ·simp at h
 | [],_::_,_,_,h=>by simp [eqvs] at h
 | [],[],_::_,_,h=>by simp [eqvs] at h
 | _::_,[],_,_,h=>by simp [eqvs] at h
 | _::_,_::_,[],_,h=>by simp [eqvs] at h
theorem yS:∀ {k1 k2:List Nat} {xs ys:List IV} {r:Bool},eqvs (k1++k2) xs ys=some r ->
  ∃ r1 r2,eqvs k1 (xs.take k1.length) (ys.take k1.length)=some r1/\eqvs k2 (xs.drop k1.length) (ys.drop k1.length)=some r2/\r=(r1&&r2)
 | [],k2,xs,ys,r,h=>⟨true,r,rfl,h,by simp⟩
 | k::k1,k2,xs,ys,r,h=>by
  cases xs with
  | nil=>simp [eqvs] at h
  | cons x xs =>
   cases ys with
   | nil=>simp [eqvs] at h
   | cons y ys =>
    simp only [zbd,eqvs] at h
    simp only [zau,List.take_succ_cons,List.drop_succ_cons]
    split at h
    ·rename_i hx
     obtain ⟨r1,r2,h1,h2,rfl⟩:=yS h
     exact ⟨r1,r2,by simp only [eqvs,hx,h1],h2,rfl⟩
    ·rename_i hx
     split at h
     ·rename_i z hz
      cases h
      obtain ⟨r1,r2,h1,h2,_⟩:=yS hz
      exact ⟨false,r2,by simp only [eqvs,hx,h1],h2,rfl⟩
     ·simp at h
    ·simp at h
def mkVal (u:TypeDesc) (ws:List Value):Value:=if aggD u then .agg ws.toArray else ws.headD undef
section
variable {P:Program} {β:Pl} {W:World}
theorem eq_cell {x y:IV} {a b:Value} {u:TypeDesc} {ty:TypeId} {r:Bool} {k:Nat} (hu:P.underlying ty=some u) (hx:VR β W x a) (hy:VR β W y b) (hk:(u=.bool/\k=0)∨(∃ q,u=.int q/\k=1)∨(u=.string/\k=2)) (h:eqv k x y=some r) (E:Nat) :
  (Op.equalIn (E+1) ty a b).run P W=.ok r W:=by
 unfold eqv at h
 split at h
 ·rename_i q m q' n
  split at h
  ·rename_i hq
   obtain ⟨rfl,rfl⟩:=hq
   cases h
   rw [ZB hx,ZB hy]
   rcases hk with ⟨_,h⟩ | ⟨q2,rfl,_⟩ | ⟨_,h⟩
   ·simp at h
   ·exact run_equalIn_int W E ty q q2 m n hu
   ·simp at h
  ·simp at h
 ·rename_i m n
  split at h
  ·rename_i hq
   subst hq
   cases h
   rw [Yk hx,Yk hy]
   rcases hk with ⟨_,h⟩ | ⟨q2,_,h⟩ | ⟨rfl,_⟩
   ·simp at h
   ·simp at h
   ·exact run_equalIn_string W E ty m n hu
  ·simp at h
 ·rename_i m n
  split at h
  ·rename_i hq
   subst hq
   cases h
   rw [yZ hx,yZ hy]
   rcases hk with ⟨rfl,_⟩ | ⟨q2,_,h⟩ | ⟨_,h⟩
   ·exact run_equalIn_bool W E ty m n hu
   ·simp at h
   ·simp at h
  ·simp at h
 ·simp at h
theorem yc {D:Nat} {ty:TypeId} {ks:List Nat} (h:cellK P D ty=some ks):∃ D' u,D=D'+1/\P.underlying ty=some u/\sizeT P ty=some ks.length /\
  ((u=.bool/\ks=[0])∨(∃ q,u=.int q/\ks=[1])∨(u=.string/\ks=[2])∨(∃ fs,u=.struct fs/\P.stoodInHeld ty=false/\catK (cellK P D') fs.toList 0=some ks) ∨
   (∃ len e l,u=.array len e/\cellK P D' e=some l/\ks=repK l len)):=by
 cases D with
 | zero=>simp [cellK] at h
 | succ D =>
  simp only [cellK] at h
  split at h
  ·rename_i hu
   split at h
   ·rename_i hs; cases h; exact ⟨D,_,rfl,hu,hs,.inl ⟨rfl,rfl⟩⟩
   ·simp at h
  ·rename_i q hu
   split at h
   ·rename_i hs; cases h; exact ⟨D,_,rfl,hu,hs,.inr (.inl ⟨q,rfl,rfl⟩)⟩
   ·simp at h
  ·rename_i hu
   split at h
   ·rename_i hs; cases h; exact ⟨D,_,rfl,hu,hs,.inr (.inr (.inl ⟨rfl,rfl⟩))⟩
   ·simp at h
  ·rename_i fs hu
   split at h
   ·simp at h
   ·rename_i hst
    split at h
    ·rename_i l hl
     split at h
     ·rename_i hs; cases h; exact ⟨D,_,rfl,hu,hs,.inr (.inr (.inr (.inl ⟨fs,rfl,by simpa using hst,hl⟩)))⟩
     ·simp at h
    ·simp at h
  ·rename_i len e hu
   split at h
   ·rename_i l hl
    split at h
    ·rename_i hs
     cases h
     have:∀ n,(repK l n).length=n*l.length:=by
      intro n
      induction n with
      | zero=>simp [repK]
      | succ n ih=>simp only [repK,zaw,ih,Nat.add_mul,Nat.one_mul]; omega
     exact ⟨D,_,rfl,hu,by rw [this]; exact hs,.inr (.inr (.inr (.inr ⟨len,e,l,rfl,hl,rfl⟩)))⟩
    ·simp at h
   ·simp at h
  ·simp at h
theorem yJ {D:Nat} {ty:TypeId} {ks:List Nat} {u:TypeDesc} (h:cellK P D ty=some ks) (hu:P.underlying ty=some u) (ws:List Value) (off:Nat) (hl:off+ks.length<=ws.length) :
  (part ty ws.toArray off).run P W=.ok (mkVal u ((ws.drop off).take ks.length)) W:=by
 obtain ⟨D',u',rfl,hu',hs,hc⟩:=yc h
 rw [hu] at hu'
 obtain rfl:=zbh hu'
 cases ha:aggD u with
 | true =>
  simp only [part,zat,yp hu,ha,zan,if_true,zJ hs,zay,mkVal]
  congr 2
  apply Array.ext'
  simp [List.extract_eq_take_drop]
 | false =>
  have hk1:ks.length=1:=by
   rcases hc with ⟨_,rfl⟩ | ⟨_,_,rfl⟩ | ⟨_,rfl⟩ | ⟨_,rfl,_⟩ | ⟨_,_,_,rfl,_⟩ <;> first | rfl | simp [aggD] at ha
  rw [hk1] at hl ⊢
  have hw:ws.toArray[off]?=some ws[off]:=by simp
  simp only [part,zat,yp hu,ha,zan,zaz,if_false,hw,zay,mkVal]
  congr 1
  rw [List.headD_eq_head?_getD,List.head?_take,List.head?_drop,if_neg (by omega),zak (by omega)]
  rfl
theorem flat_eq:∀ (D:Nat) (ty:TypeId) (E:Nat) (ks:List Nat) (u:TypeDesc) (xs ys:List IV) (ws us:List Value) (r:Bool),cellK P D ty=some ks->D<=E->P.underlying ty=some u->VRs β W xs ws->VRs β W ys us->eqvs ks xs ys=some r ->
  (Op.equalIn E ty (mkVal u ws) (mkVal u us)).run P W=.ok r W:=by
 intro D
 induction D with
 | zero=>intro ty E ks u xs ys ws us r h; simp [cellK] at h
 | succ D ih =>
  intro ty E ks u xs ys ws us r h hE hu hx hy he
  obtain ⟨E,rfl⟩:∃ E',E=E'+1:=⟨E - 1,by omega⟩
  obtain ⟨D',u',hD,hu',hs,hc⟩:=yc h
  obtain rfl:D=D':=by omega
  rw [hu] at hu'
  obtain rfl:=zbh hu'
  obtain ⟨l1,l2⟩:=y3 he
  have basic:∀ k,ks=[k]->aggD u=false->((u=.bool/\k=0)∨(∃ q,u=.int q/\k=1)∨(u=.string/\k=2))->(Op.equalIn (E+1) ty (mkVal u ws) (mkVal u us)).run P W=.ok r W:=by
   intro k hk ha hkk
   subst hk
   obtain ⟨x,rfl⟩:∃ x,xs=[x]:=List.length_eq_one_iff.1 l1
   obtain ⟨y,rfl⟩:∃ y,ys=[y]:=List.length_eq_one_iff.1 l2
   obtain ⟨a,rfl⟩:∃ a,ws=[a]:=List.length_eq_one_iff.1 hx.1.symm
   obtain ⟨b,rfl⟩:∃ b,us=[b]:=List.length_eq_one_iff.1 hy.1.symm
   have h1:eqv k x y=some r:=by
    simp only [eqvs] at he
    split at he
    ·rename_i hq; cases he; exact hq
    ·rename_i hq; cases he; exact hq
    ·simp at he
   simp only [mkVal,ha,zaz,if_false,List.headD_cons]
   exact eq_cell hu (hx.2 0 x a rfl rfl) (hy.2 0 y b rfl rfl) hkk h1 E
  rcases hc with ⟨rfl,rfl⟩ | ⟨q,rfl,rfl⟩ | ⟨rfl,rfl⟩ | ⟨fs,rfl,hst,hcat⟩ | ⟨len,e,l,rfl,hl,rfl⟩
  ·exact basic 0 rfl rfl (.inl ⟨rfl,rfl⟩)
  ·exact basic 1 rfl rfl (.inr (.inl ⟨q,rfl,rfl⟩))
  ·exact basic 2 rfl rfl (.inr (.inr ⟨rfl,rfl⟩))
  ·simp only [mkVal,aggD,if_true]
   have hf:P.fieldsOf ty=fs:=by simp [Program.fieldsOf,hu]
   rw [run_equalIn_struct W E ty ws.toArray us.toArray (by rw [hf]; exact hu) hst,hf]
   have go:∀ (fl:List Field) (off:Nat) (kl:List Nat) (r:Bool),catK (cellK P D) fl off=some kl->off+kl.length=ws.length->us.length=ws.length->eqvs kl (xs.drop off) (ys.drop off)=some r->(Op.eqFields E ws.toArray us.toArray fl).run P W=.ok r W:=by
    intro fl
    induction fl with
    | nil =>
     intro off kl r hk ho hlen hr
     simp only [catK,zao] at hk
     subst hk
     obtain ⟨m1,m2⟩:=y3 hr
     have:r=true:=by
      have e1:xs.drop off=[]:=zbb.1 m1
      have e2:ys.drop off=[]:=zbb.1 m2
      rw [e1,e2] at hr
      simpa [eqvs] using hr.symm
     subst this
     simp [Op.eqFields]
    | cons f fl ihf =>
     intro off kl r hk ho hlen hr
     simp only [catK] at hk
     split at hk
     ·rename_i hnm
      split at hk
      ·rename_i a1 ha1
       split at hk
       ·rename_i b1 hb1
        cases hk
        obtain ⟨r1,r2,hr1,hr2,rfl⟩:=yS hr
        rw [List.drop_drop] at hr2
        rw [List.drop_drop] at hr2
        simp only [zaw] at ho
        obtain ⟨_,uf,_,huf,_,_⟩:=yc ha1
        have p1:=yJ (W:=W) ha1 huf ws off (by omega)
        have p2:=yJ (W:=W) ha1 huf us off (by omega)
        have q1:=ih f.type E a1 uf _ _ _ _ r1 ha1 (by omega) huf ((hx.drop off).take a1.length) ((hy.drop off).take a1.length) hr1
        simp only [Op.eqFields,hnm.1,ne_eq,not_false_eq_true,if_true,hnm.2,zat,p1,p2,zan,q1]
        cases r1
        ·simp
        ·simp only [zbm,zaz,if_false,Bool.true_and]
         exact ihf (off+a1.length) b1 r2 hb1 (by omega) hlen hr2
       ·simp at hk
      ·simp at hk
     ·simp at hk
   exact go fs.toList 0 ks r hcat (by rw [zap,← l1,hx.1]) (by rw [← hy.1,← hx.1,l1,l2]) (by simpa using he)
  ·simp only [mkVal,aggD,if_true]
   obtain ⟨_,ue,_,hue,hse,_⟩:=yc hl
   obtain ⟨ie,hie,his⟩:=zZ hse
   rw [run_equalIn_array W E ws.toArray us.toArray hu hie]
   have hce:P.cellsOf e=l.length:=by simp [Program.cellsOf,hie,his]
   rw [hce]
   have hrl:∀ n,(repK l n).length=n*l.length:=by
    intro n
    induction n with
    | zero=>simp [repK]
    | succ n ih=>simp only [repK,zaw,ih,Nat.add_mul,Nat.one_mul]; omega
   have go:∀ (m i:Nat) (r:Bool),(i+m)*l.length=ws.length->us.length=ws.length->eqvs (repK l m) (xs.drop (i*l.length)) (ys.drop (i*l.length))=some r->(Op.eqItems E e l.length ws.toArray us.toArray (List.range' i m)).run P W=.ok r W:=by
    intro m
    induction m with
    | zero =>
     intro i r ho hlen hr
     simp only [repK] at hr
     obtain ⟨m1,m2⟩:=y3 hr
     have:r=true:=by
      rw [zbb.1 m1,zbb.1 m2] at hr
      simpa [eqvs] using hr.symm
     subst this
     simp [Op.eqItems]
    | succ m ihm =>
     intro i r ho hlen hr
     simp only [repK] at hr
     obtain ⟨r1,r2,hr1,hr2,rfl⟩:=yS hr
     rw [List.drop_drop,List.drop_drop] at hr2
     have hle:i*l.length+l.length<=ws.length:=by
      rw [← ho,← Nat.succ_mul]; exact Nat.mul_le_mul_right _ (by omega)
     have p1:=yJ (W:=W) hl hue ws (i*l.length) hle
     have p2:=yJ (W:=W) hl hue us (i*l.length) (by omega)
     have q1:=ih e E l ue _ _ _ _ r1 hl (by omega) hue ((hx.drop (i*l.length)).take l.length) ((hy.drop (i*l.length)).take l.length) hr1
     simp only [List.range'_succ,Op.eqItems,zat,p1,p2,zan,q1]
     cases r1
     ·simp
     ·simp only [zbm,zaz,if_false,Bool.true_and]
      exact ihm (i+1) r2 (by rw [← ho]; congr 1; omega) hlen (by rw [Nat.add_mul,Nat.one_mul]; exact hr2)
   have:=go len 0 r (by rw [zap,← hrl,← l1,hx.1]) (by rw [← hy.1,← hx.1,l1,l2]) (by simpa using he)
   rw [List.range_eq_range']
   exact this
end
end
section
section
variable {P:Program} {d:Nat} {out:yLM} {β:Pl} {W:World} {a:Act} {o:Oper} {t:List IV} {own own' ownV:yLO} {e:Eff} {v:IV} {n0:Nat}
theorem Ym {u:TypeDesc} (h:aggD u=true) (ws:Array Value):mkVal u ws.toList=.agg ws:=by simp [mkVal,h]
theorem s_eqagg {op:BinOp} {neg:Bool} {ty ty':TypeId} {u:TypeDesc} {ks:List Nat} {x y:Operand} {x' y':Opd} (ho:o.op=.binOp op ty x y ty') (hop:op=if neg then .neq else .eql) (hu:P.underlying ty=some u) (hag:aggD u=true) (hg:P.eqGuardType P.depth ty=false)
  (hk:cellK P 40 ty=some ks) (ht:TR β W t a.tmps) (hx:cOpd x=some x') (hy:cOpd y=some y') (he:e_eqagg own t neg ks x' y'=some (e,v,own')):e=.p/\own'=own/\PureOK P β W a.eval o v:=by
 have hv:=ht.eval hx
 have hw:=ht.eval hy
 unfold e_eqagg at he
 split at he
 ·rename_i xs ys h1 h2
  obtain ⟨z,hz,rfl,rfl,rfl⟩:=ZQ he
  rw [h1] at hv; rw [h2] at hw
  obtain ⟨ws,hws,q1⟩:=aggI hv
  obtain ⟨us,hus,q2⟩:=aggI hw
  have hq:=flat_eq (P:=P) (W:=W) 40 ty 10000 ks u xs ys ws.toList us.toList z hk (by omega) hu hws hus hz
  rw [Ym hag,Ym hag] at hq
  refine ⟨rfl,rfl,.bool (neg != z),?_,.bool _⟩
  cases neg
  ·subst hop
   simp only [execOp,ho,q1,q2,zat,run_eqGuard_agg W _ _ _ _ _ _ hg,zan,zaz,if_false,run_eql_struct,hq,zay,Bool.false_bne]
  ·subst hop
   simp only [execOp,ho,q1,q2,zat,run_eqGuard_agg W _ _ _ _ _ _ hg,zan,if_true,run_neq_struct,hq,zay,Bool.true_bne]
 ·simp at he
theorem val_cells {ty:TypeId} {u:TypeDesc} {D:Nat} {ks:List Nat} {v:IV} {x:Value} (hk:cellK P D ty=some ks) (hu:P.underlying ty=some u) (hv:VR β W v x) (hl:v.cells.length=ks.length) (hag:aggD u=true->∃ cs,v=.agg cs) (hna:aggD u=false->v.scalar=true):mkVal u x.cells.toList=x:=by
 cases ha:aggD u with
 | true =>
  obtain ⟨cs,rfl⟩:=hag ha
  obtain ⟨ws,_,rfl⟩:=aggI hv
  exact Ym ha ws
 | false =>
  have hs:=Zr hv (hna ha)
  cases x <;> first | (simp [Value.oneCell'] at hs; done) | (simp [mkVal,ha,Value.cells])
theorem flat_check (em:Bool):∀ (D:Nat) (ty:TypeId) (E:Nat) (ks:List Nat) (u:TypeDesc) (ws:List Value),cellK P D ty=some ks->D<=E->P.underlying ty=some u->ws.length=ks.length->(Instr.checkKey em E ty (mkVal u ws)).run P W=.ok () W:=by
 intro D
 induction D with
 | zero=>intro ty E ks u ws h; simp [cellK] at h
 | succ D ih =>
  intro ty E ks u ws h hE hu hl
  obtain ⟨E,rfl⟩:∃ E',E=E'+1:=⟨E - 1,by omega⟩
  obtain ⟨D',u',hD,hu',hs,hc⟩:=yc h
  obtain rfl:D=D':=by omega
  rw [hu] at hu'
  obtain rfl:=zbh hu'
  rcases hc with ⟨rfl,rfl⟩ | ⟨q,rfl,rfl⟩ | ⟨rfl,rfl⟩ | ⟨fs,rfl,hst,hcat⟩ | ⟨len,e,l,rfl,hl',rfl⟩
  ·simp [Instr.checkKey,run_underlying hu]
  ·simp [Instr.checkKey,run_underlying hu]
  ·simp [Instr.checkKey,run_underlying hu]
  ·simp only [mkVal,aggD,if_true,Instr.checkKey,zat,run_underlying hu,zan]
   rw [← Array.forIn_toList]
   have go:∀ (fl:List Field) (off:Nat) (kl:List Nat),catK (cellK P D) fl off=some kl->off+kl.length=ws.length ->
     (forIn fl PUnit.unit fun f _=>(do
      if f.name ≠ "_" then do
       let z ← part f.type ws.toArray f.offset
       Instr.checkKey em E f.type z
       pure PUnit.unit
      else pure PUnit.unit
      pure (ForInStep.yield PUnit.unit):Sem (ForInStep PUnit))).run P W=.ok PUnit.unit W:=by
    intro fl
    induction fl with
    | nil=>intro off kl _ _; simp
    | cons f fl ihf =>
     intro off kl hk ho
     simp only [catK] at hk
     split at hk
     ·rename_i hnm
      split at hk
      ·rename_i a1 ha1
       split at hk
       ·rename_i b1 hb1
        cases hk
        simp only [zaw] at ho
        obtain ⟨_,uf,_,huf,_,_⟩:=yc ha1
        have p1:=yJ (W:=W) ha1 huf ws off (by omega)
        have q1:=ih f.type E a1 uf ((ws.drop off).take a1.length) ha1 (by omega) huf (by simp; omega)
        have r1:=ihf (off+a1.length) b1 hb1 (by omega)
        simp only [List.forIn_cons,zat,hnm.1,ne_eq,not_false_eq_true,if_true,hnm.2,p1,zan,q1,zay]
        simpa using r1
       ·simp at hk
      ·simp at hk
     ·simp at hk
   have:=go fs.toList 0 ks hcat (by omega)
   simp at this ⊢
   rw [this]
   rfl
  ·simp only [mkVal,aggD,if_true,Instr.checkKey,zat,run_underlying hu,zan]
   obtain ⟨_,ue,_,hue,hse,_⟩:=yc hl'
   simp only [Std.Legacy.Range.forIn_eq_forIn_range',Std.Legacy.Range.size,Nat.sub_zero,Nat.add_one_sub_one,Nat.div_one]
   have hrl:∀ n,(repK l n).length=n*l.length:=by
    intro n
    induction n with
    | zero=>simp [repK]
    | succ n ih=>simp only [repK,zaw,ih,Nat.add_mul,Nat.one_mul]; omega
   have go:∀ (m i:Nat),(i+m)*l.length=ws.length ->
     (forIn (List.range' i m) PUnit.unit fun j _=>(do
      let s ← sizeOf e
      let z ← part e ws.toArray (j*s)
      Instr.checkKey em E e z
      pure (ForInStep.yield PUnit.unit):Sem (ForInStep PUnit))).run P W=.ok PUnit.unit W:=by
    intro m
    induction m with
    | zero=>intro i _; simp
    | succ m ihm =>
     intro i ho
     have hle:i*l.length+l.length<=ws.length:=by
      rw [← ho,← Nat.succ_mul]; exact Nat.mul_le_mul_right _ (by omega)
     have p1:=yJ (W:=W) hl' hue ws (i*l.length) hle
     have q1:=ih e E l ue ((ws.drop (i*l.length)).take l.length) hl' (by omega) hue (by simp; omega)
     have r1:=ihm (i+1) (by rw [← ho]; congr 1; omega)
     simp only [List.range'_succ,List.forIn_cons,zat,zJ hse,p1,zan,q1,zay]
     simpa using r1
   have:=go len 0 (by rw [zap,← hrl]; omega)
   simp at this ⊢
   rw [this]
   rfl
theorem key_val {ty:TypeId} {u:TypeDesc} {D:Nat} {ks:List Nat} {v:IV} {x:Value} (hk:cellK P D ty=some ks) (hu:P.underlying ty=some u) (hv:VR β W v x) (hl:v.cells.length=ks.length) (ho:kindB (aggD u) v=true):mkVal u x.cells.toList=x :=
 val_cells hk hu hv hl (fun h=>by
  unfold kindB at ho; rw [if_pos h] at ho
  cases v <;> first | exact ⟨_,rfl⟩ | simp at ho) (fun h=>by unfold kindB at ho; rw [if_neg (by simp [h])] at ho; exact ho)
theorem eqkE {kt:Bool × List Nat} {v w:IV} {r:Bool} (h:eqk kt v w=some r):kindB kt.1 v=true/\kindB kt.1 w=true/\eqvs kt.2 v.cells w.cells=some r:=by
 unfold eqk at h
 split at h
 ·rename_i hk; simp only [za3] at hk; exact ⟨hk.1,hk.2,h⟩
 ·simp at h
theorem key_eq {ty:TypeId} {u:TypeDesc} {ks:List Nat} {v w:IV} {x y:Value} {r:Bool} (hk:cellK P 40 ty=some ks) (hu:P.underlying ty=some u) (hv:VR β W v x) (hw:VR β W w y) (he:eqk (aggD u,ks) v w=some r):(Op.equal ty x y).run P W=.ok r W:=by
 obtain ⟨h1,h2,he⟩:=eqkE he
 obtain ⟨l1,l2⟩:=y3 he
 have:=flat_eq (P:=P) (W:=W) 40 ty 10000 ks u v.cells w.cells x.cells.toList y.cells.toList r hk (by omega) hu (zA hv) (zA hw) he
 rw [key_val hk hu hv l1 h1,key_val hk hu hw l2 h2] at this
 exact this
theorem eqv_true {k:Nat} {x y:IV} {a b:Value} (h:eqv k x y=some true) (hx:VR β W x a) (hy:VR β W y b):a=b/\∀ n,Instr.sameBits n a b=true:=by
 unfold eqv at h
 split at h
 ·split at h
  ·rename_i hq
   obtain ⟨rfl,rfl⟩:=hq
   simp only [zao,beq_iff_eq] at h
   subst h
   rw [ZB hx,ZB hy]
   exact ⟨rfl,fun n=>by cases n <;> simp [Instr.sameBits]⟩
  ·simp at h
 ·rename_i m n
  split at h
  ·simp only [zao] at h
   have hmn:m=n:=by
    have:=eq_of_beq h
    rw [ByteArray.toList_eq,ByteArray.toList_eq] at this
    cases m; cases n
    simp only [ByteArray.mk.injEq]
    exact Array.ext' this
   subst hmn
   rw [Yk hx,Yk hy]
   exact ⟨rfl,fun n=>by cases n <;> (simp only [Instr.sameBits]; rw [beq_toListBytes]; exact h)⟩
  ·simp at h
 ·split at h
  ·simp only [zao,beq_iff_eq] at h
   subst h
   rw [yZ hx,yZ hy]
   exact ⟨rfl,fun n=>by cases n <;> simp [Instr.sameBits]⟩
  ·simp at h
 ·simp at h
theorem eqvs_true:∀ {ks:List Nat} {xs ys:List IV} {as bs:List Value},eqvs ks xs ys=some true->VRs β W xs as->VRs β W ys bs->as=bs/\∀ n,(as.zip bs).all (fun p=>Instr.sameBits n p.1 p.2)=true
 | [],[],[],as,bs,_,hx,hy=>by
  rw [zbb.1 hx.1.symm,zbb.1 hy.1.symm]; exact ⟨rfl,fun _=>rfl⟩
 | k::ks,x::xs,y::ys,as,bs,h,hx,hy=>by
  cases as with
  | nil=>exact absurd hx.1 (by simp)
  | cons a as =>
   cases bs with
   | nil=>exact absurd hy.1 (by simp)
   | cons b bs =>
    simp only [eqvs] at h
    split at h
    ·rename_i h1
     obtain ⟨e1,e2⟩:=eqv_true h1 (hx.2 0 x a rfl rfl) (hy.2 0 y b rfl rfl)
     obtain ⟨e3,e4⟩:=eqvs_true h ⟨by have:=hx.1; simpa using this,fun j p q hp hq=>hx.2 (j+1) p q (by simpa using hp) (by simpa using hq)⟩ ⟨by have:=hy.1; simpa using this,fun j p q hp hq=>hy.2 (j+1) p q (by simpa using hp) (by simpa using hq)⟩
     exact ⟨by rw [e1,e3],fun n=>by simp only [List.zip_cons_cons,List.all_cons,e2 n,e4 n,Bool.and_self]⟩
    ·split at h <;> simp at h
    ·simp at h
 | [],_::_,_,_,_,h,_,_=>by simp [eqvs] at h
 | [],[],_::_,_,_,h,_,_=>by simp [eqvs] at h
 | _::_,[],_,_,_,h,_,_=>by simp [eqvs] at h
 | _::_,_::_,[],_,_,h,_,_=>by simp [eqvs] at h
theorem eqk_true {kt:Bool × List Nat} {v w:IV} {x y:Value} (h:eqk kt v w=some true) (hv:VR β W v x) (hw:VR β W w y):x=y/\Instr.sameBits 10000 x y=true:=by
 obtain ⟨h1,h2,he⟩:=eqkE h
 obtain ⟨e1,e2⟩:=eqvs_true he (zA hv) (zA hw)
 have e3:=e2 9999
 have e4:=e2 10000
 have same:x.cells=y.cells:=Array.ext' e1
 unfold kindB at h1 h2
 cases hk:kt.1 with
 | true =>
  rw [hk,if_pos rfl] at h1 h2
  cases v <;> simp at h1
  cases w <;> simp at h2
  obtain ⟨ws,_,rfl⟩:=aggI hv
  obtain ⟨us,_,rfl⟩:=aggI hw
  simp only [Value.cells] at same
  subst same
  refine ⟨rfl,?_⟩
  show Instr.sameBits (9999+1) _ _=true
  simp only [Instr.sameBits,beq_self_eq_true,Bool.true_and]
  exact e3
 | false =>
  rw [hk,if_neg (by simp)] at h1 h2
  have s1:=Zr hv h1
  have s2:=Zr hw h2
  have c1:x.cells=#[x]:=by cases x <;> first | rfl | (simp [Value.oneCell'] at s1)
  have c2:y.cells=#[y]:=by cases y <;> first | rfl | (simp [Value.oneCell'] at s2)
  rw [c1,c2] at same e4
  have hxy:x=y:=by simpa using same
  refine ⟨hxy,?_⟩
  simpa using e4
end
end
section
section
variable {P:Program} {d:Nat} {out:yLM} {β:Pl} {W:World} {a:Act} {o:Oper} {t:List IV} {own own' ownV:yLO} {e:Eff} {v:IV} {n0:Nat}
def found (es:List MapEntry) (i:Nat):Option Nat->Option (Nat × Value)
 | none=>none
 | some j=>(es[j - i]?).map fun en=>(j,en.val)
theorem y4 {kt:Bool × List Nat} {key:IV}:∀ {ks:List IV} {i j:Nat},findIx kt key ks i=some (some j)->i<=j/\j<i+ks.length
 | [],i,j,h=>by simp [findIx] at h
 | k::ks,i,j,h=>by
  simp only [findIx] at h
  split at h
  ·cases h; simp
  ·have:=y4 h; simp; omega
  ·simp at h
theorem YO {en:MapEntry} {es:List MapEntry} {i:Nat} {r:Option Nat} (h:∀ j,r=some j->i+1<=j):found es (i+1) r=found (en::es) i r:=by
 cases r with
 | none=>rfl
 | some j =>
  have:=h j rfl
  simp only [found]
  rw [show j - i=(j - (i+1))+1 by omega,za1]
theorem YP {ty:TypeId} {u:TypeDesc} {ks0:List Nat} {key:IV} {x:Value} (hk:cellK P 40 ty=some ks0) (hu:P.underlying ty=some u) (hx:VR β W key x):∀ {ks:List IV} {es:List MapEntry} {i:Nat} {r:Option Nat},
  VRs β W ks (es.map (·.key))->findIx (aggD u,ks0) key ks i=some r->(Instr.findAsking ty x es i).run P W=.ok (found es i r) W
 | [],es,i,r,hl,h=>by
  have:es=[]:=by have:=hl.1; simpa using this.symm
  subst this
  simp only [findIx,zao] at h
  subst h
  rfl
 | k::ks,es,i,r,hl,h=>by
  cases es with
  | nil=>exact absurd hl.1 (by simp)
  | cons en es =>
   have h0:=hl.2 0 k en.key rfl rfl
   have hs:VRs β W ks (es.map (·.key)):=⟨by have:=hl.1; simpa using this,fun j p q hp hq=>hl.2 (j+1) p q (by simpa using hp) (by simpa using hq)⟩
   simp only [findIx] at h
   split at h
   ·rename_i hq
    cases h
    simp [Instr.findAsking,key_eq hk hu hx h0 hq,found]
   ·rename_i hq
    have ih:=YP hk hu hx hs h
    simp only [Instr.findAsking,zat,key_eq hk hu hx h0 hq,zan,zaz,if_false,ih]
    rw [YO (en:=en) (fun j hj=>by subst hj; exact (y4 h).1)]
   ·simp at h
theorem YQ {u:TypeDesc} {kt:Bool × List Nat} {key k:IV} {x y:Value} {r b:Bool} (hx:VR β W key x) (hy:VR β W k y) (h:eqk kt key k=some r) (hn:Instr.sameNow u x y=some b):b=r:=by
 obtain ⟨_,_,he⟩:=eqkE h
 have one:∀ {v w:IV},v.cells=[v]->w.cells=[w]->∀ {ks},eqvs ks v.cells w.cells=some r->∃ q,eqv q v w=some r:=fun hv hw ks he=>by
  rw [hv,hw] at he
  cases ks with
  | nil=>simp [eqvs] at he
  | cons q ks =>
   cases ks with
   | cons _ _=>simp only [eqvs] at he; split at he <;> simp at he
   | nil =>
    refine ⟨q,?_⟩
    simp only [eqvs] at he
    split at he
    ·rename_i h1; rw [h1]; exact he
    ·rename_i h1; rw [h1]; exact he
    ·simp at he
 unfold Instr.sameNow at hn
 split at hn
 ·rename_i q m q' n
  have e1:key=.int q m:=by cases hx; rfl
  have e2:k=.int q' n:=by cases hy; rfl
  subst e1; subst e2
  obtain ⟨z,hz⟩:=one rfl rfl he
  split at hn
  ·cases hn
   simp only [eqv] at hz
   split at hz
   ·exact zbh hz
   ·simp at hz
  ·simp at hn
 ·rename_i m n
  have e1:key=.str m:=by cases hx; rfl
  have e2:k=.str n:=by cases hy; rfl
  subst e1; subst e2
  obtain ⟨z,hz⟩:=one rfl rfl he
  cases hn
  simp only [eqv] at hz
  split at hz
  ·rw [beq_toListBytes]; exact zbh hz
  ·simp at hz
 ·rename_i m n
  have e1:key=.bool m:=by cases hx; rfl
  have e2:k=.bool n:=by cases hy; rfl
  subst e1; subst e2
  obtain ⟨z,hz⟩:=one rfl rfl he
  cases hn
  simp only [eqv] at hz
  split at hz
  ·exact zbh hz
  ·simp at hz
 ·simp at hn
theorem now_sim {u:TypeDesc} {kt:Bool × List Nat} {key:IV} {x:Value} (hx:VR β W key x):∀ {ks:List IV} {es:List MapEntry} {i:Nat} {r:Option Nat} {q:Option (Nat × Value)},
  VRs β W ks (es.map (·.key))->findIx kt key ks i=some r->Instr.findNow u x es i=some q->q=found es i r
 | [],es,i,r,q,hl,h,hq=>by
  have:es=[]:=by have:=hl.1; simpa using this.symm
  subst this
  simp only [findIx,zao] at h
  subst h
  simp only [Instr.findNow,zao] at hq
  exact hq.symm
 | k::ks,es,i,r,q,hl,h,hq=>by
  cases es with
  | nil=>exact absurd hl.1 (by simp)
  | cons en es =>
   have h0:=hl.2 0 k en.key rfl rfl
   have hs:VRs β W ks (es.map (·.key)):=⟨by have:=hl.1; simpa using this,fun j p q hp hq=>hl.2 (j+1) p q (by simpa using hp) (by simpa using hq)⟩
   simp only [findIx] at h
   simp only [Instr.findNow] at hq
   split at hq
   ·rename_i hn
    cases hq
    split at h
    ·cases h; simp [found]
    ·rename_i he; exact absurd (YQ hx h0 he hn) (by simp)
    ·simp at h
   ·rename_i hn
    split at h
    ·rename_i he; exact absurd (YQ hx h0 he hn) (by simp)
    ·rw [now_sim hx hs h hq,YO (en:=en) (fun j hj=>by subst hj; exact (y4 h).1)]
    ·simp at h
   ·simp at hq
theorem ZS {ty:TypeId} {u:TypeDesc} {ks0:List Nat} {key:IV} {x:Value} (hk:cellK P 40 ty=some ks0) (hu:P.underlying ty=some u) (hx:VR β W key x) {ks:List IV} {es:List MapEntry} {r:Option Nat} (hl:VRs β W ks (es.map (·.key))) (h:findIx (aggD u,ks0) key ks 0=some r) :
  (Instr.findKey ty x es).run P W=.ok (found es 0 r) W:=by
 simp only [Instr.findKey,zat,run_underlying hu,zan]
 cases hn:Instr.findNow u x es 0 with
 | none=>simp only; exact YP hk hu hx hl h
 | some q=>simp only [zay]; rw [now_sim hx hl h hn]
theorem check_sim {ty:TypeId} {u:TypeDesc} {ks0:List Nat} {key:IV} {x:Value} (em:Bool) (hk:cellK P 40 ty=some ks0) (hu:P.underlying ty=some u) (hx:VR β W key x) (hc:(kindB (aggD u) key&&key.cells.length==ks0.length)=true):(Instr.checkKey em 10000 ty x).run P W=.ok () W:=by
 simp only [za3,beq_iff_eq] at hc
 have hl:=(zA hx).1
 have:=flat_check (P:=P) (W:=W) em 40 ty 10000 ks0 u x.cells.toList hk (by omega) hu (by rw [← hl]; exact hc.2)
 rwa [key_val hk hu hx hc.2 hc.1] at this
theorem lookup_run {ty kt el:TypeId} {u:TypeDesc} {ks0:List Nat} {z:IV} {ok:Bool} {key:IV} {x m:Value} {ks vs:List IV} {es:Array MapEntry} {w:Option IV} (hm:P.underlying ty=some (.map kt el)) (hk:cellK P 40 kt=some ks0) (hu:P.underlying kt=some u) (hz:zeroT P el=some z)
  (hget:m=.map none/\es=#[]∨∃ k clock,m=.map (some k)/\W.heap[k]?=some (.map es clock)) (hx:VR β W key x) (hks:VRs β W ks (es.toList.map (·.key))) (hvs:VRs β W vs (es.toList.map (·.val))) (h:findK (aggD u,ks0) key ks vs=some w) :
  ∃ y,(Instr.lookup ty m x ok).run P W=.ok y W/\VR β W (if ok then .tuple [w.getD z,.bool w.isSome] else w.getD z) y:=by
 obtain ⟨i,zv,hi,hzv,hzr⟩:=z8 (β:=β) (W:=W) hz
 unfold findK at h
 split at h
 ·rename_i hc
  have hchk:=check_sim (P:=P) es.isEmpty hk hu hx hc
  have hzz:(zeroValue el).run P W=.ok zv W:=by simp [zeroValue,typeInfo,hi,hzv]
  have fin:∀ (fnd:Option (Nat × Value)) (w:Option IV),(Instr.findKey kt x es.toList).run P W=.ok fnd W->(w.isSome=fnd.isSome)->(∀ p q,w=some p->fnd=some q->VR β W p q.2) ->
    ∃ y,(Instr.lookup ty m x ok).run P W=.ok y W/\VR β W (if ok then .tuple [w.getD z,.bool w.isSome] else w.getD z) y:=by
   intro fnd w hf hs hv
   have key1:(Instr.lookup ty m x ok).run P W=.ok (match fnd with | some (_,y)=>if ok then .tuple #[y,.bool true] else y | none=>if ok then .tuple #[zv,.bool false] else zv) W:=by
    unfold Instr.lookup
    rcases hget with ⟨rfl,rfl⟩ | ⟨k,clock,rfl,hh⟩
    ·simp only [zat,run_underlying hm,zan,zay,hchk,hf]
     cases fnd with
     | none=>simp only [zat,hzz,zan,zay]
     | some q=>simp only [zat,zay,zan]
    ·have hg:(getObj k).run P W=.ok (.map es clock) W:=by simp [getObj,Sem.run,hh]
     simp only [zat,run_underlying hm,zan,zay,hg,hchk,hf]
     cases fnd with
     | none=>simp only [zat,hzz,zan,zay]
     | some q=>simp only [zat,zay,zan]
   rw [key1]
   cases fnd with
   | none =>
    cases w with
    | some _=>simp at hs
    | none =>
     refine ⟨_,rfl,?_⟩
     cases ok
     ·exact hzr
     ·exact .tuple rfl (fun j p q hp hq=>by
       rcases j with _ | _ | j
       ·simp at hp hq; rw [← hp,← hq]; exact hzr
       ·simp at hp hq; rw [← hp,← hq]; exact .bool _
       ·simp at hp)
   | some q =>
    cases w with
    | none=>simp at hs
    | some p =>
     have hpq:=hv p q rfl rfl
     obtain ⟨q1,q2⟩:=q
     refine ⟨_,rfl,?_⟩
     cases ok
     ·exact hpq
     ·exact .tuple rfl (fun j p' q' hp hq=>by
       rcases j with _ | _ | j
       ·simp at hp hq; rw [← hp,← hq]; exact hpq
       ·simp at hp hq; rw [← hp,← hq]; exact .bool _
       ·simp at hp)
  split at h
  ·rename_i j hj
   cases hvj:vs[j]? with
   | none=>rw [hvj] at h; simp at h
   | some p =>
    rw [hvj] at h; cases h
    obtain ⟨q,hq,hpq⟩:=hvs.get hvj
    rw [zbs] at hq
    cases hej:es.toList[j]? with
    | none=>rw [hej] at hq; simp at hq
    | some en =>
     rw [hej] at hq; cases hq
     exact fin _ (some p) (ZS hk hu hx hks hj) (by simp [found,hej]) (fun p' q' hp hq=>by simp [found,hej] at hq; cases hp; rw [← hq]; exact hpq)
  ·rename_i hj
   cases h
   exact fin _ none (ZS hk hu hx hks hj) rfl (fun p q hp=>by simp at hp)
  ·simp at h
 ·simp at h
end
end
section
section
variable {P:Program} {d:Nat} {out:yLM} {β:Pl} {W:World} {a:Act} {o:Oper} {t:List IV} {own own' ownV:yLO} {e:Eff} {v:IV} {n0:Nat}
theorem or_map {ks vs:List IV} {bs:List Nat} {clock k s:Nat} (h:OR β W k s (.map ks vs bs clock)):∃ es:Array MapEntry,W.heap[k]?=some (.map es clock)/\VRs β W ks (es.toList.map (·.key))/\VRs β W vs (es.toList.map (·.val))/\bs=es.toList.map (·.born):=by
 obtain ⟨es,h1,h2,h3,h4,h5⟩:=h
 refine ⟨es,h1,⟨by simp [h2],fun j x y hx hy=>?_⟩,⟨by simp [h3],fun j x y hx hy=>?_⟩,?_⟩
 ·rw [zbs,za2] at hy
  cases he:es[j]? with
  | none=>rw [he] at hy; simp at hy
  | some en=>rw [he] at hy; cases hy; exact (h5 j en he).1 x hx
 ·rw [zbs,za2] at hy
  cases he:es[j]? with
  | none=>rw [he] at hy; simp at hy
  | some en=>rw [he] at hy; cases hy; exact (h5 j en he).2.1 x hx
 ·apply List.ext_getElem?
  intro j
  rw [zbs,za2 (xs:=es)]
  cases he:es[j]? with
  | none =>
   have:es.size<=j:=by simpa using he
   rw [List.getElem?_eq_none (by omega)]; rfl
  | some en =>
   have hj:j<bs.length:=by have:=(za6.1 he).1; omega
   rw [zak hj,za5,(h5 j en he).2.2 _ (zak hj)]
theorem map_or {ks vs:List IV} {es:Array MapEntry} {clock k s:Nat} (h1:W.heap[k]?=some (.map es clock)) (hk:VRs β W ks (es.toList.map (·.key))) (hv:VRs β W vs (es.toList.map (·.val))):OR β W k s (.map ks vs (es.toList.map (·.born)) clock):=by
 refine ⟨es,h1,by have:=hk.1; simpa using this,by have:=hv.1; simpa using this,by simp,fun j en he=>⟨fun x hx=>hk.2 j x _ hx ?_,fun x hx=>hv.2 j x _ hx ?_,fun x hx=>?_⟩⟩
 ·simp [he]
 ·simp [he]
 ·simp [he] at hx; exact hx
theorem mapCI {ks vs:List IV} {x:Value} (h:VR β W (.mapC ks vs) x):∃ (k:Nat) (es:Array MapEntry) (clock:Nat),x=.map (some k)/\W.heap[k]?=some (.map es clock)/\VRs β W ks (es.toList.map (·.key))/\VRs β W vs (es.toList.map (·.val)):=by
 cases h with
 | mapC en hk hm hn hn' he hkv hvv =>
  refine ⟨_,_,_,rfl,hm,⟨by simp [hn],fun j x y hx hy=>?_⟩,⟨by simp [hn,hn'],fun j x y hx hy=>?_⟩⟩
  ·have hj:=(zal.1 hx).1
   rw [zbs,za2,he j hj] at hy
   cases hy
   exact hkv j x hx
  ·have hj:j<ks.length:=hn' ▸ (zal.1 hx).1
   rw [zbs,za2,he j hj] at hy
   cases hy
   exact hvv j x hx
theorem s_lookup {ty kt el:TypeId} {u:TypeDesc} {ks0:List Nat} {z:IV} {ok:Bool} {x y:Operand} {x' y':Opd} (ho:o.op=.lookup ty x y ok) (hm:P.underlying ty=some (.map kt el)) (hk:cellK P 40 kt=some ks0) (hu:P.underlying kt=some u) (hz:zeroT P el=some z)
  (hx:cOpd x=some x') (hy:cOpd y=some y') (ht:TR β W t a.tmps) (hR:RS β (look d out own) W) (hV:Vis ownV own) (he:e_lookup d out ownV own t z (aggD u,ks0) ok x' y'=some (e,v,own')):own'=own/\PureOK P β W a.eval o v:=by
 have hv:=ht.eval hx
 have hw:=ht.eval hy
 unfold e_lookup at he
 have fin:∀ (m:Value) (ks vs:List IV) (es:Array MapEntry) (w:Option IV),a.eval x=m->(m=.map none/\es=#[]∨∃ k clock,m=.map (some k)/\W.heap[k]?=some (.map es clock))->VRs β W ks (es.toList.map (·.key))->VRs β W vs (es.toList.map (·.val)) ->
   findK (aggD u,ks0) (ρ t y') ks vs=some w->PureOK P β W a.eval o (if ok then .tuple [w.getD z,.bool w.isSome] else w.getD z):=fun m ks vs es w hq hget h1 h2 hf=>by
  obtain ⟨r,hr,hvr⟩:=lookup_run (P:=P) (ok:=ok) hm hk hu hz hget hw h1 h2 hf
  exact ⟨r,by simp only [execOp,ho,hq,zat,hr,zan,zay],hvr⟩
 split at he
 ·rename_i q1
  rw [q1] at hv
  have hxx:=nilmapI hv
  cases hf:findK (aggD u,ks0) (ρ t y') [] [] with
  | none=>rw [hf] at he; simp at he
  | some w =>
   rw [hf] at he
   cases he
   exact ⟨rfl,fin _ [] [] #[] w hxx (.inl ⟨rfl,rfl⟩) .nil .nil hf⟩
 ·rename_i ks vs q1
  rw [q1] at hv
  obtain ⟨k,es,clock,hxx,hh,h1,h2⟩:=mapCI hv
  cases hf:findK (aggD u,ks0) (ρ t y') ks vs with
  | none=>rw [hf] at he; simp at he
  | some w =>
   rw [hf] at he
   cases he
   exact ⟨rfl,fin _ ks vs es w hxx (.inr ⟨k,clock,rfl,hh⟩) h1 h2 hf⟩
 ·rename_i l i q1
  rw [q1] at hv
  obtain ⟨k,s,hb,hxx⟩:=mapMI hv
  split at he
  ·rename_i ks vs bs clock hg
   obtain ⟨es,hh,h1,h2,_⟩:=or_map (hR.obj _ _ _ _ _ hb (Zp hV hg rfl))
   cases hf:findK (aggD u,ks0) (ρ t y') ks vs with
   | none=>rw [hf] at he; simp at he
   | some w =>
    rw [hf] at he
    cases he
    exact ⟨rfl,fin _ ks vs es w hxx (.inr ⟨k,clock,rfl,hh⟩) h1 h2 hf⟩
  ·simp at he
 ·simp at he
theorem s_mapupd {ty kt el:TypeId} {u:TypeDesc} {ks0:List Nat} {m x y:Operand} {m' x' y':Opd} (ho:o.op=.mapUpdate ty m x y) (hm:P.underlying ty=some (.map kt el)) (hk:cellK P 40 kt=some ks0) (hu:P.underlying kt=some u)
  (hmm:cOpd m=some m') (hx:cOpd x=some x') (hy:cOpd y=some y') (ht:TR β W t a.tmps) (hR:RS β (look d out own) W) (he:e_mapupd d own t (aggD u,ks0) m' x' y'=some (e,v,own')):StepOK P d out β W a.eval o v own':=by
 have hv:=ht.eval hmm
 have hw:=ht.eval hx
 have hz:=ht.eval hy
 unfold e_mapupd at he
 split at he
 ·rename_i l i q1
  rw [q1] at hv
  obtain ⟨k,s,hb,hxx⟩:=mapMI hv
  split at he
  ·rename_i ks vs bs clock hg
   split at he
   ·rename_i hc
    obtain ⟨rfl,hc⟩:=hc
    have hg':look l out own l i=some (.map ks vs bs clock):=by rw [zY]; exact hg
    obtain ⟨es,hh,h1,h2,rfl⟩:=or_map (hR.obj _ _ _ _ _ hb hg')
    have hchk:=check_sim (P:=P) false hk hu hw hc
    have hget:(getObj k).run P W=.ok (.map es clock) W:=by simp [getObj,Sem.run,hh]
    have hset:∀ O:Obj,(setObj k O).run P W=.ok () { W with heap:=W.heap.setIfInBounds k O }:=fun O=>by simp [setObj,Sem.run,hh]
    have hkl:k<W.heap.size:=hR.here _ _ _ _ hb
    have step:∀ (es':Array MapEntry) (clock':Nat) (ks' vs':List IV),(execOp a.eval o).run P W=.ok .skip { W with heap:=W.heap.setIfInBounds k (.map es' clock') }->VRs β W ks' (es'.toList.map (·.key))->VRs β W vs' (es'.toList.map (·.val)) ->
      StepOK P l out β W a.eval o (.tuple []) (own.set i (.map ks' vs' (es'.toList.map (·.born)) clock')):=fun es' clock' ks' vs' hrun g1 g2=>by
     have hO:Ext β W β { W with heap:=W.heap.setIfInBounds k (.map es' clock') }->OR β { W with heap:=W.heap.setIfInBounds k (.map es' clock') } k s (.map ks' vs' (es'.toList.map (·.born)) clock') :=
      fun ex=>map_or (by show (W.heap.setIfInBounds k _)[k]?=_; simp [hkl]) (g1.ext ex) (g2.ext ex)
     obtain ⟨hR',hF⟩:=rs_upd (W':={ W with heap:=W.heap.setIfInBounds k (.map es' clock') }) hR hg rfl hb (fun k2 hk2=>by show (W.heap.setIfInBounds k _)[k2]?=_; rw [Array.getElem?_setIfInBounds_ne (Ne.symm hk2)]) (by simp) (fun c2 t2 f2 hc2=>by rw [hh] at hc2; cases hc2) rfl rfl rfl hO rfl
     exact ⟨.skip,β,_,hrun,rfl,hR',hF⟩
    split at he
    ·rename_i j hj
     cases he
     rw [zf,zf]
     have hfind:=ZS (P:=P) hk hu hw h1 hj
     obtain ⟨_,hjl⟩:=y4 hj
     have hjs:j<es.size:=by have:=h1.1; simp at this; omega
     have hej:es[j]?=some es[j]:=by simp [hjs]
     have same:a.eval x=es[j].key/\Instr.sameBits 10000 es[j].key (a.eval x)=true:=by
      have:∀ {ks:List IV} {es:List MapEntry} {i j:Nat} {en:MapEntry},VRs β W ks (es.map (·.key))->findIx (aggD u,ks0) (ρ t x') ks i=some (some j)->es[j - i]?=some en->a.eval x=en.key/\Instr.sameBits 10000 (a.eval x) en.key=true:=by
       intro ks
       induction ks with
       | nil=>intro es i j en _ h; simp [findIx] at h
       | cons k0 ks ih =>
        intro es i j en hl h hen
        cases es with
        | nil=>exact absurd hl.1 (by simp)
        | cons e0 es =>
         simp only [findIx] at h
         split at h
         ·rename_i hq
          cases h
          rw [Nat.sub_self] at hen
          cases hen
          exact eqk_true hq hw (hl.2 0 k0 _ rfl rfl)
         ·have hge:=(y4 h).1
          refine ih ⟨by have:=hl.1; simpa using this,fun j p q hp hq=>hl.2 (j+1) p q (by simpa using hp) (by simpa using hq)⟩ h ?_
          rw [show j - i=(j - (i+1))+1 by omega,za1] at hen
          exact hen
         ·simp at h
      obtain ⟨s1,s2⟩:=this (en:=es[j]) h1 hj (by rw [Nat.sub_zero,za2]; exact hej)
      exact ⟨s1,by rw [s1] at s2 ⊢; exact s2⟩
     have hb':es.toList.map (·.born)=(es.modify j fun e=>{ e with key:=a.eval x,val:=a.eval y }).toList.map (·.born):=by
      apply List.ext_getElem?
      intro q
      simp only [zbs,za2,Array.getElem?_modify]
      split
      ·cases es[q]? <;> rfl
      ·rfl
     rw [hb']
     refine step _ clock ks (vs.set j (ρ t y')) ?_ ?_ ?_
     ·simp only [execOp,ho,hxx,zat,Instr.mapUpdate,run_underlying hm,zan,hget,hchk,hfind,found,Nat.sub_zero,za2,hej,za5,zba,Instr.keyThatStays,same.2,if_true,zay,hset]
     ·refine ⟨by have:=h1.1; simp at this ⊢; exact this,fun q p r hp hr=>?_⟩
      simp only [zbs,za2,Array.getElem?_modify] at hr
      split at hr
      ·rename_i hqj
       subst hqj
       rw [hej] at hr
       cases hr
       show VR β W p (a.eval x)
       rw [same.1]
       exact h1.2 j p _ hp (by simp [hjs])
      ·exact h1.2 q p r hp (by simpa using hr)
     ·refine ⟨by have:=h2.1; simp at this ⊢; exact this,fun q p r hp hr=>?_⟩
      simp only [zbs,za2,Array.getElem?_modify] at hr
      rw [List.getElem?_set] at hp
      split at hr
      ·rename_i hqj
       subst hqj
       rw [hej] at hr
       cases hr
       rw [if_pos rfl] at hp
       split at hp
       ·cases hp; exact hz
       ·simp at hp
      ·rename_i hqj
       rw [if_neg hqj] at hp
       exact h2.2 q p r hp (by simpa using hr)
    ·rename_i hj
     cases he
     simp only [zf]
     have hfind:=ZS (P:=P) hk hu hw h1 hj
     have hb':es.toList.map (·.born)++[clock]=(es.push { key:=a.eval x,val:=a.eval y,born:=clock }).toList.map (·.born):=by simp
     rw [hb']
     refine step _ (clock+1) (ks++[ρ t x']) (vs++[ρ t y']) ?_ ?_ ?_
     ·simp only [execOp,ho,hxx,zat,Instr.mapUpdate,run_underlying hm,zan,hget,hchk,hfind,found,zay,hset]
     ·rw [Array.toList_push,List.map_append]
      exact h1.append (.cons hw .nil)
     ·rw [Array.toList_push,List.map_append]
      exact h2.append (.cons hz .nil)
    ·simp at he
   ·simp at he
  ·simp at he
 ·simp at he
end
end
section
section
variable {P:Program} {d:Nat} {out:yLM} {β:Pl} {W:World} {a:Act} {o:Oper} {t:List IV} {own own' ownV:yLO} {e:Eff} {v:IV} {n0:Nat}
theorem one_arg {c:Go.Call} {x:Operand} (h:c.args.toList=[x]):c.args=#[x]:=by rw [← Array.toArray_toList (xs:=c.args),h]
theorem two_args {c:Go.Call} {x y:Operand} (h:c.args.toList=[x,y]):c.args=#[x,y]:=by rw [← Array.toArray_toList (xs:=c.args),h]
theorem s_len {c:Go.Call} {ty:TypeId} {u:TypeDesc} {k:Nat} {x:Operand} {x':Opd} (ho:o.op=.call c) (hcal:c.callee=.builtin .len) (hargs:c.args.toList=[x]) (hty:c.argTypes[0]?=some ty) (hu:P.underlying ty=some u)
  (hk:(u=.string/\k=0)∨(∃ el,u=.slice el/\k=1)∨(∃ kt el,u=.map kt el/\k=2)) (hx:cOpd x=some x') (ht:TR β W t a.tmps) (hR:RS β (look d out own) W) (hV:Vis ownV own) (he:e_len d out ownV own t k x'=some (e,v,own')) :
  own'=own/\PureOK P β W a.eval o v:=by
 have hv:=ht.eval hx
 have hargs':=one_arg hargs
 have fin:∀ (y:Value) (n:Nat),a.eval x=y->(∀ ty',(Builtin.len_ c.argTypes ty' #[y]).run P W=.ok (goInt n) W)->PureOK P β W a.eval o (.int .i64 n):=fun y n hq hr =>
  ⟨.int .i64 n,by simp only [execOp,ho,resolve,hcal,hargs',List.map_toArray,List.map_cons,List.map_nil,hq,zat,zay,zan,invoke,builtin,hr]; rfl,.int _ _⟩
 have h0:∀ y:Value,(#[y]:Array Value)[0]?=some y:=fun _=>rfl
 unfold e_len at he
 split at he
 ·rename_i q1
  rw [q1] at hv
  split at he
  ·rename_i hk1
   cases he
   obtain ⟨el,rfl⟩:∃ el,u=.slice el:=by rcases hk with ⟨_,h⟩ | ⟨el,h,_⟩ | ⟨_,_,_,h⟩ <;> first | exact ⟨_,h⟩ | omega
   exact ⟨rfl,fin _ 0 (yb hv) fun ty'=>by simp [Builtin.len_,hty,run_underlying hu]⟩
  ·simp at he
 ·rename_i l i off n cp sz tg q1
  rw [q1] at hv
  split at he
  ·rename_i hk1
   cases he
   obtain ⟨el,rfl⟩:∃ el,u=.slice el:=by rcases hk with ⟨_,h⟩ | ⟨el,h,_⟩ | ⟨_,_,_,h⟩ <;> first | exact ⟨_,h⟩ | omega
   obtain ⟨_,_,_,_,_,_,_,_,_,hq⟩:=slMI hv
   exact ⟨rfl,fin _ n hq fun ty'=>by simp [Builtin.len_,hty,run_underlying hu]⟩
  ·simp at he
 ·rename_i cs n sz tg q1
  rw [q1] at hv
  split at he
  ·rename_i hk1
   cases he
   obtain ⟨el,rfl⟩:∃ el,u=.slice el:=by rcases hk with ⟨_,h⟩ | ⟨el,h,_⟩ | ⟨_,_,_,h⟩ <;> first | exact ⟨_,h⟩ | omega
   obtain ⟨_,_,_,_,_,_,_,_,_,_,hq⟩:=slCI hv
   exact ⟨rfl,fin _ n hq fun ty'=>by simp [Builtin.len_,hty,run_underlying hu]⟩
  ·simp at he
 ·rename_i s q1
  rw [q1] at hv
  split at he
  ·rename_i hk1
   cases he
   obtain rfl:u=.string:=by rcases hk with ⟨h,_⟩ | ⟨el,_,h⟩ | ⟨_,_,_,h⟩ <;> first | exact h | omega
   exact ⟨rfl,fin _ s.size (Yk hv) fun ty'=>by simp [Builtin.len_,hty,run_underlying hu]⟩
  ·simp at he
 ·rename_i q1
  rw [q1] at hv
  split at he
  ·rename_i hk1
   cases he
   obtain ⟨kt,el,rfl⟩:∃ kt el,u=.map kt el:=by rcases hk with ⟨_,h⟩ | ⟨el,_,h⟩ | ⟨_,_,h,_⟩ <;> first | exact ⟨_,_,h⟩ | omega
   exact ⟨rfl,fin _ 0 (nilmapI hv) fun ty'=>by simp [Builtin.len_,hty,run_underlying hu]⟩
  ·simp at he
 ·rename_i ks vs q1
  rw [q1] at hv
  split at he
  ·rename_i hk1
   cases he
   obtain ⟨kt,el,rfl⟩:∃ kt el,u=.map kt el:=by rcases hk with ⟨_,h⟩ | ⟨el,_,h⟩ | ⟨_,_,h,_⟩ <;> first | exact ⟨_,_,h⟩ | omega
   obtain ⟨k,es,clock,hq,hh,h1,_⟩:=mapCI hv
   have hg:(getObj k).run P W=.ok (.map es clock) W:=by simp [getObj,Sem.run,hh]
   have hl:ks.length=es.size:=by have:=h1.1; simpa using this
   exact ⟨rfl,fin _ ks.length hq fun ty'=>by simp [Builtin.len_,hty,run_underlying hu,hg,hl]⟩
  ·simp at he
 ·rename_i l i q1
  rw [q1] at hv
  split at he
  ·rename_i hk1
   split at he
   ·rename_i ks vs bs clock hgg
    cases he
    obtain ⟨kt,el,rfl⟩:∃ kt el,u=.map kt el:=by rcases hk with ⟨_,h⟩ | ⟨el,_,h⟩ | ⟨_,_,h,_⟩ <;> first | exact ⟨_,_,h⟩ | omega
    obtain ⟨k,s,hb,hq⟩:=mapMI hv
    obtain ⟨es,hh,h1,_,_⟩:=or_map (hR.obj _ _ _ _ _ hb (Zp hV hgg rfl))
    have hg:(getObj k).run P W=.ok (.map es clock) W:=by simp [getObj,Sem.run,hh]
    have hl:ks.length=es.size:=by have:=h1.1; simpa using this
    exact ⟨rfl,fin _ ks.length hq fun ty'=>by simp [Builtin.len_,hty,run_underlying hu,hg,hl]⟩
   ·simp at he
  ·simp at he
 ·simp at he
theorem s_cap {c:Go.Call} {ty el:TypeId} {x:Operand} {x':Opd} (ho:o.op=.call c) (hcal:c.callee=.builtin .cap) (hargs:c.args.toList=[x]) (hty:c.argTypes[0]?=some ty) (hu:P.underlying ty=some (.slice el)) (hx:cOpd x=some x') (ht:TR β W t a.tmps)
  (he:e_cap own t x'=some (e,v,own')):e=.p/\own'=own/\PureOK P β W a.eval o v:=by
 have hv:=ht.eval hx
 have hargs':=one_arg hargs
 have fin:∀ (y:Value) (n:Nat),a.eval x=y->(∀ ty',(Builtin.cap_ c.argTypes ty' #[y]).run P W=.ok (goInt n) W)->PureOK P β W a.eval o (.int .i64 n):=fun y n hq hr =>
  ⟨.int .i64 n,by simp only [execOp,ho,resolve,hcal,hargs',List.map_toArray,List.map_cons,List.map_nil,hq,zat,zay,zan,invoke,builtin,hr]; rfl,.int _ _⟩
 unfold e_cap at he
 split at he
 ·rename_i q1
  cases he
  rw [q1] at hv
  exact ⟨rfl,rfl,fin _ 0 (yb hv) fun ty'=>by simp [Builtin.cap_,hty,run_underlying hu]⟩
 ·rename_i l i off n cp sz q1
  cases he
  rw [q1] at hv
  obtain ⟨_,_,_,cap',_,_,_,_,htt,hq⟩:=slMI hv
  obtain rfl:cap'=cp:=htt rfl
  exact ⟨rfl,rfl,fin _ cap' hq fun ty'=>by simp [Builtin.cap_,hty,run_underlying hu]⟩
 ·simp at he
end
end
section
section
variable {P:Program} {d:Nat} {out:yLM} {β:Pl} {W:World} {a:Act} {o:Oper} {t:List IV} {own own' ownV:yLO} {e:Eff} {v:IV} {n0:Nat}
theorem grow_room {need sCap b:Nat} (hneed:need<=2 ^ 30) (hcap:sCap<need) (hb:b<=1024):¬ (281474976710656<Builtin.nextslicecap need sCap*b):=by
 have h1:=nextslicecap_le hcap
 have h2:Builtin.nextslicecap need sCap<=2147483648:=by omega
 have h3:Builtin.nextslicecap need sCap*b<=2147483648*1024:=Nat.mul_le_mul h2 hb
 omega
theorem grown_le (w:World) (need old:Nat) (el:TypeId):need<=grownCap w need old el:=by
 show need<=need+_
 omega
theorem append_run_s {el st xt el' ty:TypeId} {n c sLen sCap:Nat} {i:TypeInfo} {zv:Value} {base p:Option Addr} {ys olds:List Value} (hu:P.underlying st=some (.slice el)) (hux:P.underlying xt=some (.slice el')) (hi:P.info? el=some i) (hb:i.bytes<=1024) (hz:i.zero=some zv)
  (hneed:sLen+n<=2 ^ 30) (hcap:sCap<sLen+n) (hf:(Builtin.firstCells i.size n (.slice p n c)).run P W.drew=.ok ys.toArray W.drew) (ho:(Builtin.firstCells i.size sLen (.slice base sLen sCap)).run P W.drew=.ok olds.toArray W.drew) :
  (Builtin.append_ #[st,xt] ty #[.slice base sLen sCap,.slice p n c]).run P W=.ok (.slice (some ⟨W.heap.size,0,none⟩) (sLen+n) (grownCap W (sLen+n) sCap el)) (W.drew.alloc (.cells (olds.toArray++ys.toArray++Builtin.zeroCells zv.cells (grownCap W (sLen+n) sCap el - (sLen+n))) el)):=by
 have hn:¬ (sLen+n<=sCap):=by omega
 have h63':¬ (9223372036854775807<((sLen:Int)+(n:Int))):=by omega
 have h48':=grow_room (b:=i.bytes) hneed hcap hb
 simp [Builtin.append_,run_underlying hu,run_underlying hux,sizeOf,typeInfo,zeroValue,hi,hz,Builtin.lenOf,hn,h63',h48',Question.forced,hf,ho,newRow,grownCap]
 congr 2
 apply Array.ext'
 simp [za9]
theorem append_run_z {el st xt ty:TypeId} {n sLen sCap:Nat} {i:TypeInfo} {zv:Value} {base:Option Addr} {olds:List Value} {kq kn:IntKind} {m:Int} (hu:P.underlying st=some (.slice el)) (hux:P.underlying xt=some (.int kq)) (hi:P.info? el=some i) (hb:i.bytes<=1024) (hz:i.zero=some zv)
  (hm:0<=m) (hmn:m.toNat=n) (hsz:i.size≠0) (hn0:n≠0)
  (hneed:sLen+n<=2 ^ 30) (hcap:sCap<sLen+n) (ho:(Builtin.firstCells i.size sLen (.slice base sLen sCap)).run P W.drew=.ok olds.toArray W.drew) :
  (Builtin.append_ #[st,xt] ty #[.slice base sLen sCap,.int kn m]).run P W=.ok (.slice (some ⟨W.heap.size,0,none⟩) (sLen+n) (grownCap W (sLen+n) sCap el)) (W.drew.alloc (.cells (olds.toArray++Builtin.zeroCells zv.cells n++Builtin.zeroCells zv.cells (grownCap W (sLen+n) sCap el - (sLen+n))) el)):=by
 have hn:¬ (sLen+n<=sCap):=by omega
 have h63':¬ (9223372036854775807<((sLen:Int)+(n:Int))):=by omega
 have h48':=grow_room (b:=i.bytes) hneed hcap hb
 have hw:IntKind.i64.wrap m=m:=IntWalk.i64_in m (by omega)
 have hl0:¬ m<0:=by omega
 have hl1:¬ (281474976710656<m*(i.bytes:Int)):=by
  have hml:m<=1073741824:=by omega
  have:m*(i.bytes:Int)<=1073741824*1024:=Int.mul_le_mul hml (by omega) (by omega) (by omega)
  omega
 have h63b:¬ (9223372036854775807<(sLen:Int)+max m 0):=by omega
 have hns:¬ (n*i.size=0):=by
  rw [Nat.mul_eq_zero]; omega
 simp [h63b,hns,Builtin.append_,run_underlying hu,run_underlying hux,sizeOf,typeInfo,zeroValue,hi,hz,asInt,asIntOf,hw,hl0,hl1,hmn,hn,h63',h48',hsz,hn0,Question.forced,ho,newRow,grownCap]
theorem segE {c xs:List IV} {off n:Nat} (h:seg c off n=some xs):off+n<=c.length/\xs=(c.drop off).take n:=by
 unfold seg at h
 split at h
 ·rename_i hh; rw [zf] at h; exact ⟨hh,(zbh h).symm⟩
 ·simp at h
theorem Ze {c xs:List IV} {off n:Nat} (h:seg c off n=some xs):xs.length=n/\∀ j z,xs[j]?=some z->c[off+j]?=some z:=by
 obtain ⟨h1,rfl⟩:=segE h
 refine ⟨by simp; omega,fun j z hz=>?_⟩
 rw [zbt] at hz
 split at hz
 ·rw [List.getElem?_drop] at hz; exact hz
 ·simp at hz
theorem At.same {V V':World} {c:List IV} {off:Nat} {ad:Addr} (h:At β V c off ad) (hh:V'.heap=V.heap):At β V' c off ad:=by
 have e:Ext β V β V':=⟨fun _ _ _ h=>h,fun l i k s h=>.inl ⟨l,i,s,h⟩,fun k _ _=>by rw [hh],by rw [hh]; exact zaq _,fun k c t f hc=>⟨c,by rw [hh]; exact hc,rfl⟩⟩
 exact ⟨h.1,fun j z hz=>let ⟨y,hy,hv⟩:=h.2 j z hz; ⟨y,by rw [← hy]; unfold World.cell?; rw [hh],hv.ext e⟩⟩
theorem sl_at {l i off len cap sz:Nat} {tight:Bool} {c:List IV} {x:Value} (hR:RS β (look d out own) W) (h:VR β W (.slM l i off len cap sz tight) x) (hg:look d out own l i=some (.cells c)) :
  ∃ (k s o' cap':Nat),β l i=some (k,s)/\(cap=0∨o'=off+s)/\len<=cap/\cap<=cap'/\(tight=true->cap'=cap)/\x=.slice (some ⟨k,o',none⟩) len cap'/\(cap≠0->At β W c off ⟨k,o',none⟩):=by
 obtain ⟨k,s,o',cap',hb,ho,hl,hc,ht,hx⟩:=slMI h
 refine ⟨k,s,o',cap',hb,ho,hl,hc,ht,hx,fun h0=>?_⟩
 obtain rfl:=ho.resolve_left h0
 obtain ⟨c',ty',hh,hcc⟩:=hR.obj _ _ _ _ _ hb hg
 refine ⟨rfl,fun j z hz=>?_⟩
 obtain ⟨y,hy,hv⟩:=hcc _ z hz
 refine ⟨y,?_,hv⟩
 simp only [World.cell?,hh,Option.isSome_none,zaz,if_false]
 rw [← hy]; congr 1; show off+s+j=_; omega
theorem slC_at {cs:List IV} {len sz:Nat} {tight:Bool} {x:Value} (h:VR β W (.slC cs len sz tight) x):∃ (ad:Addr) (cap':Nat),x=.slice (some ad) len cap'/\len<=cap'/\(tight=true->cap'=len)/\(len≠0->At β W cs 0 ad)/\cs.length=len*sz:=by
 obtain ⟨k,s,cap',ad,_,hc,hn,hl,ht,ha,hx⟩:=slCI h
 refine ⟨ad,cap',hx,hl,ht,fun h0=>?_,hn⟩
 obtain rfl:=ha h0
 exact ⟨rfl,fun j z hz=>hc j z (by simpa using hz)⟩
end
end
section
section
variable {P:Program} {d:Nat} {out:yLM} {β:Pl} {W:World} {a:Act} {o:Oper} {t:List IV} {own own' ownV:yLO} {e:Eff} {v:IV} {n0:Nat}
structure Src (P:Program) (β:Pl) (W:World) (sz:Nat) (zv:Value) (xt:TypeId) (x:Value) (n:Nat) (new:List IV) (ys:List Value) (zeros:Bool):Prop where
 rel:VRs β W new ys
 len:new.length=n*sz
 few:zeros=true->n<=2 ^ 30
 z:zeros=true->∃ kq k m,P.underlying xt=some (.int kq)/\x=.int k m/\0<=m/\m.toNat=n/\ys=(Builtin.zeroCells zv.cells n).toList
 s:zeros=false->∃ el' p c,P.underlying xt=some (.slice el')/\x=.slice p n c/\∀ V:World,V.heap=W.heap->(Builtin.firstCells sz n (.slice p n c)).run P V=.ok ys.toArray V
theorem yi {sz len cap:Nat} {x:Value} {p:Option Addr} {c:List IV} {xs:List IV} (hx:x=.slice p len cap) (hp:(xs=[]/\len*sz=0)∨∃ (ad:Addr) (off:Nat),p=some ad/\At β W c off ad/\(∀ j z,xs[j]?=some z->c[off+j]?=some z)/\xs.length=len*sz) :
  ∃ ys:List Value,(∀ V:World,V.heap=W.heap->(Builtin.firstCells sz len (.slice p len cap)).run P V=.ok ys.toArray V)/\VRs β W xs ys:=by
 subst hx
 rcases hp with ⟨rfl,h0⟩ | ⟨ad,off,rfl,hA,hr,hl⟩
 ·refine ⟨[],fun V _=>?_,.nil⟩
  cases p with
  | none=>simp [Builtin.firstCells]
  | some ad=>exact run_firstCells_some V sz len ad len cap [] (by simp [h0]) fun j y hj=>by simp at hj
 ·obtain ⟨ys,e1,e2,e3⟩:=hA.cells hr hl
  refine ⟨ys,fun V hV=>run_firstCells_some V sz len ad len cap ys e1 fun j y hj=>?_,e2⟩
  rw [← e3 j y hj]
  unfold World.cell?
  rw [hV]
theorem src_or {cs xs:List IV} {len sz:Nat} {ad:Addr} (hA:len≠0->At β W cs 0 ad) (g1:xs.length=len*sz) (g2:∀ (j:Nat) (z:IV),xs[j]?=some z->cs[0+j]?=some z) :
  (xs=[]/\len*sz=0)∨∃ (ad':Addr) (off:Nat),some ad=some ad'/\At β W cs off ad'/\(∀ (j:Nat) (z:IV),xs[j]?=some z->cs[off+j]?=some z)/\xs.length=len*sz:=by
 by_cases h0:len=0
 ·subst h0
  exact .inl ⟨zbb.1 (by rw [g1,Nat.zero_mul]),Nat.zero_mul _⟩
 ·exact .inr ⟨ad,0,rfl,hA h0,g2,g1⟩
theorem src_slice {sz n:Nat} {zv:Value} {xt el':TypeId} {x:Operand} {x':Opd} {new:List IV} (hux:P.underlying xt=some (.slice el')) (hx:cOpd x=some x') (ht:TR β W t a.tmps) (hR:RS β (look d out own) W) (hV:Vis ownV own) (hsz:0<sz) (h:cellsI (look d out ownV) sz (ρ t x')=some (new,n)) :
  ∃ ys,Src P β W sz zv xt (a.eval x) n new ys false:=by
 have hv:=ht.eval hx
 unfold cellsI at h
 split at h
 ·rename_i q1
  rw [q1] at hv
  cases h
  refine ⟨[],.nil,by simp,fun h=>by simp at h,fun h=>by simp at h,fun _=>⟨el',none,0,hux,yb hv,fun V _=>by simp [Builtin.firstCells]⟩⟩
 ·rename_i cs len sz0 tg q1
  rw [q1] at hv
  cases hs:seg cs 0 (len*sz) with
  | none=>rw [hs] at h; simp at h
  | some xs =>
   rw [hs] at h; cases h
   obtain ⟨ad,cap',hq,hl,htt,hA,hn⟩:=slC_at hv
   obtain ⟨g1,g2⟩:=Ze hs
   obtain ⟨ys,f1,f2⟩:=yi (P:=P) (W:=W) (sz:=sz) (len:=n) (cap:=cap') (x:=.slice (some ad) n cap') rfl (src_or hA g1 g2)
   exact ⟨ys,f2,g1,fun h=>by simp at h,fun h=>by simp at h,fun _=>⟨el',some ad,cap',hux,hq,f1⟩⟩
 ·rename_i l i off len cap sz0 tg q1
  rw [q1] at hv
  split at h
  ·rename_i c hg
   cases hs:seg c off (len*sz) with
   | none=>rw [hs] at h; simp at h
   | some xs =>
    rw [hs] at h; cases h
    obtain ⟨k,s,o',cap',hb,ho,hl,hc,htt,hq,hA⟩:=sl_at hR hv (Zp hV hg rfl)
    obtain ⟨g1,g2⟩:=Ze hs
    by_cases h0:cap=0
    ·have hn0:n=0:=by omega
     subst hn0
     have:new=[]:=zbb.1 (by rw [g1]; simp)
     subst this
     refine ⟨[],.nil,by simp,fun h=>by simp at h,fun h=>by simp at h,fun _=>⟨el',_,cap',hux,hq,fun V _=>?_⟩⟩
     exact run_firstCells_some V sz 0 _ 0 cap' [] (by simp) (fun j y hj=>by simp at hj)
    ·obtain ⟨ys,f1,f2⟩:=yi (P:=P) (W:=W) (sz:=sz) (len:=n) (cap:=cap') (x:=.slice (some ⟨k,o',none⟩) n cap') rfl (.inr ⟨_,off,rfl,hA h0,g2,g1⟩)
     exact ⟨ys,f2,g1,fun h=>by simp at h,fun h=>by simp at h,fun _=>⟨el',_,cap',hux,hq,f1⟩⟩
  ·simp at h
 ·simp at h
theorem src_zeros {sz n:Nat} {z:IV} {zv:Value} {xt:TypeId} {kq:IntKind} {x:Operand} {x':Opd} (hux:P.underlying xt=some (.int kq)) (hz:VR β W z zv) (hzl:z.cells.length=sz) (hsz:0<sz) (hx:cOpd x=some x') (ht:TR β W t a.tmps) (h:natI (ρ t x')=some n) (hn:n<=bound) :
  ∃ ys,Src P β W sz zv xt (a.eval x) n (rep z.cells n) ys true:=by
 obtain ⟨k,m,h1,h2,h3⟩:=zU ht hx h
 have hzc:=zA hz
 refine ⟨(Builtin.zeroCells zv.cells n).toList,?_,by rw [yu,hzl],fun _=>hn,fun _=>⟨kq,k,m,hux,h1,h2,h3,rfl⟩,fun h=>by simp at h⟩
 have:=ZR (β:=β) (W:=W) hzc (by omega) n
 have hl:zv.cells.size=z.cells.length:=by have:=hzc.1; simp at this; omega
 unfold Builtin.zeroCells
 rw [hl]
 rw [hl] at this
 exact this
theorem append_grow {st xt el ty:TypeId} {sz n sLen sCap:Nat} {i:TypeInfo} {zv:Value} {base:Option Addr} {x:Value} {new:List IV} {ys olds:List Value} {zeros:Bool} (hu:P.underlying st=some (.slice el)) (hi:P.info? el=some i) (hs:i.size=sz) (hsz:0<sz) (hb:i.bytes<=1024) (hz:i.zero=some zv)
  (hx:Src P β W sz zv xt x n new ys zeros) (hn0:n≠0) (hneed:sLen+n<=2 ^ 30) (hcap:sCap<sLen+n) (ho:∀ V:World,V.heap=W.heap->(Builtin.firstCells sz sLen (.slice base sLen sCap)).run P V=.ok olds.toArray V) (hzc:zv.cells.size=sz) :
  ∃ newCap rest,(Builtin.append_ #[st,xt] ty #[.slice base sLen sCap,x]).run P W=.ok (.slice (some ⟨W.heap.size,0,none⟩) (sLen+n) newCap) (W.drew.alloc (.cells ((olds++ys).toArray++rest) el))/\sLen+n<=newCap/\rest.size=(newCap - (sLen+n))*sz:=by
 subst hs
 cases zeros with
 | false =>
  obtain ⟨el',p,c,hux,rfl,hf⟩:=hx.s rfl
  refine ⟨_,Builtin.zeroCells zv.cells (grownCap W (sLen+n) sCap el - (sLen+n)),?_,grown_le W (sLen+n) sCap el,by rw [Builtin.zeroCells,Array.size_map,Array.size_range,hzc]⟩
  rw [append_run_s hu hux hi hb hz hneed hcap (hf _ rfl) (ho _ rfl)]
  congr 3
  apply Array.ext'
  simp [za9]
 | true =>
  obtain ⟨kq,k,m,hux,rfl,hm,hmn,hys⟩:=hx.z rfl
  refine ⟨_,Builtin.zeroCells zv.cells (grownCap W (sLen+n) sCap el - (sLen+n)),?_,grown_le W (sLen+n) sCap el,by rw [Builtin.zeroCells,Array.size_map,Array.size_range,hzc]⟩
  rw [append_run_z hu hux hi hb hz hm hmn (by omega) hn0 hneed hcap (ho _ rfl)]
  congr 3
  apply Array.ext'
  rw [hys]
  simp [za9]
theorem Zs {st xt el ty:TypeId} {sz n sLen sCap:Nat} {i:TypeInfo} {zv:Value} {base:Addr} {x:Value} {new:List IV} {ys:List Value} {zeros:Bool} (hu:P.underlying st=some (.slice el)) (hi:P.info? el=some i) (hs:i.size=sz) (hsz:0<sz) (hb:i.bytes<=1024) (hz:i.zero=some zv)
  (hx:Src P β W sz zv xt x n new ys zeros) (hcap:sLen+n<=sCap):(Builtin.append_ #[st,xt] ty #[.slice (some base) sLen sCap,x]).run P W=((storeCells (base.add (sLen*sz)) ys).run P W).andThen fun _ w=>.ok (.slice (some base) (sLen+n) sCap) w:=by
 subst hs
 cases zeros with
 | false =>
  obtain ⟨el',p,c,hux,rfl,hf⟩:=hx.s rfl
  have hf:=hf W rfl
  simp [Builtin.append_,run_underlying hu,run_underlying hux,sizeOf,typeInfo,zeroValue,hi,hz,Builtin.lenOf,hcap,hf]
 | true =>
  obtain ⟨kq,k,m,hux,rfl,hm,hmn,hys⟩:=hx.z rfl
  have hfew:=hx.few rfl
  have hw:IntKind.i64.wrap m=m:=IntWalk.i64_in m (by omega)
  have hl0:¬ m<0:=by omega
  have hl1:¬ (281474976710656<m*(i.bytes:Int)):=by
   have hml:m<=1073741824:=by omega
   have:m*(i.bytes:Int)<=1073741824*1024:=Int.mul_le_mul hml (by omega) (by omega) (by omega)
   omega
  by_cases hn0:n*i.size=0
  ·have hn:n=0:=by rcases Nat.mul_eq_zero.1 hn0 with h | h <;> omega
   have:ys=[]:=by
    have h1:=hx.rel.1
    rw [hx.len,hn0] at h1
    exact zbb.1 h1.symm
   subst this
   simp [Builtin.append_,run_underlying hu,run_underlying hux,sizeOf,typeInfo,zeroValue,hi,hz,asInt,asIntOf,hw,hl0,hl1,hmn,hcap,hn0,storeCells]
  ·rw [hys]
   simp [Builtin.append_,run_underlying hu,run_underlying hux,sizeOf,typeInfo,zeroValue,hi,hz,asInt,asIntOf,hw,hl0,hl1,hmn,hcap,hn0]
end
end
end Go.Proofs.YtgmifgfbnnbgjaaGreatDoor
end
