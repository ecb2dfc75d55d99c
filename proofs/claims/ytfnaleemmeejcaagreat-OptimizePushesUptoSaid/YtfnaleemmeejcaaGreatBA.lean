/- Abstract data, objects and their relation to the memory of the model: the ground of the abstract walk. No condition. -/
import Derived.WalkKit
import Derived.ProofKit
import Derived.Laws.MakeOwn
import Derived.Laws.OwnMore
import Derived.Laws.StructEq
import Derived.Orders
namespace Go
abbrev A01:=@Array.getElem?_eq_some_iff
abbrev D3:=@Nat.le_refl
abbrev K4:=@Nat.le_trans
abbrev A3e:=@Nat.lt_of_lt_of_le
abbrev P5:=@List.map_congr_left
abbrev P8:=@List.getElem?_append_left
abbrev W4:=@List.getElem?_append_right
abbrev A1m:=@List.getElem?_eq_none
abbrev B4:=@List.getElem?_eq_some_iff
abbrev A3Z:=@Array.getElem?_push
abbrev A4M:=@List.getElem?_set
abbrev i0:=@List.getElem?_set_ne
abbrev A0L:=@List.mapM_cons
abbrev A3g:=@Option.bind_eq_bind
abbrev i7:=@Option.bind_eq_some_iff
abbrev J7:=@Option.map_eq_some_iff
abbrev J1:=@List.getElem?_map
abbrev i6:=@Nat.mul_le_mul_right
abbrev V8:=@Nat.add_mul
abbrev A0Q:=@Nat.zero_add
abbrev A04:=@Option.getD_some
abbrev A3d:=@Nat.add_zero
abbrev A02:=@List.getElem?_take
abbrev S6:=@List.append_assoc
abbrev I4:=@List.getD_eq_getElem?_getD
abbrev F4:=@List.getElem?_eq_getElem
abbrev O2:=@Bool.false_eq_true
abbrev O0:=@Array.getElem?_eq_getElem
abbrev M4:=@List.length_take
abbrev Y2:=@List.length_drop
abbrev A2y:=@List.getElem?_cons_zero
abbrev A4U:=@Option.some.injEq
abbrev A1n:=@List.mem_iff_getElem
abbrev A3a:=@List.size_toArray
abbrev A4N:=@List.getElem?_toArray
abbrev C3:=@List.mem_of_getElem?
abbrev A2s:=@Array.ext'
abbrev A2A:=@List.mem_of_mem_drop
abbrev A39:=@List.mem_of_mem_take
abbrev N1:=@Nat.zero_le
abbrev A0R:=@Option.map_some
abbrev l9:=@List.length_nil
abbrev H5:=@List.map_cons
abbrev s6:=@List.foldl_cons
abbrev H9:=@List.length_cons
abbrev A42:=@List.getElem?_cons_succ
abbrev A88:=@List.length_flatten
abbrev A89:=@List.map_replicate
abbrev A8d:=@List.sum_replicate_nat
abbrev A2z:=@List.getElem_mem
abbrev K8:=@List.mem_append
abbrev H8:=@List.length_append
abbrev A2t:=@Array.getElem?_append_left
abbrev A0M:=@List.nil_append
abbrev A3Y:=@Array.empty_append
abbrev U9:=@List.append_nil
abbrev A6f:=@Nat.add_sub_cancel
abbrev D8:=@List.length_map
abbrev V0:=@List.map_map
abbrev D7:=@List.mem_map
abbrev v8:=@List.map_id
abbrev A37:=@Array.append_empty
abbrev L7:=@List.all_eq_true
abbrev B0b:=@Array.getElem?_append_right
abbrev A4T:=@Nat.zero_lt_one
abbrev H2:=@List.mem_cons
abbrev V7:=@List.map_nil
abbrev A1V:=@Array.getElem?_setIfInBounds_ne
abbrev A4K:=@List.cons_append
abbrev S1:=@List.drop_eq_getElem_cons
abbrev A8c:=@List.range_eq_range'
abbrev A0n:=@Bool.eq_iff_iff
abbrev A1l:=@List.all_cons
abbrev K7:=@Bool.and_eq_true
abbrev A4G:=@Bool.eq_false_iff
abbrev A8a:=@List.mem_append_right
abbrev A03:=@List.mem_flatMap
abbrev A2u:=@Bool.or_eq_true
abbrev v7:=@List.filter_append
abbrev g9:=@List.filter_cons
abbrev A1X:=@List.mem_range
abbrev m0:=@List.mem_filter
abbrev Q4:=@Bool.true_and
abbrev B0a:=@Array.all_eq_true_iff_forall_mem
abbrev A0K:=@List.length_filter_le
abbrev A63:=@List.filter_eq_self
abbrev R3:=@Nat.le_of_ble_eq_true
abbrev U3:=@Nat.eq_of_beq_eq_true
abbrev A4H:=@Bool.false_and
abbrev A43:=@List.getElem?_of_mem
abbrev A38:=@List.length_replicate
abbrev R1:=@List.drop_eq_nil_of_le
abbrev A0J:=@List.length_eq_zero_iff
abbrev M7:=@List.mem_singleton
abbrev L8:=@List.take_add_one
abbrev B1k:=@Nat.lt_succ_iff_lt_or_eq
abbrev E9:=@List.getElem?_eq_none_iff
abbrev H4:=@List.take_of_length_le
abbrev A0r:=@List.isEmpty_iff
abbrev I2:=@List.mem_cons_of_mem
abbrev A87:=@Int.tdiv_eq_ediv_of_nonneg
abbrev A0I:=@Int.le_trans
abbrev A0q:=@Int.le_refl
abbrev A8b:=@List.mem_replicate
abbrev A64:=@List.foldl_append
abbrev A62:=@List.dropWhile_cons
abbrev A4L:=@List.dropWhile_suffix
abbrev A44:=@List.map_append
abbrev B0H:=@List.getElem?_zip_eq_some
abbrev A65:=@List.length_zip
abbrev s7:=@List.pairwise_cons
abbrev B0I:=@List.pairwise_singleton
abbrev A66:=@List.pairwise_append
abbrev U2:=@List.not_mem_nil
abbrev A41:=@List.flatMap_cons
abbrev A45:=@List.take_append_drop
abbrev W5:=@List.mem_cons_self
end Go
namespace Go.Bi
inductive D where
 |int (k:IntKind) (n:Int)
 |bool (b:Bool)
 |str (s:List UInt8)
 |nil
 |sl (es:List (List D))
 |fn (f:FuncId)
 |lit (v:Value)
 deriving Inhabited
abbrev D4:=Addr->Option Value
inductive Rd(M:D4):D->Value->Prop where
 |int (k:IntKind) (n:Int):Rd M (.int k n) (.int k n)
 |bool (b:Bool):Rd M (.bool b) (.bool b)
 |str (s:List UInt8):Rd M (.str s) (.string ⟨⟨s⟩⟩)
 |nil:Rd M .nil (.slice none 0 0)
 |fn (f:FuncId):Rd M (.fn f) (.func (.func f) #[] #[])
 |lit (v:Value) (h:v.oneCell'=true):Rd M (.lit v) v
 |sl (es:List (List D)) (b o cap sz:Nat) (cv:Nat->Nat->Value) (hcap:es.length<=cap) (hsz:∀e∈es,e.length=sz)
   (hc:∀i j,i<es.length->j<sz->M ⟨b,o+(i*sz+j),none⟩=some (cv i j))
   (hr:∀i j e d,es[i]?=some e->e[j]?=some d->Rd M d (cv i j)) :
   Rd M (.sl es) (.slice (some ⟨b,o,none⟩) es.length cap)
 |sle (a:Addr) (cap:Nat):Rd M (.sl []) (.slice (some a) 0 cap)
theorem Rd.mono{M M':D4}(h:∀a v,M a=some v->M' a=some v){d:D}{v:Value}(r:Rd M d v):Rd M' d v:=by
 induction r with
 |int k n=>exact .int k n
 |bool b=>exact .bool b
 |str s=>exact .str s
 |nil=>exact .nil
 |fn f=>exact .fn f
 |lit v h=>exact .lit v h
 |sle a cap=>exact .sle a cap
 |sl es b o cap sz cv hcap hsz hc _ ih=>exact .sl es b o cap sz cv hcap hsz (λi j hi hj=>h _ _ (hc i j hi hj)) ih
theorem Rd.oneCell{M:D4}{d:D}{v:Value}(r:Rd M d v):v.oneCell'=true:=by
 cases r<;>first|rfl|assumption
inductive AV where
 |d (x:D)
 |agg (cs:List AV)
 |tup (cs:List AV)
 |ptr (id off:Nat)
 |aptr (id len i off:Nat)
 |dptr (es:List (List D)) (i off:Nat)
 |arr (id len:Nat)
 |clo (f:FuncId) (caps:List Nat)
 |bcl (f:FuncId) (id:Nat)
 |iter (id:Nat)
 |mp (id:Nat)
 |mit (id:Nat)
 |rs (id len:Nat)
 |rp (id len i off:Nat)
 |junk
 deriving Inhabited
inductive AO where
 |cells (cs:List AV)
 |arr (es:List (List D)) (sz frz:Nat) (nl:Bool)
 |iter (s:List UInt8) (pos:Nat)
 |hole
 |map (kvs:List (D×AV))
 |mit (m n:Nat) (seen:List Nat)
 |rarr (es:List (List AV)) (sz:Nat) (nl:Bool)
 deriving Inhabited
def AO.live:AO->Bool
 |.arr _ _ _ true=>false
 |.rarr _ _ true=>false
 |.hole=>false
 |_=>true
structure Gh where
 blk:Nat->Nat
 cap:Nat->Nat
def Gh.slv(G:Gh)(id len:Nat)(nl:Bool):Value:=if nl then .slice none 0 0 else .slice (some ⟨G.blk id,0,none⟩) len (G.cap id)
def VC(M:D4)(G:Gh)(os:List AO):AV->Value->Prop
 |.d x,v=>Rd M x v
 |.ptr id off,v=>v=.pointer (some ⟨G.blk id,off,none⟩)/\∃cs,os[id]?=some (.cells cs)
 |.aptr id len i off,v=>v.oneCell'=true/\∃es sz frz nl,os[id]?=some (.arr es sz frz nl)/\len<=es.length/\(len=es.length->v=.pointer (some ⟨G.blk id,i*sz+off,none⟩))
 |.dptr es i off,v=>∃b o cap sz,Rd M (.sl es) (.slice (some ⟨b,o,none⟩) es.length cap)/\(∀e∈es,e.length=sz)/\i<es.length/\
   (∀k j e x,es[k]?=some e->e[j]?=some x->∃u,M ⟨b,o+(k*sz+j),none⟩=some u/\Rd M x u)/\v=.pointer (some ⟨b,o+(i*sz+off),none⟩)
 |.arr id len,v=>v.oneCell'=true/\∃es sz frz nl,os[id]?=some (.arr es sz frz nl)/\len<=es.length/\(len=es.length->v=G.slv id es.length nl)
 |.clo f caps,v=>v=.func (.func f) #[] ((caps.map λid=>Value.pointer (some ⟨G.blk id,0,none⟩)).toArray)/\∀id∈caps,∃cs,os[id]?=some (.cells cs)
 |.bcl f id,v=>v=.func (.func f) #[.pointer (some ⟨G.blk id,0,none⟩)] #[]/\∃cs,os[id]?=some (.cells cs)
 |.iter id,v=>v=.pointer (some ⟨G.blk id,0,none⟩)/\∃s p,os[id]?=some (.iter s p)
 |.mp id,v=>v=.map (some (G.blk id))/\∃kvs,os[id]?=some (.map kvs)
 |.mit id,v=>v=.pointer (some ⟨G.blk id,0,none⟩)/\∃m n s,os[id]?=some (.mit m n s)
 |.rs id len,v=>v.oneCell'=true/\∃es sz nl,os[id]?=some (.rarr es sz nl)/\len<=es.length/\(len=es.length->v=G.slv id es.length nl)
 |.rp id len i off,v=>v.oneCell'=true/\∃es sz nl,os[id]?=some (.rarr es sz nl)/\len<=es.length/\(len=es.length->v=.pointer (some ⟨G.blk id,i*sz+off,none⟩))
 |.junk,v=>v.oneCell'=true
 |.agg _,_=>False
 |.tup _,_=>False
def VG(M:D4)(G:Gh)(os:List AO):AV->Value->Prop
 |.agg cs,v=>∃vs:Array Value,v=.agg vs/\vs.size=cs.length/\∀(j:Nat) c u,cs[j]?=some c->vs[j]?=some u->VC M G os c u
 |a,v=>VC M G os a v
def VA(M:D4)(G:Gh)(os:List AO):AV->Value->Prop
 |.tup cs,v=>∃vs:Array Value,v=.tuple vs/\vs.size=cs.length/\∀(j:Nat) c u,cs[j]?=some c->vs[j]?=some u->VG M G os c u
 |.junk,_=>True
 |a,v=>VG M G os a v
def OR(M:D4)(G:Gh)(os:List AO)(w:World)(id:Nat):AO->Prop
 |.cells cs=>∃ca t,w.heap[G.blk id]?=some (.cells ca t (0,0))/\ca.size=cs.length/\∀(j:Nat) c u,cs[j]?=some c->ca[j]?=some u->VC M G os c u
 |.arr es sz frz nl=>0<sz/\(∀e∈es,e.length=sz)/\frz<=es.length/\(nl=true->es=[])/\
   (nl=false->∃ca t,w.heap[G.blk id]?=some (.cells ca t (0,0))/\ca.size=G.cap id*sz/\es.length<=G.cap id/\G.cap id<=maxLen/\
    (∀(i j:Nat) e x,es[i]?=some e->e[j]?=some x->∃u,ca[i*sz+j]?=some u/\Rd M x u)/\
    (∀o,o<frz*sz->M ⟨G.blk id,o,none⟩=ca[o]?))
 |.iter s pos=>w.heap[G.blk id]?=some (.stringIter ⟨⟨s⟩⟩ pos)
 |.hole=>True
 |.map kvs=>∃es:Array MapEntry,w.heap[G.blk id]?=some (.map es es.size)/\es.size=kvs.length/\∀(j:Nat) p e,kvs[j]?=some p->es[j]?=some e->e.born=j/\Rd M p.1 e.key/\VG M G os p.2 e.val
 |.mit m n s=>w.heap[G.blk id]?=some (.mapIter (some (G.blk m)) n s.toArray n)/\∃kvs,os[m]?=some (.map kvs)
 |.rarr es sz nl=>0<sz/\(∀e∈es,e.length=sz)/\(nl=true->es=[])/\
   (nl=false->∃ca t,w.heap[G.blk id]?=some (.cells ca t (0,0))/\ca.size=G.cap id*sz/\es.length<=G.cap id/\G.cap id<=maxLen/\
    (∀(i j:Nat) e c,es[i]?=some e->e[j]?=some c->∃u,ca[i*sz+j]?=some u/\VC M G os c u))
def H6(os:List AO)(i:Nat):Prop:=∃o,os[i]?=some o/\o.live=true
class N0 where
 has:Nat->Prop
 ok:Nat->Obj->Prop
set_option linter.unusedSectionVars false
variable [N0]
structure C9(M:D4)(G:Gh)(os:List AO)(w:World):Prop where
 mem:∀a v,M a=some v->w.cell? a=some v
 obj:∀id o,os[id]?=some o->OR M G os w id o
 inj:∀i j,H6 os i->H6 os j->G.blk i=G.blk j->i=j
 sep:∀i a v,H6 os i->M a=some v->a.block=G.blk i->∃es sz frz nl,os[i]?=some (.arr es sz frz nl)/\a.off<frz*sz
 glb:∀b,N0.has b->(∃o,w.heap[b]?=some o/\N0.ok b o)/\∀i,H6 os i->G.blk i≠b
def P4(G0 G:Gh)(i:Nat)(os:List AO):AO->Prop
 |.cells _=>G.blk i=G0.blk i/\∃cs,os[i]?=some (.cells cs)
 |.iter _ _=>G.blk i=G0.blk i/\∃s p,os[i]?=some (.iter s p)
 |.hole=>∃o,os[i]?=some o
 |.map _=>G.blk i=G0.blk i/\∃kvs,os[i]?=some (.map kvs)
 |.mit _ _ _=>G.blk i=G0.blk i/\∃m n s,os[i]?=some (.mit m n s)
 |.rarr es sz nl=>∃es' nl',os[i]?=some (.rarr es' sz nl')/\es.length<=es'.length/\(es.length=es'.length->G.blk i=G0.blk i/\G.cap i=G0.cap i/\nl'=nl)
 |.arr es sz _ nl=>∃es' frz' nl',os[i]?=some (.arr es' sz frz' nl')/\es.length<=es'.length/\(es.length=es'.length->G.blk i=G0.blk i/\G.cap i=G0.cap i/\nl'=nl)
structure G7(M0:D4)(G0:Gh)(os0:List AO)(w0:World)(M:D4)(G:Gh)(os:List AO)(w:World):Prop where
 sys:w.os=w0.os
 tape:w.tape=w0.tape
 output:w.output=w0.output
 size:w0.heap.size<=w.heap.size
 frame:∀b,b<w0.heap.size->(∀i,H6 os0 i->G0.blk i≠b)->w.heap[b]?=w0.heap[b]?
 grow:∀a v,M0 a=some v->M a=some v
 fresh:∀a v,M a=some v->M0 a=some v\/w0.heap.size<=a.block\/∃i,H6 os0 i/\G0.blk i=a.block
 own:∀i,H6 os i->w0.heap.size<=G.blk i\/∃j,H6 os0 j/\G0.blk j=G.blk i
 keep:∀i o,os0[i]?=some o->P4 G0 G i os o
theorem A29{M0 M:D4}{G0 G:Gh}{os0 os:List AO}{w0 w:World}(hs:G7 M0 G0 os0 w0 M G os w)(h:∀b,N0.has b->(∃o,w0.heap[b]?=some o/\N0.ok b o)/\∀i,H6 os0 i->G0.blk i≠b) :
  ∀b,N0.has b->(∃o,w.heap[b]?=some o/\N0.ok b o)/\∀i,H6 os i->G.blk i≠b:=by
 intro b hb
 obtain⟨⟨o,h1,h2⟩,h3⟩:=h b hb
 have hlt:=(A01.1 h1).1
 refine⟨⟨o,by rw[hs.frame b hlt h3];exact h1,h2⟩,λi hi e=>?_⟩
 rcases hs.own i hi with h4|⟨j,h4,h5⟩
 ·omega
 ·exact h3 j h4 (h5.trans e)
theorem G7.refl(M:D4)(G:Gh)(os:List AO)(w:World):G7 M G os w M G os w where
 sys:=rfl
 tape:=rfl
 output:=rfl
 size:=D3 _
 frame:=λ_ _ _=>rfl
 grow:=λ_ _ h=>h
 fresh:=λ_ _ h=>.inl h
 own:=λi h=>.inr ⟨i,h,rfl⟩
 keep:=λi o h=>by
  cases o with
  |cells cs=>exact⟨rfl,cs,h⟩
  |iter s p=>exact⟨rfl,s,p,h⟩
  |hole=>exact⟨_,h⟩
  |map kvs=>exact⟨rfl,kvs,h⟩
  |mit m n s=>exact⟨rfl,m,n,s,h⟩
  |rarr es sz nl=>exact⟨es,nl,h,D3 _,λ_=>⟨rfl,rfl,rfl⟩⟩
  |arr es sz frz nl=>exact⟨es,frz,nl,h,D3 _,λ_=>⟨rfl,rfl,rfl⟩⟩
theorem P4.ex{G0 G:Gh}{i:Nat}{os:List AO}{o:AO}(h:P4 G0 G i os o):∃o',os[i]?=some o':=by
 cases o with
 |cells cs=>obtain⟨_,cs,h⟩:=h;exact⟨_,h⟩
 |iter s p=>obtain⟨_,s,p,h⟩:=h;exact⟨_,h⟩
 |hole=>exact h
 |map kvs=>obtain⟨_,kvs,h⟩:=h;exact⟨_,h⟩
 |mit m n s=>obtain⟨_,m,n,s,h⟩:=h;exact⟨_,h⟩
 |rarr es sz nl=>obtain⟨es,nl,h,_⟩:=h;exact⟨_,h⟩
 |arr es sz frz nl=>obtain⟨es,frz,nl,h,_⟩:=h;exact⟨_,h⟩
theorem P4.trans{G0 G1 G2:Gh}{i:Nat}{os1 os2:List AO}{o:AO}(h:P4 G0 G1 i os1 o)(k:∀i o,os1[i]?=some o->P4 G1 G2 i os2 o):P4 G0 G2 i os2 o:=by
 cases o with
 |cells cs=>
  obtain⟨e,cs',h'⟩:=h
  obtain⟨e',cs'',h''⟩:=k i _ h'
  exact⟨e'.trans e,cs'',h''⟩
 |iter s p=>
  obtain⟨e,s',p',h'⟩:=h
  obtain⟨e',s'',p'',h''⟩:=k i _ h'
  exact⟨e'.trans e,s'',p'',h''⟩
 |hole=>
  obtain⟨o,h'⟩:=h
  exact(k i o h').ex
 |map kvs=>
  obtain⟨e,kvs',h'⟩:=h
  obtain⟨e',kvs'',h''⟩:=k i _ h'
  exact⟨e'.trans e,kvs'',h''⟩
 |mit m n s=>
  obtain⟨e,m',n',s',h'⟩:=h
  obtain⟨e',m'',n'',s'',h''⟩:=k i _ h'
  exact⟨e'.trans e,m'',n'',s'',h''⟩
 |rarr es sz nl=>
  obtain⟨es',nl',h',hl,hq⟩:=h
  obtain⟨es'',nl'',h'',hl',hq'⟩:=k i _ h'
  refine⟨es'',nl'',h'',K4 hl hl',λhe=>?_⟩
  have h1:=hq (by omega)
  have h2:=hq' (by omega)
  exact⟨h2.1.trans h1.1,h2.2.1.trans h1.2.1,h2.2.2.trans h1.2.2⟩
 |arr es sz frz nl=>
  obtain⟨es',frz',nl',h',hl,hq⟩:=h
  obtain⟨es'',frz'',nl'',h'',hl',hq'⟩:=k i _ h'
  refine⟨es'',frz'',nl'',h'',K4 hl hl',λhe=>?_⟩
  have h1:=hq (by omega)
  have h2:=hq' (by omega)
  exact⟨h2.1.trans h1.1,h2.2.1.trans h1.2.1,h2.2.2.trans h1.2.2⟩
theorem G7.trans{M0 M1 M2:D4}{G0 G1 G2:Gh}{os0 os1 os2:List AO}{w0 w1 w2:World}
  (h:G7 M0 G0 os0 w0 M1 G1 os1 w1) (k:G7 M1 G1 os1 w1 M2 G2 os2 w2):G7 M0 G0 os0 w0 M2 G2 os2 w2 where
 sys:=k.sys.trans h.sys
 tape:=k.tape.trans h.tape
 output:=k.output.trans h.output
 size:=K4 h.size k.size
 frame:=λb hb hn=>by
  rw[k.frame b (A3e hb h.size) ?_]
  ·exact h.frame b hb hn
  ·intro i hi he
   rcases h.own i hi with h1|⟨j,hj,e⟩
   ·omega
   ·exact hn j hj (e.trans he)
 grow:=λa v hm=>k.grow a v (h.grow a v hm)
 fresh:=λa v hm=>by
  rcases k.fresh a v hm with h1|h1|⟨i,hi,e⟩
  ·exact h.fresh a v h1
  ·exact .inr (.inl (K4 h.size h1))
  ·rcases h.own i hi with h2|⟨j,hj,e'⟩
   ·exact .inr (.inl (e▸h2))
   ·exact .inr (.inr ⟨j,hj,e'.trans e⟩)
 own:=λi hi=>by
  rcases k.own i hi with h1|⟨j,hj,e⟩
  ·exact .inl (K4 h.size h1)
  ·rcases h.own j hj with h2|⟨l,hl,e'⟩
   ·exact .inl (e▸h2)
   ·exact .inr ⟨l,hl,e'.trans e⟩
 keep:=λi o ho=>(h.keep i o ho).trans k.keep
section
variable {M0 M:D4}{G0 G:Gh}{os0 os:List AO}{w0 w:World}
theorem VC.since(s:G7 M0 G0 os0 w0 M G os w){a:AV}{v:Value}(h:VC M0 G0 os0 a v):VC M G os a v:=by
 cases a with
 |d x=>exact Rd.mono s.grow h
 |agg cs=>exact h
 |tup cs=>exact h
 |ptr id off=>
  obtain⟨rfl,cs,h2⟩:=h
  obtain⟨e,cs',h3⟩:=s.keep id _ h2
  exact⟨by rw[e],cs',h3⟩
 |aptr id len i off=>
  obtain⟨h0,es,sz,frz,nl,h1,h2,h3⟩:=h
  obtain⟨es',frz',nl',h4,h5,h6⟩:=s.keep id _ h1
  refine⟨h0,es',sz,frz',nl',h4,by omega,λe=>?_⟩
  rw[h3 (by omega),(h6 (by omega)).1]
 |dptr es i off=>
  obtain⟨b,o,cap,sz,h1,h2,h3,h4,h5⟩:=h
  exact⟨b,o,cap,sz,Rd.mono s.grow h1,h2,h3,λk j e x hk hj=>let ⟨u,hu,hr⟩:=h4 k j e x hk hj;⟨u,s.grow _ _ hu,Rd.mono s.grow hr⟩,h5⟩
 |arr id len=>
  obtain⟨h0,es,sz,frz,nl,h1,h2,h3⟩:=h
  obtain⟨es',frz',nl',h4,h5,h6⟩:=s.keep id _ h1
  refine⟨h0,es',sz,frz',nl',h4,by omega,λe=>?_⟩
  have h7:=h6 (by omega)
  rw[h3 (by omega),Gh.slv,Gh.slv,h7.1,h7.2.1,h7.2.2,show es.length=es'.length by omega]
 |clo f caps=>
  obtain⟨rfl,h2⟩:=h
  refine⟨?_,λid hid=>?_⟩
  ·congr 2
   refine P5 λid hid=>?_
   obtain⟨cs,hc⟩:=h2 id hid
   rw[(s.keep id _ hc).1]
  ·obtain⟨cs,hc⟩:=h2 id hid
   exact(s.keep id _ hc).2
 |bcl f id=>
  obtain⟨rfl,cs,hc⟩:=h
  exact⟨by rw[(s.keep id _ hc).1],(s.keep id _ hc).2⟩
 |iter id=>
  obtain⟨rfl,s',p,h2⟩:=h
  obtain⟨e,s'',p',h3⟩:=s.keep id _ h2
  exact⟨by rw[e],s'',p',h3⟩
 |mp id=>
  obtain⟨rfl,kvs,h2⟩:=h
  obtain⟨e,kvs',h3⟩:=s.keep id _ h2
  exact⟨by rw[e],kvs',h3⟩
 |mit id=>
  obtain⟨rfl,m,n,s',h2⟩:=h
  obtain⟨e,m',n',s'',h3⟩:=s.keep id _ h2
  exact⟨by rw[e],m',n',s'',h3⟩
 |rs id len=>
  obtain⟨h0,es,sz,nl,h1,h2,h3⟩:=h
  obtain⟨es',nl',h4,h5,h6⟩:=s.keep id _ h1
  refine⟨h0,es',sz,nl',h4,by omega,λe=>?_⟩
  have h7:=h6 (by omega)
  rw[h3 (by omega),Gh.slv,Gh.slv,h7.1,h7.2.1,h7.2.2,show es.length=es'.length by omega]
 |rp id len i off=>
  obtain⟨h0,es,sz,nl,h1,h2,h3⟩:=h
  obtain⟨es',nl',h4,h5,h6⟩:=s.keep id _ h1
  refine⟨h0,es',sz,nl',h4,by omega,λe=>?_⟩
  rw[h3 (by omega),(h6 (by omega)).1]
 |junk=>exact h
theorem VG.since(s:G7 M0 G0 os0 w0 M G os w){a:AV}{v:Value}(h:VG M0 G0 os0 a v):VG M G os a v:=by
 cases a with
 |agg cs=>
  obtain⟨vs,rfl,h2,h3⟩:=h
  exact⟨vs,rfl,h2,λj c u hc hu=>(h3 j c u hc hu).since s⟩
 |d x=>exact VC.since (a:=.d x) s h
 |ptr id off=>exact VC.since (a:=.ptr id off) s h
 |aptr id len i off=>exact VC.since (a:=.aptr id len i off) s h
 |dptr es i off=>exact VC.since (a:=.dptr es i off) s h
 |arr id len=>exact VC.since (a:=.arr id len) s h
 |clo f caps=>exact VC.since (a:=.clo f caps) s h
 |bcl f id=>exact VC.since (a:=.bcl f id) s h
 |iter id=>exact VC.since (a:=.iter id) s h
 |mp id=>exact VC.since (a:=.mp id) s h
 |mit id=>exact VC.since (a:=.mit id) s h
 |rs id len=>exact VC.since (a:=.rs id len) s h
 |rp id len i off=>exact VC.since (a:=.rp id len i off) s h
 |tup cs=>exact h
 |junk=>exact h
theorem VA.since(s:G7 M0 G0 os0 w0 M G os w){a:AV}{v:Value}(h:VA M0 G0 os0 a v):VA M G os a v:=by
 cases a with
 |tup cs=>
  obtain⟨vs,rfl,h2,h3⟩:=h
  exact⟨vs,rfl,h2,λj c u hc hu=>(h3 j c u hc hu).since s⟩
 |junk=>trivial
 |d x=>exact VG.since (a:=.d x) s h
 |ptr id off=>exact VG.since (a:=.ptr id off) s h
 |aptr id len i off=>exact VG.since (a:=.aptr id len i off) s h
 |dptr es i off=>exact VG.since (a:=.dptr es i off) s h
 |arr id len=>exact VG.since (a:=.arr id len) s h
 |clo f caps=>exact VG.since (a:=.clo f caps) s h
 |bcl f id=>exact VG.since (a:=.bcl f id) s h
 |iter id=>exact VG.since (a:=.iter id) s h
 |mp id=>exact VG.since (a:=.mp id) s h
 |mit id=>exact VG.since (a:=.mit id) s h
 |rs id len=>exact VG.since (a:=.rs id len) s h
 |rp id len i off=>exact VG.since (a:=.rp id len i off) s h
 |agg cs=>exact VG.since (a:=.agg cs) s h
end
theorem VC.oneCell{M:D4}{G:Gh}{os:List AO}{a:AV}{v:Value}(h:VC M G os a v):v.oneCell'=true:=by
 cases a with
 |d x=>exact Rd.oneCell h
 |agg cs=>exact h.elim
 |tup cs=>exact h.elim
 |ptr id off=>obtain⟨rfl,_⟩:=h;rfl
 |aptr id len i off=>exact h.1
 |dptr es i off=>obtain⟨b,o,cap,sz,h1,h2,h3,h4,rfl⟩:=h;rfl
 |arr id len=>exact h.1
 |clo f caps=>obtain⟨rfl,_⟩:=h;rfl
 |bcl f id=>obtain⟨rfl,_⟩:=h;rfl
 |iter id=>obtain⟨rfl,_⟩:=h;rfl
 |mp id=>obtain⟨rfl,_⟩:=h;rfl
 |mit id=>obtain⟨rfl,_⟩:=h;rfl
 |rs id len=>exact h.1
 |rp id len i off=>exact h.1
 |junk=>exact h
end Go.Bi
