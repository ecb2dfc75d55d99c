/- Abstract data, objects and their relation to the memory of the model: the ground of the abstract walk. No condition. -/
import Derived.WalkKit
import Derived.ProofKit
import Derived.Laws.MakeOwn
import Derived.Laws.OwnMore
import Derived.Laws.StructEq
import Derived.Orders
namespace Go.Bi
inductive D where
 |int (k:IntKind) (n:Int)
 |bool (b:Bool)
 |str (s:List UInt8)
 |nil
 |sl (es:List (List D))
 |fn (f:FuncId)
 |lit (v:Value)
 deriving Inhabited
abbrev Mem:=Addr->Option Value
inductive Rd(M:Mem):D->Value->Prop where
 |int (k:IntKind) (n:Int):Rd M (.int k n) (.int k n)
 |bool (b:Bool):Rd M (.bool b) (.bool b)
 |str (s:List UInt8):Rd M (.str s) (.string ⟨⟨s⟩⟩)
 |nil:Rd M .nil (.slice none 0 0)
 |fn (f:FuncId):Rd M (.fn f) (.func (.func f) #[] #[])
 |lit (v:Value) (h:v.oneCell'=true):Rd M (.lit v) v
 |sl (es:List (List D)) (b o cap sz:Nat) (cv:Nat->Nat->Value) (hcap:es.length<=cap) (hsz:∀e∈es,e.length=sz)
   (hc:∀i j,i<es.length->j<sz->M ⟨b,o+(i*sz+j),none⟩=some (cv i j))
   (hr:∀i j e d,es[i]?=some e->e[j]?=some d->Rd M d (cv i j)) :
   Rd M (.sl es) (.slice (some ⟨b,o,none⟩) es.length cap)
 |sle (a:Addr) (cap:Nat):Rd M (.sl []) (.slice (some a) 0 cap)
theorem Rd.mono{M M':Mem}(h:∀a v,M a=some v->M' a=some v){d:D}{v:Value}(r:Rd M d v):Rd M' d v:=by
 induction r with
 |int k n=>exact .int k n
 |bool b=>exact .bool b
 |str s=>exact .str s
 |nil=>exact .nil
 |fn f=>exact .fn f
 |lit v h=>exact .lit v h
 |sle a cap=>exact .sle a cap
 |sl es b o cap sz cv hcap hsz hc _ ih=>exact .sl es b o cap sz cv hcap hsz (λi j hi hj=>h _ _ (hc i j hi hj)) ih
theorem Rd.oneCell{M:Mem}{d:D}{v:Value}(r:Rd M d v):v.oneCell'=true:=by
 cases r<;>first|rfl|assumption
inductive AV where
 |d (x:D)
 |agg (cs:List AV)
 |tup (cs:List AV)
 |ptr (id off:Nat)
 |aptr (id len i off:Nat)
 |dptr (es:List (List D)) (i off:Nat)
 |arr (id len:Nat)
 |clo (f:FuncId) (caps:List Nat)
 |bcl (f:FuncId) (id:Nat)
 |iter (id:Nat)
 |mp (id:Nat)
 |mit (id:Nat)
 |rs (id len:Nat)
 |rp (id len i off:Nat)
 |full (es:List (List D))
 |sub (id tot lo n:Nat)
 |junk
 deriving Inhabited
inductive AO where
 |cells (cs:List AV)
 |arr (es:List (List D)) (sz frz:Nat) (nl:Bool)
 |iter (s:List UInt8) (pos:Nat)
 |hole
 |map (kvs:List (D×AV))
 |mit (m n:Nat) (seen:List Nat)
 |rarr (es:List (List AV)) (sz:Nat) (nl:Bool)
 deriving Inhabited
def AO.live:AO->Bool
 |.arr _ _ _ true=>false
 |.rarr _ _ true=>false
 |.hole=>false
 |_=>true
structure Gh where
 blk:Nat->Nat
 cap:Nat->Nat
def Gh.sbv(G:Gh)(id sz lo n:Nat)(nl:Bool)(v:Value):Prop:=if nl then v=.slice none 0 0 else ∃o,v=.slice (some ⟨G.blk id,o,none⟩) n (G.cap id-lo)/\(0<n->o=lo*sz)
def Gh.slv(G:Gh)(id len:Nat)(nl:Bool):Value:=if nl then .slice none 0 0 else .slice (some ⟨G.blk id,0,none⟩) len (G.cap id)
def VC(M:Mem)(G:Gh)(os:List AO):AV->Value->Prop
 |.d x,v=>Rd M x v
 |.ptr id off,v=>v=.pointer (some ⟨G.blk id,off,none⟩)/\∃cs,os[id]?=some (.cells cs)
 |.aptr id len i off,v=>v.oneCell'=true/\∃es sz frz nl,os[id]?=some (.arr es sz frz nl)/\len<=es.length/\(len=es.length->v=.pointer (some ⟨G.blk id,i*sz+off,none⟩))
 |.dptr es i off,v=>∃b o cap sz,Rd M (.sl es) (.slice (some ⟨b,o,none⟩) es.length cap)/\(∀e∈es,e.length=sz)/\i<es.length/\
   (∀k j e x,es[k]?=some e->e[j]?=some x->∃u,M ⟨b,o+(k*sz+j),none⟩=some u/\Rd M x u)/\v=.pointer (some ⟨b,o+(i*sz+off),none⟩)
 |.arr id len,v=>v.oneCell'=true/\∃es sz frz nl,os[id]?=some (.arr es sz frz nl)/\len<=es.length/\(len=es.length->v=G.slv id es.length nl)
 |.clo f caps,v=>v=.func (.func f) #[] ((caps.map λid=>Value.pointer (some ⟨G.blk id,0,none⟩)).toArray)/\∀id∈caps,∃cs,os[id]?=some (.cells cs)
 |.bcl f id,v=>v=.func (.func f) #[.pointer (some ⟨G.blk id,0,none⟩)] #[]/\∃cs,os[id]?=some (.cells cs)
 |.iter id,v=>v=.pointer (some ⟨G.blk id,0,none⟩)/\∃s p,os[id]?=some (.iter s p)
 |.mp id,v=>v=.map (some (G.blk id))/\∃kvs,os[id]?=some (.map kvs)
 |.mit id,v=>v=.pointer (some ⟨G.blk id,0,none⟩)/\∃m n s,os[id]?=some (.mit m n s)
 |.rs id len,v=>v.oneCell'=true/\∃es sz nl,os[id]?=some (.rarr es sz nl)/\len<=es.length/\(len=es.length->v=G.slv id es.length nl)
 |.rp id len i off,v=>v.oneCell'=true/\∃es sz nl,os[id]?=some (.rarr es sz nl)/\len<=es.length/\(len=es.length->v=.pointer (some ⟨G.blk id,i*sz+off,none⟩))
 |.full es,v=>Rd M (.sl es) v/\∃a,v=.slice (some a) es.length es.length
 |.sub id tot lo n,v=>v.oneCell'=true/\∃es sz frz nl,os[id]?=some (.arr es sz frz nl)/\tot<=es.length/\lo+n<=tot/\(tot=es.length->G.sbv id sz lo n nl v)
 |.junk,v=>v.oneCell'=true
 |.agg _,_=>False
 |.tup _,_=>False
def VG(M:Mem)(G:Gh)(os:List AO):AV->Value->Prop
 |.agg cs,v=>∃vs:Array Value,v=.agg vs/\vs.size=cs.length/\∀(j:Nat) c u,cs[j]?=some c->vs[j]?=some u->VC M G os c u
 |a,v=>VC M G os a v
def VA(M:Mem)(G:Gh)(os:List AO):AV->Value->Prop
 |.tup cs,v=>∃vs:Array Value,v=.tuple vs/\vs.size=cs.length/\∀(j:Nat) c u,cs[j]?=some c->vs[j]?=some u->VG M G os c u
 |.junk,_=>True
 |a,v=>VG M G os a v
def OR(M:Mem)(G:Gh)(os:List AO)(w:World)(id:Nat):AO->Prop
 |.cells cs=>∃ca t,w.heap[G.blk id]?=some (.cells ca t (0,0))/\ca.size=cs.length/\∀(j:Nat) c u,cs[j]?=some c->ca[j]?=some u->VC M G os c u
 |.arr es sz frz nl=>0<sz/\(∀e∈es,e.length=sz)/\frz<=es.length/\(nl=true->es=[])/\
   (nl=false->∃ca t,w.heap[G.blk id]?=some (.cells ca t (0,0))/\ca.size=G.cap id*sz/\es.length<=G.cap id/\G.cap id<=maxLen/\
    (∀(i j:Nat) e x,es[i]?=some e->e[j]?=some x->∃u,ca[i*sz+j]?=some u/\Rd M x u)/\
    (∀o,o<frz*sz->M ⟨G.blk id,o,none⟩=ca[o]?))
 |.iter s pos=>w.heap[G.blk id]?=some (.stringIter ⟨⟨s⟩⟩ pos)
 |.hole=>True
 |.map kvs=>∃(es:Array MapEntry) (clock:Nat),w.heap[G.blk id]?=some (.map es clock)/\es.size=kvs.length/\∀(j:Nat) p e,kvs[j]?=some p->es[j]?=some e->Rd M p.1 e.key/\VG M G os p.2 e.val
 |.mit m n s=>w.heap[G.blk id]?=some (.mapIter (some (G.blk m)) n s.toArray n)/\∃kvs,os[m]?=some (.map kvs)
 |.rarr es sz nl=>0<sz/\(∀e∈es,e.length=sz)/\(nl=true->es=[])/\
   (nl=false->∃ca t,w.heap[G.blk id]?=some (.cells ca t (0,0))/\ca.size=G.cap id*sz/\es.length<=G.cap id/\G.cap id<=maxLen/\
    (∀(i j:Nat) e c,es[i]?=some e->e[j]?=some c->∃u,ca[i*sz+j]?=some u/\VC M G os c u))
def Live(os:List AO)(i:Nat):Prop:=∃o,os[i]?=some o/\o.live=true
class Globs where
 has:Nat->Prop
 ok:Nat->Obj->Prop
set_option linter.unusedSectionVars false
variable [Globs]
structure Env(M:Mem)(G:Gh)(os:List AO)(w:World):Prop where
 mem:∀a v,M a=some v->w.cell? a=some v
 obj:∀id o,os[id]?=some o->OR M G os w id o
 inj:∀i j,Live os i->Live os j->G.blk i=G.blk j->i=j
 sep:∀i a v,Live os i->M a=some v->a.block=G.blk i->∃es sz frz nl,os[i]?=some (.arr es sz frz nl)/\a.off<frz*sz
 glb:∀b,Globs.has b->(∃o,w.heap[b]?=some o/\Globs.ok b o)/\∀i,Live os i->G.blk i≠b
def Keeps(G0 G:Gh)(i:Nat)(os:List AO):AO->Prop
 |.cells _=>G.blk i=G0.blk i/\∃cs,os[i]?=some (.cells cs)
 |.iter _ _=>G.blk i=G0.blk i/\∃s p,os[i]?=some (.iter s p)
 |.hole=>∃o,os[i]?=some o
 |.map _=>G.blk i=G0.blk i/\∃kvs,os[i]?=some (.map kvs)
 |.mit _ _ _=>G.blk i=G0.blk i/\∃m n s,os[i]?=some (.mit m n s)
 |.rarr es sz nl=>∃es' nl',os[i]?=some (.rarr es' sz nl')/\es.length<=es'.length/\(es.length=es'.length->G.blk i=G0.blk i/\G.cap i=G0.cap i/\nl'=nl)
 |.arr es sz _ nl=>∃es' frz' nl',os[i]?=some (.arr es' sz frz' nl')/\es.length<=es'.length/\(es.length=es'.length->G.blk i=G0.blk i/\G.cap i=G0.cap i/\nl'=nl)
structure Since(M0:Mem)(G0:Gh)(os0:List AO)(w0:World)(M:Mem)(G:Gh)(os:List AO)(w:World):Prop where
 sys:w.os=w0.os
 tape:w.tape=w0.tape
 output:w.output=w0.output
 size:w0.heap.size<=w.heap.size
 frame:∀b,b<w0.heap.size->(∀i,Live os0 i->G0.blk i≠b)->w.heap[b]?=w0.heap[b]?
 grow:∀a v,M0 a=some v->M a=some v
 fresh:∀a v,M a=some v->M0 a=some v\/w0.heap.size<=a.block\/∃i,Live os0 i/\G0.blk i=a.block
 own:∀i,Live os i->w0.heap.size<=G.blk i\/∃j,Live os0 j/\G0.blk j=G.blk i
 keep:∀i o,os0[i]?=some o->Keeps G0 G i os o
theorem glb_since{M0 M:Mem}{G0 G:Gh}{os0 os:List AO}{w0 w:World}(hs:Since M0 G0 os0 w0 M G os w)(h:∀b,Globs.has b->(∃o,w0.heap[b]?=some o/\Globs.ok b o)/\∀i,Live os0 i->G0.blk i≠b) :
  ∀b,Globs.has b->(∃o,w.heap[b]?=some o/\Globs.ok b o)/\∀i,Live os i->G.blk i≠b:=by
 intro b hb
 obtain⟨⟨o,h1,h2⟩,h3⟩:=h b hb
 have hlt:=(Array.getElem?_eq_some_iff.1 h1).1
 refine⟨⟨o,by rw[hs.frame b hlt h3];exact h1,h2⟩,λi hi e=>?_⟩
 rcases hs.own i hi with h4|⟨j,h4,h5⟩
 ·omega
 ·exact h3 j h4 (h5.trans e)
theorem Since.refl(M:Mem)(G:Gh)(os:List AO)(w:World):Since M G os w M G os w where
 sys:=rfl
 tape:=rfl
 output:=rfl
 size:=Nat.le_refl _
 frame:=λ_ _ _=>rfl
 grow:=λ_ _ h=>h
 fresh:=λ_ _ h=>.inl h
 own:=λi h=>.inr ⟨i,h,rfl⟩
 keep:=λi o h=>by
  cases o with
  |cells cs=>exact⟨rfl,cs,h⟩
  |iter s p=>exact⟨rfl,s,p,h⟩
  |hole=>exact⟨_,h⟩
  |map kvs=>exact⟨rfl,kvs,h⟩
  |mit m n s=>exact⟨rfl,m,n,s,h⟩
  |rarr es sz nl=>exact⟨es,nl,h,Nat.le_refl _,λ_=>⟨rfl,rfl,rfl⟩⟩
  |arr es sz frz nl=>exact⟨es,frz,nl,h,Nat.le_refl _,λ_=>⟨rfl,rfl,rfl⟩⟩
theorem Keeps.ex{G0 G:Gh}{i:Nat}{os:List AO}{o:AO}(h:Keeps G0 G i os o):∃o',os[i]?=some o':=by
 cases o with
 |cells cs=>obtain⟨_,cs,h⟩:=h;exact⟨_,h⟩
 |iter s p=>obtain⟨_,s,p,h⟩:=h;exact⟨_,h⟩
 |hole=>exact h
 |map kvs=>obtain⟨_,kvs,h⟩:=h;exact⟨_,h⟩
 |mit m n s=>obtain⟨_,m,n,s,h⟩:=h;exact⟨_,h⟩
 |rarr es sz nl=>obtain⟨es,nl,h,_⟩:=h;exact⟨_,h⟩
 |arr es sz frz nl=>obtain⟨es,frz,nl,h,_⟩:=h;exact⟨_,h⟩
theorem Keeps.trans{G0 G1 G2:Gh}{i:Nat}{os1 os2:List AO}{o:AO}(h:Keeps G0 G1 i os1 o)(k:∀i o,os1[i]?=some o->Keeps G1 G2 i os2 o):Keeps G0 G2 i os2 o:=by
 cases o with
 |cells cs=>
  obtain⟨e,cs',h'⟩:=h
  obtain⟨e',cs'',h''⟩:=k i _ h'
  exact⟨e'.trans e,cs'',h''⟩
 |iter s p=>
  obtain⟨e,s',p',h'⟩:=h
  obtain⟨e',s'',p'',h''⟩:=k i _ h'
  exact⟨e'.trans e,s'',p'',h''⟩
 |hole=>
  obtain⟨o,h'⟩:=h
  exact(k i o h').ex
 |map kvs=>
  obtain⟨e,kvs',h'⟩:=h
  obtain⟨e',kvs'',h''⟩:=k i _ h'
  exact⟨e'.trans e,kvs'',h''⟩
 |mit m n s=>
  obtain⟨e,m',n',s',h'⟩:=h
  obtain⟨e',m'',n'',s'',h''⟩:=k i _ h'
  exact⟨e'.trans e,m'',n'',s'',h''⟩
 |rarr es sz nl=>
  obtain⟨es',nl',h',hl,hq⟩:=h
  obtain⟨es'',nl'',h'',hl',hq'⟩:=k i _ h'
  refine⟨es'',nl'',h'',Nat.le_trans hl hl',λhe=>?_⟩
  have h1:=hq (by omega)
  have h2:=hq' (by omega)
  exact⟨h2.1.trans h1.1,h2.2.1.trans h1.2.1,h2.2.2.trans h1.2.2⟩
 |arr es sz frz nl=>
  obtain⟨es',frz',nl',h',hl,hq⟩:=h
  obtain⟨es'',frz'',nl'',h'',hl',hq'⟩:=k i _ h'
  refine⟨es'',frz'',nl'',h'',Nat.le_trans hl hl',λhe=>?_⟩
  have h1:=hq (by omega)
  have h2:=hq' (by omega)
  exact⟨h2.1.trans h1.1,h2.2.1.trans h1.2.1,h2.2.2.trans h1.2.2⟩
theorem Since.trans{M0 M1 M2:Mem}{G0 G1 G2:Gh}{os0 os1 os2:List AO}{w0 w1 w2:World}
  (h:Since M0 G0 os0 w0 M1 G1 os1 w1) (k:Since M1 G1 os1 w1 M2 G2 os2 w2):Since M0 G0 os0 w0 M2 G2 os2 w2 where
 sys:=k.sys.trans h.sys
 tape:=k.tape.trans h.tape
 output:=k.output.trans h.output
 size:=Nat.le_trans h.size k.size
 frame:=λb hb hn=>by
  rw[k.frame b (Nat.lt_of_lt_of_le hb h.size) ?_]
  ·exact h.frame b hb hn
  ·intro i hi he
   rcases h.own i hi with h1|⟨j,hj,e⟩
   ·omega
   ·exact hn j hj (e.trans he)
 grow:=λa v hm=>k.grow a v (h.grow a v hm)
 fresh:=λa v hm=>by
  rcases k.fresh a v hm with h1|h1|⟨i,hi,e⟩
  ·exact h.fresh a v h1
  ·exact .inr (.inl (Nat.le_trans h.size h1))
  ·rcases h.own i hi with h2|⟨j,hj,e'⟩
   ·exact .inr (.inl (e▸h2))
   ·exact .inr (.inr ⟨j,hj,e'.trans e⟩)
 own:=λi hi=>by
  rcases k.own i hi with h1|⟨j,hj,e⟩
  ·exact .inl (Nat.le_trans h.size h1)
  ·rcases h.own j hj with h2|⟨l,hl,e'⟩
   ·exact .inl (e▸h2)
   ·exact .inr ⟨l,hl,e'.trans e⟩
 keep:=λi o ho=>(h.keep i o ho).trans k.keep
section
variable {M0 M:Mem}{G0 G:Gh}{os0 os:List AO}{w0 w:World}
theorem VC.since(s:Since M0 G0 os0 w0 M G os w){a:AV}{v:Value}(h:VC M0 G0 os0 a v):VC M G os a v:=by
 cases a with
 |d x=>exact Rd.mono s.grow h
 |agg cs=>exact h
 |tup cs=>exact h
 |ptr id off=>
  obtain⟨rfl,cs,h2⟩:=h
  obtain⟨e,cs',h3⟩:=s.keep id _ h2
  exact⟨by rw[e],cs',h3⟩
 |aptr id len i off=>
  obtain⟨h0,es,sz,frz,nl,h1,h2,h3⟩:=h
  obtain⟨es',frz',nl',h4,h5,h6⟩:=s.keep id _ h1
  refine⟨h0,es',sz,frz',nl',h4,by omega,λe=>?_⟩
  rw[h3 (by omega),(h6 (by omega)).1]
 |dptr es i off=>
  obtain⟨b,o,cap,sz,h1,h2,h3,h4,h5⟩:=h
  exact⟨b,o,cap,sz,Rd.mono s.grow h1,h2,h3,λk j e x hk hj=>let ⟨u,hu,hr⟩:=h4 k j e x hk hj;⟨u,s.grow _ _ hu,Rd.mono s.grow hr⟩,h5⟩
 |arr id len=>
  obtain⟨h0,es,sz,frz,nl,h1,h2,h3⟩:=h
  obtain⟨es',frz',nl',h4,h5,h6⟩:=s.keep id _ h1
  refine⟨h0,es',sz,frz',nl',h4,by omega,λe=>?_⟩
  have h7:=h6 (by omega)
  rw[h3 (by omega),Gh.slv,Gh.slv,h7.1,h7.2.1,h7.2.2,show es.length=es'.length by omega]
 |clo f caps=>
  obtain⟨rfl,h2⟩:=h
  refine⟨?_,λid hid=>?_⟩
  ·congr 2
   refine List.map_congr_left λid hid=>?_
   obtain⟨cs,hc⟩:=h2 id hid
   rw[(s.keep id _ hc).1]
  ·obtain⟨cs,hc⟩:=h2 id hid
   exact(s.keep id _ hc).2
 |bcl f id=>
  obtain⟨rfl,cs,hc⟩:=h
  exact⟨by rw[(s.keep id _ hc).1],(s.keep id _ hc).2⟩
 |iter id=>
  obtain⟨rfl,s',p,h2⟩:=h
  obtain⟨e,s'',p',h3⟩:=s.keep id _ h2
  exact⟨by rw[e],s'',p',h3⟩
 |mp id=>
  obtain⟨rfl,kvs,h2⟩:=h
  obtain⟨e,kvs',h3⟩:=s.keep id _ h2
  exact⟨by rw[e],kvs',h3⟩
 |mit id=>
  obtain⟨rfl,m,n,s',h2⟩:=h
  obtain⟨e,m',n',s'',h3⟩:=s.keep id _ h2
  exact⟨by rw[e],m',n',s'',h3⟩
 |rs id len=>
  obtain⟨h0,es,sz,nl,h1,h2,h3⟩:=h
  obtain⟨es',nl',h4,h5,h6⟩:=s.keep id _ h1
  refine⟨h0,es',sz,nl',h4,by omega,λe=>?_⟩
  have h7:=h6 (by omega)
  rw[h3 (by omega),Gh.slv,Gh.slv,h7.1,h7.2.1,h7.2.2,show es.length=es'.length by omega]
 |rp id len i off=>
  obtain⟨h0,es,sz,nl,h1,h2,h3⟩:=h
  obtain⟨es',nl',h4,h5,h6⟩:=s.keep id _ h1
  refine⟨h0,es',sz,nl',h4,by omega,λe=>?_⟩
  rw[h3 (by omega),(h6 (by omega)).1]
 |full es=>exact⟨Rd.mono s.grow h.1,h.2⟩
 |sub id tot lo n=>
  obtain⟨h0,es,sz,frz,nl,h1,h2,hln,h3⟩:=h
  obtain⟨es',frz',nl',h4,h5,h6⟩:=s.keep id _ h1
  refine⟨h0,es',sz,frz',nl',h4,by omega,hln,λe=>?_⟩
  have h7:=h6 (by omega)
  have h8:=h3 (by omega)
  unfold Gh.sbv at h8 ⊢
  rw[h7.1,h7.2.1,h7.2.2];exact h8
 |junk=>exact h
theorem VG.since(s:Since M0 G0 os0 w0 M G os w){a:AV}{v:Value}(h:VG M0 G0 os0 a v):VG M G os a v:=by
 cases a with
 |agg cs=>
  obtain⟨vs,rfl,h2,h3⟩:=h
  exact⟨vs,rfl,h2,λj c u hc hu=>(h3 j c u hc hu).since s⟩
 |d x=>exact VC.since (a:=.d x) s h
 |ptr id off=>exact VC.since (a:=.ptr id off) s h
 |aptr id len i off=>exact VC.since (a:=.aptr id len i off) s h
 |dptr es i off=>exact VC.since (a:=.dptr es i off) s h
 |arr id len=>exact VC.since (a:=.arr id len) s h
 |clo f caps=>exact VC.since (a:=.clo f caps) s h
 |bcl f id=>exact VC.since (a:=.bcl f id) s h
 |iter id=>exact VC.since (a:=.iter id) s h
 |mp id=>exact VC.since (a:=.mp id) s h
 |mit id=>exact VC.since (a:=.mit id) s h
 |rs id len=>exact VC.since (a:=.rs id len) s h
 |rp id len i off=>exact VC.since (a:=.rp id len i off) s h
 |full es=>exact VC.since (a:=.full es) s h
 |sub id tot lo n=>exact VC.since (a:=.sub id tot lo n) s h
 |tup cs=>exact h
 |junk=>exact h
theorem VA.since(s:Since M0 G0 os0 w0 M G os w){a:AV}{v:Value}(h:VA M0 G0 os0 a v):VA M G os a v:=by
 cases a with
 |tup cs=>
  obtain⟨vs,rfl,h2,h3⟩:=h
  exact⟨vs,rfl,h2,λj c u hc hu=>(h3 j c u hc hu).since s⟩
 |junk=>trivial
 |d x=>exact VG.since (a:=.d x) s h
 |ptr id off=>exact VG.since (a:=.ptr id off) s h
 |aptr id len i off=>exact VG.since (a:=.aptr id len i off) s h
 |dptr es i off=>exact VG.since (a:=.dptr es i off) s h
 |arr id len=>exact VG.since (a:=.arr id len) s h
 |clo f caps=>exact VG.since (a:=.clo f caps) s h
 |bcl f id=>exact VG.since (a:=.bcl f id) s h
 |iter id=>exact VG.since (a:=.iter id) s h
 |mp id=>exact VG.since (a:=.mp id) s h
 |mit id=>exact VG.since (a:=.mit id) s h
 |rs id len=>exact VG.since (a:=.rs id len) s h
 |rp id len i off=>exact VG.since (a:=.rp id len i off) s h
 |full es=>exact VG.since (a:=.full es) s h
 |sub id tot lo n=>exact VG.since (a:=.sub id tot lo n) s h
 |agg cs=>exact VG.since (a:=.agg cs) s h
end
theorem VC.oneCell{M:Mem}{G:Gh}{os:List AO}{a:AV}{v:Value}(h:VC M G os a v):v.oneCell'=true:=by
 cases a with
 |d x=>exact Rd.oneCell h
 |agg cs=>exact h.elim
 |tup cs=>exact h.elim
 |ptr id off=>obtain⟨rfl,_⟩:=h;rfl
 |aptr id len i off=>exact h.1
 |dptr es i off=>obtain⟨b,o,cap,sz,h1,h2,h3,h4,rfl⟩:=h;rfl
 |arr id len=>exact h.1
 |clo f caps=>obtain⟨rfl,_⟩:=h;rfl
 |bcl f id=>obtain⟨rfl,_⟩:=h;rfl
 |iter id=>obtain⟨rfl,_⟩:=h;rfl
 |mp id=>obtain⟨rfl,_⟩:=h;rfl
 |mit id=>obtain⟨rfl,_⟩:=h;rfl
 |rs id len=>exact h.1
 |rp id len i off=>exact h.1
 |full es=>obtain⟨a,rfl⟩:=h.2;rfl
 |sub id tot lo n=>exact h.1
 |junk=>exact h
end Go.Bi
