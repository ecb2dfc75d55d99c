/- What new objects, stores, freezing and appending do to the relation of BiA. No condition. -/
import Derived.Test.YthaildbjjlpdgaaGreatBA
set_option linter.unusedVariables false
namespace Go.Bi
set_option linter.unusedSectionVars false
variable [Globs]
section
variable {M M':Mem}{G G':Gh}{os os':List AO}{w w':World}
theorem Env.lt(h:Env M G os w){i:Nat}(hl:Live os i):G.blk i<w.heap.size:=by
 obtain⟨o,ho,hlv⟩:=hl
 have h1:=h.obj i o ho
 cases o with
 |cells cs=>
  obtain⟨ca,t,h2,_⟩:=h1
  exact(Array.getElem?_eq_some_iff.1 h2).1
 |iter s p=>exact(Array.getElem?_eq_some_iff.1 h1).1
 |hole=>cases hlv
 |map kvs=>
  obtain⟨es,clock,h2,_⟩:=h1
  exact(Array.getElem?_eq_some_iff.1 h2).1
 |mit m n s=>exact(Array.getElem?_eq_some_iff.1 h1.1).1
 |rarr es sz nl=>
  cases nl with
  |true=>cases hlv
  |false=>
   obtain⟨ca,t,h2,_⟩:=h1.2.2.2 rfl
   exact(Array.getElem?_eq_some_iff.1 h2).1
 |arr es sz frz nl=>
  cases nl with
  |true=>cases hlv
  |false=>
   obtain⟨ca,t,h2,_⟩:=h1.2.2.2.2 rfl
   exact(Array.getElem?_eq_some_iff.1 h2).1
theorem Live.arr{os:List AO}{i:Nat}{es:List (List D)}{sz frz:Nat}(h:os[i]?=some (.arr es sz frz false)):Live os i:=⟨_,h,rfl⟩
theorem Live.cells{os:List AO}{i:Nat}{cs:List AV}(h:os[i]?=some (.cells cs)):Live os i:=⟨_,h,rfl⟩
theorem Live.map{os:List AO}{i:Nat}{kvs:List (D×AV)}(h:os[i]?=some (.map kvs)):Live os i:=⟨_,h,rfl⟩
theorem Live.mit{os:List AO}{i m n:Nat}{s:List Nat}(h:os[i]?=some (.mit m n s)):Live os i:=⟨_,h,rfl⟩
theorem Live.rarr{os:List AO}{i:Nat}{es:List (List AV)}{sz:Nat}(h:os[i]?=some (.rarr es sz false)):Live os i:=⟨_,h,rfl⟩
theorem Live.iter{os:List AO}{i:Nat}{s:List UInt8}{p:Nat}(h:os[i]?=some (.iter s p)):Live os i:=⟨_,h,rfl⟩
theorem OR.since(s:Since M G os w M' G' os' w'){id:Nat}{o:AO}(h:OR M G os w id o)(hb:G'.blk id=G.blk id)(hc:G'.cap id=G.cap id)
  (hh:w'.heap[G.blk id]?=w.heap[G.blk id]?) (hf:∀a,a.block=G.blk id->M' a=M a):OR M' G' os' w' id o:=by
 cases o with
 |cells cs=>
  obtain⟨ca,t,h1,h2,h3⟩:=h
  exact⟨ca,t,by rw[hb,hh];exact h1,h2,λj c u hc hu=>(h3 j c u hc hu).since s⟩
 |iter str p=>
  show _=_
  rw[hb,hh];exact h
 |hole=>trivial
 |map kvs=>
  obtain⟨es,clock,h1,h2,h3⟩:=h
  refine⟨es,clock,by rw[hb,hh];exact h1,h2,λj p e hp he=>?_⟩
  obtain⟨a2,a3⟩:=h3 j p e hp he
  exact⟨a2.mono s.grow,a3.since s⟩
 |mit m n sn=>
  obtain⟨h1,kvs,h2⟩:=h
  obtain⟨k1,k2⟩:=s.keep m _ h2
  exact⟨by rw[hb,hh,k1];exact h1,k2⟩
 |rarr es sz nl=>
  obtain⟨h1,h2,h4,h5⟩:=h
  refine⟨h1,h2,h4,λhn=>?_⟩
  obtain⟨ca,t,h6,h7,h8,h9,h10⟩:=h5 hn
  refine⟨ca,t,by rw[hb,hh];exact h6,by rw[hc];exact h7,by rw[hc];exact h8,by rw[hc];exact h9,λi j e x hi hj=>?_⟩
  obtain⟨u,hu,hr⟩:=h10 i j e x hi hj
  exact⟨u,hu,hr.since s⟩
 |arr es sz frz nl=>
  obtain⟨h1,h2,h3,h4,h5⟩:=h
  refine⟨h1,h2,h3,h4,λhn=>?_⟩
  obtain⟨ca,t,h6,h7,h8,h9,h10,h11⟩:=h5 hn
  refine⟨ca,t,by rw[hb,hh];exact h6,by rw[hc];exact h7,by rw[hc];exact h8,by rw[hc];exact h9,λi j e x hi hj=>?_,λo ho=>?_⟩
  ·obtain⟨u,hu,hr⟩:=h10 i j e x hi hj
   exact⟨u,hu,hr.mono s.grow⟩
  ·rw[hb,hf _ rfl];exact h11 o ho
def Gh.ext(G:Gh)(n b c:Nat):Gh:={blk:=λi=>if i=n then b else G.blk i,cap:=λi=>if i=n then c else G.cap i}
theorem live_snoc{os:List AO}{o:AO}{i:Nat}(h:Live (os++[o]) i):Live os i\/(i=os.length/\o.live=true):=by
 obtain⟨x,hx,hl⟩:=h
 rcases Nat.lt_trichotomy i os.length with h1|h1|h1
 ·rw[List.getElem?_append_left h1] at hx
  exact .inl ⟨x,hx,hl⟩
 ·subst h1
  simp at hx
  subst hx
  exact .inr ⟨rfl,hl⟩
 ·rw[List.getElem?_append_right (by omega)] at hx
  rw[List.getElem?_eq_none (by simp;omega)] at hx
  cases hx
theorem Live.lt{os:List AO}{i:Nat}(h:Live os i):i<os.length:=by
 obtain⟨x,hx,_⟩:=h
 exact(List.getElem?_eq_some_iff.1 hx).1
theorem Keeps.same{G G':Gh}{i:Nat}{os:List AO}{o:AO}(h:os[i]?=some o)(hb:G'.blk i=G.blk i)(hc:G'.cap i=G.cap i):Keeps G G' i os o:=by
 cases o with
 |cells cs=>exact⟨hb,cs,h⟩
 |iter s p=>exact⟨hb,s,p,h⟩
 |hole=>exact⟨_,h⟩
 |map kvs=>exact⟨hb,kvs,h⟩
 |mit m n s=>exact⟨hb,m,n,s,h⟩
 |rarr es sz nl=>exact⟨es,nl,h,Nat.le_refl _,λ_=>⟨hb,hc,rfl⟩⟩
 |arr es sz frz nl=>exact⟨es,frz,nl,h,Nat.le_refl _,λ_=>⟨hb,hc,rfl⟩⟩
theorem since_new(he:Env M G os w)(o:AO)(ob:Obj)(c:Nat):Since M G os w M (G.ext os.length w.heap.size c) (os++[o]) (w.alloc ob) where
 sys:=rfl
 tape:=rfl
 output:=rfl
 size:=by simp
 frame:=λb hb _=>by
  show(w.heap.push ob)[b]?=_
  rw[Array.getElem?_push,if_neg (by omega)]
 grow:=λ_ _ h=>h
 fresh:=λ_ _ h=>.inl h
 own:=λi hi=>by
  rcases live_snoc hi with h|⟨rfl,_⟩
  ·have:=h.lt
   exact .inr ⟨i,h,by simp[Gh.ext];omega⟩
  ·exact .inl (by simp[Gh.ext])
 keep:=λi o' ho=>by
  have hlt:=(List.getElem?_eq_some_iff.1 ho).1
  exact Keeps.same (by rw[List.getElem?_append_left hlt];exact ho) (by simp[Gh.ext];omega) (by simp[Gh.ext];omega)
theorem env_new(he:Env M G os w)(o:AO)(ob:Obj)(c:Nat)(hm:∀a v,w.cell? a=some v->(w.alloc ob).cell? a=some v)
  (hor:OR M (G.ext os.length w.heap.size c) (os++[o]) (w.alloc ob) os.length o) (hsep:o.live=true->∀es sz frz nl,o=.arr es sz frz nl->frz=0) :
  Env M (G.ext os.length w.heap.size c) (os++[o]) (w.alloc ob) where
 glb:=glb_since (since_new he o ob c) he.glb
 mem:=λa v h=>hm a v (he.mem a v h)
 obj:=λid o' ho=>by
  rcases Nat.lt_trichotomy id os.length with h1|h1|h1
  ·rw[List.getElem?_append_left h1] at ho
   have hold:=he.obj id o' ho
   by_cases hl:o'.live=true
   ·have hlt:=he.lt ⟨o',ho,hl⟩
    refine OR.since (since_new he o ob c) hold (by simp[Gh.ext];omega) (by simp[Gh.ext];omega) ?_ (λ_ _=>rfl)
    show(w.heap.push ob)[_]?=_
    rw[Array.getElem?_push,if_neg (by omega)]
   ·cases o' with
    |cells cs=>exact absurd rfl hl
    |iter s p=>exact absurd rfl hl
    |hole=>trivial
    |map kvs=>exact absurd rfl hl
    |mit m n s=>exact absurd rfl hl
    |rarr es sz nl=>
     cases nl with
     |false=>exact absurd rfl hl
     |true=>exact⟨hold.1,hold.2.1,hold.2.2.1,λh=>by cases h⟩
    |arr es sz frz nl=>
     cases nl with
     |false=>exact absurd rfl hl
     |true=>exact⟨hold.1,hold.2.1,hold.2.2.1,hold.2.2.2.1,λh=>by cases h⟩
  ·subst h1
   simp at ho
   subst ho
   exact hor
  ·rw[List.getElem?_append_right (by omega),List.getElem?_eq_none (by simp;omega)] at ho
   cases ho
 inj:=λi j hi hj hij=>by
  rcases live_snoc hi with h1|⟨rfl,_⟩<;>rcases live_snoc hj with h2|⟨rfl,_⟩
  ·have a1:=h1.lt
   have a2:=h2.lt
   simp only[Gh.ext] at hij
   rw[if_neg (by omega),if_neg (by omega)] at hij
   exact he.inj i j h1 h2 hij
  ·have a1:=h1.lt
   have a2:=he.lt h1
   simp only[Gh.ext,if_true] at hij
   rw[if_neg (by omega)] at hij
   omega
  ·have a1:=h2.lt
   have a2:=he.lt h2
   simp only[Gh.ext,if_true] at hij
   rw[if_neg (show ¬j=os.length by omega)] at hij
   omega
  ·rfl
 sep:=λi a v hi ha hb=>by
  rcases live_snoc hi with h1|⟨rfl,_⟩
  ·have a1:=h1.lt
   simp only[Gh.ext] at hb
   rw[if_neg (by omega)] at hb
   obtain⟨es,sz,frz,nl,h2,h3⟩:=he.sep i a v h1 ha hb
   exact⟨es,sz,frz,nl,by rw[List.getElem?_append_left a1];exact h2,h3⟩
  ·have:=World.block_lt_of_cell? w a (he.mem a v ha)
   simp only[Gh.ext,if_true] at hb
   omega
theorem cell_alloc_old{ob:Obj}(a:Addr)(v:Value)(h:w.cell? a=some v):(w.alloc ob).cell? a=some v:=by
 rw[World.cell?_alloc_lt _ _ _ (World.block_lt_of_cell? w a h)];exact h
theorem Env.drew(he:Env M G os w):Env M G os w.drew where
 glb:=he.glb
 mem:=he.mem
 obj:=λid o ho=>by
  have h:=he.obj id o ho
  cases o<;>exact h
 inj:=he.inj
 sep:=he.sep
theorem since_drew(M:Mem)(G:Gh)(os:List AO)(w:World):Since M G os w M G os w.drew where
 sys:=rfl
 tape:=rfl
 output:=rfl
 size:=Nat.le_refl _
 frame:=λ_ _ _=>rfl
 grow:=λ_ _ h=>h
 fresh:=λ_ _ h=>.inl h
 own:=λi h=>.inr ⟨i,h,rfl⟩
 keep:=λi o h=>Keeps.same h rfl rfl
theorem live_set{os:List AO}{id i:Nat}{o:AO}(h:Live (os.set id o) i):(i≠id/\Live os i)\/(i=id/\o.live=true):=by
 obtain⟨x,hx,hl⟩:=h
 by_cases hi:i=id
 ·subst hi
  rw[List.getElem?_set] at hx
  simp at hx
  obtain⟨_,rfl⟩:=hx
  exact .inr ⟨rfl,hl⟩
 ·rw[List.getElem?_set_ne (by omega)] at hx
  exact .inl ⟨hi,x,hx,hl⟩
theorem since_upd(he:Env M G os w){id:Nat}{o o':AO}(ho:os[id]?=some o)(hl:o.live=true)(hsys:w'.os=w.os)(htape:w'.tape=w.tape)(hout:w'.output=w.output)
  (hsize:w'.heap.size=w.heap.size) (hoth:∀b,b≠G.blk id->w'.heap[b]?=w.heap[b]?) (hgrow:∀a v,M a=some v->M' a=some v)
  (hnew:∀a v,M' a=some v->M a=some v\/a.block=G.blk id) (hk:Keeps G G id (os.set id o') o) :
  Since M G os w M' G (os.set id o') w' where
 sys:=hsys
 tape:=htape
 output:=hout
 size:=by omega
 frame:=λb _ hn=>hoth b (λe=>hn id ⟨o,ho,hl⟩ e.symm)
 grow:=hgrow
 fresh:=λa v h=>by
  rcases hnew a v h with h1|h1
  ·exact .inl h1
  ·exact .inr (.inr ⟨id,⟨o,ho,hl⟩,h1.symm⟩)
 own:=λi hi=>by
  rcases live_set hi with ⟨_,h⟩|⟨rfl,_⟩
  ·exact .inr ⟨i,h,rfl⟩
  ·exact .inr ⟨i,⟨o,ho,hl⟩,rfl⟩
 keep:=λi x hx=>by
  by_cases hi:i=id
  ·subst hi
   rw[ho] at hx
   cases hx
   exact hk
  ·exact Keeps.same (by rw[List.getElem?_set_ne (by omega)];exact hx) rfl rfl
theorem env_upd(he:Env M G os w){id:Nat}{o o':AO}(ho:os[id]?=some o)(hl:o.live=true)(hsys:w'.os=w.os)(htape:w'.tape=w.tape)(hout:w'.output=w.output)
  (hsize:w'.heap.size=w.heap.size) (hoth:∀b,b≠G.blk id->w'.heap[b]?=w.heap[b]?) (hgrow:∀a v,M a=some v->M' a=some v)
  (hnew:∀a v,M' a=some v->M a=some v\/a.block=G.blk id) (hk:Keeps G G id (os.set id o') o)
  (hsame:∀a,a.block≠G.blk id->M' a=M a)
  (hcell:∀a v,M' a=some v->a.block=G.blk id->w'.cell? a=some v)
  (hsep:∀a v,M' a=some v->a.block=G.blk id->∃es sz frz nl,o'=.arr es sz frz nl/\a.off<frz*sz)
  (hor:OR M' G (os.set id o') w' id o'):Env M' G (os.set id o') w' where
 glb:=glb_since (since_upd he ho hl hsys htape hout hsize hoth hgrow hnew hk) he.glb
 mem:=λa v h=>by
  by_cases hb:a.block=G.blk id
  ·exact hcell a v h hb
  ·rw[World.cell?_of_block (w:=w) (hoth _ hb)]
   exact he.mem a v (by rw[<- hsame a hb];exact h)
 obj:=λi x hx=>by
  by_cases hi:i=id
  ·subst hi
   rw[List.getElem?_set] at hx
   simp at hx
   obtain⟨_,rfl⟩:=hx
   exact hor
  ·rw[List.getElem?_set_ne (by omega)] at hx
   have hold:=he.obj i x hx
   by_cases hlv:x.live=true
   ·have hne:G.blk i≠G.blk id:=λe=>hi (he.inj i id ⟨x,hx,hlv⟩ ⟨o,ho,hl⟩ e)
    exact OR.since (since_upd he ho hl hsys htape hout hsize hoth hgrow hnew hk) hold rfl rfl (hoth _ hne) (λa ha=>hsame a (by rw[ha];exact hne))
   ·cases x with
    |cells cs=>exact absurd rfl hlv
    |iter s p=>exact absurd rfl hlv
    |hole=>trivial
    |map kvs=>exact absurd rfl hlv
    |mit m n s=>exact absurd rfl hlv
    |rarr es sz nl=>
     cases nl with
     |false=>exact absurd rfl hlv
     |true=>exact⟨hold.1,hold.2.1,hold.2.2.1,λh=>by cases h⟩
    |arr es sz frz nl=>
     cases nl with
     |false=>exact absurd rfl hlv
     |true=>exact⟨hold.1,hold.2.1,hold.2.2.1,hold.2.2.2.1,λh=>by cases h⟩
 inj:=λi j hi hj hij=>by
  have conv:∀k,Live (os.set id o') k->Live os k:=λk hk=>by
   rcases live_set hk with ⟨_,h⟩|⟨rfl,_⟩
   ·exact h
   ·exact⟨o,ho,hl⟩
  exact he.inj i j (conv i hi) (conv j hj) hij
 sep:=λi a v hi ha hb=>by
  rcases live_set hi with ⟨hne,h⟩|⟨rfl,_⟩
  ·have hne':G.blk i≠G.blk id:=λe=>hne (he.inj i id h ⟨o,ho,hl⟩ e)
   obtain⟨es,sz,frz,nl,h2,h3⟩:=he.sep i a v h (by rw[<- hsame a (by rw[hb];exact hne')];exact ha) hb
   exact⟨es,sz,frz,nl,by rw[List.getElem?_set_ne (by omega)];exact h2,h3⟩
  ·obtain⟨es,sz,frz,nl,rfl,h3⟩:=hsep a v ha hb
   refine⟨es,sz,frz,nl,?_,h3⟩
   have hlt:=(List.getElem?_eq_some_iff.1 ho).1
   simp[hlt]
theorem since_move(he:Env M G os w){id:Nat}{o o':AO}(ho:os[id]?=some o)(ob:Obj)(c:Nat)(hgrow:∀a v,M a=some v->M' a=some v)
  (hnew:∀a v,M' a=some v->M a=some v\/a.block=w.heap.size) (hk:Keeps G (G.ext id w.heap.size c) id (os.set id o') o) :
  Since M G os w M' (G.ext id w.heap.size c) (os.set id o') (w.alloc ob) where
 sys:=rfl
 tape:=rfl
 output:=rfl
 size:=by simp
 frame:=λb hb _=>by
  show(w.heap.push ob)[b]?=_
  rw[Array.getElem?_push,if_neg (by omega)]
 grow:=hgrow
 fresh:=λa v h=>by
  rcases hnew a v h with h1|h1
  ·exact .inl h1
  ·exact .inr (.inl (by omega))
 own:=λi hi=>by
  rcases live_set hi with ⟨hne,h⟩|⟨rfl,_⟩
  ·exact .inr ⟨i,h,by simp[Gh.ext,hne]⟩
  ·exact .inl (by simp[Gh.ext])
 keep:=λi x hx=>by
  by_cases hi:i=id
  ·subst hi
   rw[ho] at hx
   cases hx
   exact hk
  ·exact Keeps.same (by rw[List.getElem?_set_ne (by omega)];exact hx) (by simp[Gh.ext,hi]) (by simp[Gh.ext,hi])
theorem env_move(he:Env M G os w){id:Nat}{o o':AO}(ho:os[id]?=some o)(ob:Obj)(c:Nat)(hgrow:∀a v,M a=some v->M' a=some v)
  (hnew:∀a v,M' a=some v->M a=some v\/a.block=w.heap.size) (hk:Keeps G (G.ext id w.heap.size c) id (os.set id o') o)
  (hsame:∀a,a.block≠w.heap.size->M' a=M a)
  (hcell:∀a v,M' a=some v->a.block=w.heap.size->(w.alloc ob).cell? a=some v)
  (hsep:∀a v,M' a=some v->a.block=w.heap.size->∃es sz frz nl,o'=.arr es sz frz nl/\a.off<frz*sz)
  (hor:OR M' (G.ext id w.heap.size c) (os.set id o') (w.alloc ob) id o'):Env M' (G.ext id w.heap.size c) (os.set id o') (w.alloc ob) where
 glb:=glb_since (since_move he ho ob c hgrow hnew hk) he.glb
 mem:=λa v h=>by
  by_cases hb:a.block=w.heap.size
  ·exact hcell a v h hb
  ·exact cell_alloc_old a v (he.mem a v (by rw[<- hsame a hb];exact h))
 obj:=λi x hx=>by
  by_cases hi:i=id
  ·subst hi
   rw[List.getElem?_set] at hx
   simp at hx
   obtain⟨_,rfl⟩:=hx
   exact hor
  ·rw[List.getElem?_set_ne (by omega)] at hx
   have hold:=he.obj i x hx
   by_cases hlv:x.live=true
   ·have hlt:=he.lt ⟨x,hx,hlv⟩
    refine OR.since (since_move he ho ob c hgrow hnew hk) hold (by simp[Gh.ext,hi]) (by simp[Gh.ext,hi]) ?_ (λa ha=>hsame a (by omega))
    show(w.heap.push ob)[_]?=_
    rw[Array.getElem?_push,if_neg (by omega)]
   ·cases x with
    |cells cs=>exact absurd rfl hlv
    |iter s p=>exact absurd rfl hlv
    |hole=>trivial
    |map kvs=>exact absurd rfl hlv
    |mit m n s=>exact absurd rfl hlv
    |rarr es sz nl=>
     cases nl with
     |false=>exact absurd rfl hlv
     |true=>exact⟨hold.1,hold.2.1,hold.2.2.1,λh=>by cases h⟩
    |arr es sz frz nl=>
     cases nl with
     |false=>exact absurd rfl hlv
     |true=>exact⟨hold.1,hold.2.1,hold.2.2.1,hold.2.2.2.1,λh=>by cases h⟩
 inj:=λi j hi hj hij=>by
  rcases live_set hi with ⟨n1,h1⟩|⟨rfl,_⟩<;>rcases live_set hj with ⟨n2,h2⟩|⟨rfl,_⟩
  ·simp only[Gh.ext,n1,n2,if_false] at hij
   exact he.inj i j h1 h2 hij
  ·have a2:=he.lt h1
   simp only[Gh.ext,if_true,n1,if_false] at hij
   omega
  ·have a2:=he.lt h2
   simp only[Gh.ext,if_true,n2,if_false] at hij
   omega
  ·rfl
 sep:=λi a v hi ha hb=>by
  rcases live_set hi with ⟨hne,h⟩|⟨rfl,_⟩
  ·have a2:=he.lt h
   simp only[Gh.ext,hne,if_false] at hb
   obtain⟨es,sz,frz,nl,h2,h3⟩:=he.sep i a v h (by rw[<- hsame a (by omega)];exact ha) hb
   exact⟨es,sz,frz,nl,by rw[List.getElem?_set_ne (by omega)];exact h2,h3⟩
  ·simp only[Gh.ext,if_true] at hb
   obtain⟨es,sz,frz,nl,rfl,h3⟩:=hsep a v ha hb
   refine⟨es,sz,frz,nl,?_,h3⟩
   have hlt:=(List.getElem?_eq_some_iff.1 ho).1
   simp[hlt]
end
end Go.Bi
