/- What new objects, stores, freezing and appending do to the relation of BiA. No condition. -/
import Derived.Test.YtfnaleemmeejcaaGreatBA
set_option linter.unusedVariables false
namespace Go.Bi
set_option linter.unusedSectionVars false
variable [N0]
section
variable {M M':D4}{G G':Gh}{os os':List AO}{w w':World}
theorem C9.lt(h:C9 M G os w){i:Nat}(hl:H6 os i):G.blk i<w.heap.size:=by
 obtain⟨o,ho,hlv⟩:=hl
 have h1:=h.obj i o ho
 cases o with
 |cells cs=>
  obtain⟨ca,t,h2,_⟩:=h1
  exact(A01.1 h2).1
 |iter s p=>exact(A01.1 h1).1
 |hole=>cases hlv
 |map kvs=>
  obtain⟨es,h2,_⟩:=h1
  exact(A01.1 h2).1
 |mit m n s=>exact(A01.1 h1.1).1
 |rarr es sz nl=>
  cases nl with
  |true=>cases hlv
  |false=>
   obtain⟨ca,t,h2,_⟩:=h1.2.2.2 rfl
   exact(A01.1 h2).1
 |arr es sz frz nl=>
  cases nl with
  |true=>cases hlv
  |false=>
   obtain⟨ca,t,h2,_⟩:=h1.2.2.2.2 rfl
   exact(A01.1 h2).1
theorem H6.arr{os:List AO}{i:Nat}{es:List (List D)}{sz frz:Nat}(h:os[i]?=some (.arr es sz frz false)):H6 os i:=⟨_,h,rfl⟩
theorem H6.cells{os:List AO}{i:Nat}{cs:List AV}(h:os[i]?=some (.cells cs)):H6 os i:=⟨_,h,rfl⟩
theorem H6.map{os:List AO}{i:Nat}{kvs:List (D×AV)}(h:os[i]?=some (.map kvs)):H6 os i:=⟨_,h,rfl⟩
theorem H6.mit{os:List AO}{i m n:Nat}{s:List Nat}(h:os[i]?=some (.mit m n s)):H6 os i:=⟨_,h,rfl⟩
theorem H6.rarr{os:List AO}{i:Nat}{es:List (List AV)}{sz:Nat}(h:os[i]?=some (.rarr es sz false)):H6 os i:=⟨_,h,rfl⟩
theorem H6.iter{os:List AO}{i:Nat}{s:List UInt8}{p:Nat}(h:os[i]?=some (.iter s p)):H6 os i:=⟨_,h,rfl⟩
theorem OR.since(s:G7 M G os w M' G' os' w'){id:Nat}{o:AO}(h:OR M G os w id o)(hb:G'.blk id=G.blk id)(hc:G'.cap id=G.cap id)
  (hh:w'.heap[G.blk id]?=w.heap[G.blk id]?) (hf:∀a,a.block=G.blk id->M' a=M a):OR M' G' os' w' id o:=by
 cases o with
 |cells cs=>
  obtain⟨ca,t,h1,h2,h3⟩:=h
  exact⟨ca,t,by rw[hb,hh];exact h1,h2,λj c u hc hu=>(h3 j c u hc hu).since s⟩
 |iter str p=>
  show _=_
  rw[hb,hh];exact h
 |hole=>trivial
 |map kvs=>
  obtain⟨es,h1,h2,h3⟩:=h
  refine⟨es,by rw[hb,hh];exact h1,h2,λj p e hp he=>?_⟩
  obtain⟨a1,a2,a3⟩:=h3 j p e hp he
  exact⟨a1,a2.mono s.grow,a3.since s⟩
 |mit m n sn=>
  obtain⟨h1,kvs,h2⟩:=h
  obtain⟨k1,k2⟩:=s.keep m _ h2
  exact⟨by rw[hb,hh,k1];exact h1,k2⟩
 |rarr es sz nl=>
  obtain⟨h1,h2,h4,h5⟩:=h
  refine⟨h1,h2,h4,λhn=>?_⟩
  obtain⟨ca,t,h6,h7,h8,h9,h10⟩:=h5 hn
  refine⟨ca,t,by rw[hb,hh];exact h6,by rw[hc];exact h7,by rw[hc];exact h8,by rw[hc];exact h9,λi j e x hi hj=>?_⟩
  obtain⟨u,hu,hr⟩:=h10 i j e x hi hj
  exact⟨u,hu,hr.since s⟩
 |arr es sz frz nl=>
  obtain⟨h1,h2,h3,h4,h5⟩:=h
  refine⟨h1,h2,h3,h4,λhn=>?_⟩
  obtain⟨ca,t,h6,h7,h8,h9,h10,h11⟩:=h5 hn
  refine⟨ca,t,by rw[hb,hh];exact h6,by rw[hc];exact h7,by rw[hc];exact h8,by rw[hc];exact h9,λi j e x hi hj=>?_,λo ho=>?_⟩
  ·obtain⟨u,hu,hr⟩:=h10 i j e x hi hj
   exact⟨u,hu,hr.mono s.grow⟩
  ·rw[hb,hf _ rfl];exact h11 o ho
def Gh.ext(G:Gh)(n b c:Nat):Gh:={blk:=λi=>if i=n then b else G.blk i,cap:=λi=>if i=n then c else G.cap i}
theorem A72{os:List AO}{o:AO}{i:Nat}(h:H6 (os++[o]) i):H6 os i\/(i=os.length/\o.live=true):=by
 obtain⟨x,hx,hl⟩:=h
 rcases Nat.lt_trichotomy i os.length with h1|h1|h1
 ·rw[P8 h1] at hx
  exact .inl ⟨x,hx,hl⟩
 ·subst h1
  simp at hx
  subst hx
  exact .inr ⟨rfl,hl⟩
 ·rw[W4 (by omega)] at hx
  rw[A1m (by simp;omega)] at hx
  cases hx
theorem H6.lt{os:List AO}{i:Nat}(h:H6 os i):i<os.length:=by
 obtain⟨x,hx,_⟩:=h
 exact(B4.1 hx).1
theorem P4.same{G G':Gh}{i:Nat}{os:List AO}{o:AO}(h:os[i]?=some o)(hb:G'.blk i=G.blk i)(hc:G'.cap i=G.cap i):P4 G G' i os o:=by
 cases o with
 |cells cs=>exact⟨hb,cs,h⟩
 |iter s p=>exact⟨hb,s,p,h⟩
 |hole=>exact⟨_,h⟩
 |map kvs=>exact⟨hb,kvs,h⟩
 |mit m n s=>exact⟨hb,m,n,s,h⟩
 |rarr es sz nl=>exact⟨es,nl,h,D3 _,λ_=>⟨hb,hc,rfl⟩⟩
 |arr es sz frz nl=>exact⟨es,frz,nl,h,D3 _,λ_=>⟨hb,hc,rfl⟩⟩
theorem A2l(he:C9 M G os w)(o:AO)(ob:Obj)(c:Nat):G7 M G os w M (G.ext os.length w.heap.size c) (os++[o]) (w.alloc ob) where
 sys:=rfl
 tape:=rfl
 output:=rfl
 size:=by simp
 frame:=λb hb _=>by
  show(w.heap.push ob)[b]?=_
  rw[A3Z,if_neg (by omega)]
 grow:=λ_ _ h=>h
 fresh:=λ_ _ h=>.inl h
 own:=λi hi=>by
  rcases A72 hi with h|⟨rfl,_⟩
  ·have:=h.lt
   exact .inr ⟨i,h,by simp[Gh.ext];omega⟩
  ·exact .inl (by simp[Gh.ext])
 keep:=λi o' ho=>by
  have hlt:=(B4.1 ho).1
  exact P4.same (by rw[P8 hlt];exact ho) (by simp[Gh.ext];omega) (by simp[Gh.ext];omega)
theorem A3w(he:C9 M G os w)(o:AO)(ob:Obj)(c:Nat)(hm:∀a v,w.cell? a=some v->(w.alloc ob).cell? a=some v)
  (hor:OR M (G.ext os.length w.heap.size c) (os++[o]) (w.alloc ob) os.length o) (hsep:o.live=true->∀es sz frz nl,o=.arr es sz frz nl->frz=0) :
  C9 M (G.ext os.length w.heap.size c) (os++[o]) (w.alloc ob) where
 glb:=A29 (A2l he o ob c) he.glb
 mem:=λa v h=>hm a v (he.mem a v h)
 obj:=λid o' ho=>by
  rcases Nat.lt_trichotomy id os.length with h1|h1|h1
  ·rw[P8 h1] at ho
   have hold:=he.obj id o' ho
   by_cases hl:o'.live=true
   ·have hlt:=he.lt ⟨o',ho,hl⟩
    refine OR.since (A2l he o ob c) hold (by simp[Gh.ext];omega) (by simp[Gh.ext];omega) ?_ (λ_ _=>rfl)
    show(w.heap.push ob)[_]?=_
    rw[A3Z,if_neg (by omega)]
   ·cases o' with
    |cells cs=>exact absurd rfl hl
    |iter s p=>exact absurd rfl hl
    |hole=>trivial
    |map kvs=>exact absurd rfl hl
    |mit m n s=>exact absurd rfl hl
    |rarr es sz nl=>
     cases nl with
     |false=>exact absurd rfl hl
     |true=>exact⟨hold.1,hold.2.1,hold.2.2.1,λh=>by cases h⟩
    |arr es sz frz nl=>
     cases nl with
     |false=>exact absurd rfl hl
     |true=>exact⟨hold.1,hold.2.1,hold.2.2.1,hold.2.2.2.1,λh=>by cases h⟩
  ·subst h1
   simp at ho
   subst ho
   exact hor
  ·rw[W4 (by omega),A1m (by simp;omega)] at ho
   cases ho
 inj:=λi j hi hj hij=>by
  rcases A72 hi with h1|⟨rfl,_⟩<;>rcases A72 hj with h2|⟨rfl,_⟩
  ·have a1:=h1.lt
   have a2:=h2.lt
   simp only[Gh.ext] at hij
   rw[if_neg (by omega),if_neg (by omega)] at hij
   exact he.inj i j h1 h2 hij
  ·have a1:=h1.lt
   have a2:=he.lt h1
   simp only[Gh.ext,if_true] at hij
   rw[if_neg (by omega)] at hij
   omega
  ·have a1:=h2.lt
   have a2:=he.lt h2
   simp only[Gh.ext,if_true] at hij
   rw[if_neg (show ¬j=os.length by omega)] at hij
   omega
  ·rfl
 sep:=λi a v hi ha hb=>by
  rcases A72 hi with h1|⟨rfl,_⟩
  ·have a1:=h1.lt
   simp only[Gh.ext] at hb
   rw[if_neg (by omega)] at hb
   obtain⟨es,sz,frz,nl,h2,h3⟩:=he.sep i a v h1 ha hb
   exact⟨es,sz,frz,nl,by rw[P8 a1];exact h2,h3⟩
  ·have:=World.block_lt_of_cell? w a (he.mem a v ha)
   simp only[Gh.ext,if_true] at hb
   omega
theorem A0v{ob:Obj}(a:Addr)(v:Value)(h:w.cell? a=some v):(w.alloc ob).cell? a=some v:=by
 rw[World.cell?_alloc_lt _ _ _ (World.block_lt_of_cell? w a h)];exact h
theorem C9.drew(he:C9 M G os w):C9 M G os w.drew where
 glb:=he.glb
 mem:=he.mem
 obj:=λid o ho=>by
  have h:=he.obj id o ho
  cases o<;>exact h
 inj:=he.inj
 sep:=he.sep
theorem A4x(M:D4)(G:Gh)(os:List AO)(w:World):G7 M G os w M G os w.drew where
 sys:=rfl
 tape:=rfl
 output:=rfl
 size:=D3 _
 frame:=λ_ _ _=>rfl
 grow:=λ_ _ h=>h
 fresh:=λ_ _ h=>.inl h
 own:=λi h=>.inr ⟨i,h,rfl⟩
 keep:=λi o h=>P4.same h rfl rfl
theorem A4n{os:List AO}{id i:Nat}{o:AO}(h:H6 (os.set id o) i):(i≠id/\H6 os i)\/(i=id/\o.live=true):=by
 obtain⟨x,hx,hl⟩:=h
 by_cases hi:i=id
 ·subst hi
  rw[A4M] at hx
  simp at hx
  obtain⟨_,rfl⟩:=hx
  exact .inr ⟨rfl,hl⟩
 ·rw[i0 (by omega)] at hx
  exact .inl ⟨hi,x,hx,hl⟩
theorem A0B(he:C9 M G os w){id:Nat}{o o':AO}(ho:os[id]?=some o)(hl:o.live=true)(hsys:w'.os=w.os)(htape:w'.tape=w.tape)(hout:w'.output=w.output)
  (hsize:w'.heap.size=w.heap.size) (hoth:∀b,b≠G.blk id->w'.heap[b]?=w.heap[b]?) (hgrow:∀a v,M a=some v->M' a=some v)
  (hnew:∀a v,M' a=some v->M a=some v\/a.block=G.blk id) (hk:P4 G G id (os.set id o') o) :
  G7 M G os w M' G (os.set id o') w' where
 sys:=hsys
 tape:=htape
 output:=hout
 size:=by omega
 frame:=λb _ hn=>hoth b (λe=>hn id ⟨o,ho,hl⟩ e.symm)
 grow:=hgrow
 fresh:=λa v h=>by
  rcases hnew a v h with h1|h1
  ·exact .inl h1
  ·exact .inr (.inr ⟨id,⟨o,ho,hl⟩,h1.symm⟩)
 own:=λi hi=>by
  rcases A4n hi with ⟨_,h⟩|⟨rfl,_⟩
  ·exact .inr ⟨i,h,rfl⟩
  ·exact .inr ⟨i,⟨o,ho,hl⟩,rfl⟩
 keep:=λi x hx=>by
  by_cases hi:i=id
  ·subst hi
   rw[ho] at hx
   cases hx
   exact hk
  ·exact P4.same (by rw[i0 (by omega)];exact hx) rfl rfl
theorem A1B(he:C9 M G os w){id:Nat}{o o':AO}(ho:os[id]?=some o)(hl:o.live=true)(hsys:w'.os=w.os)(htape:w'.tape=w.tape)(hout:w'.output=w.output)
  (hsize:w'.heap.size=w.heap.size) (hoth:∀b,b≠G.blk id->w'.heap[b]?=w.heap[b]?) (hgrow:∀a v,M a=some v->M' a=some v)
  (hnew:∀a v,M' a=some v->M a=some v\/a.block=G.blk id) (hk:P4 G G id (os.set id o') o)
  (hsame:∀a,a.block≠G.blk id->M' a=M a)
  (hcell:∀a v,M' a=some v->a.block=G.blk id->w'.cell? a=some v)
  (hsep:∀a v,M' a=some v->a.block=G.blk id->∃es sz frz nl,o'=.arr es sz frz nl/\a.off<frz*sz)
  (hor:OR M' G (os.set id o') w' id o'):C9 M' G (os.set id o') w' where
 glb:=A29 (A0B he ho hl hsys htape hout hsize hoth hgrow hnew hk) he.glb
 mem:=λa v h=>by
  by_cases hb:a.block=G.blk id
  ·exact hcell a v h hb
  ·rw[World.cell?_of_block (w:=w) (hoth _ hb)]
   exact he.mem a v (by rw[<- hsame a hb];exact h)
 obj:=λi x hx=>by
  by_cases hi:i=id
  ·subst hi
   rw[A4M] at hx
   simp at hx
   obtain⟨_,rfl⟩:=hx
   exact hor
  ·rw[i0 (by omega)] at hx
   have hold:=he.obj i x hx
   by_cases hlv:x.live=true
   ·have hne:G.blk i≠G.blk id:=λe=>hi (he.inj i id ⟨x,hx,hlv⟩ ⟨o,ho,hl⟩ e)
    exact OR.since (A0B he ho hl hsys htape hout hsize hoth hgrow hnew hk) hold rfl rfl (hoth _ hne) (λa ha=>hsame a (by rw[ha];exact hne))
   ·cases x with
    |cells cs=>exact absurd rfl hlv
    |iter s p=>exact absurd rfl hlv
    |hole=>trivial
    |map kvs=>exact absurd rfl hlv
    |mit m n s=>exact absurd rfl hlv
    |rarr es sz nl=>
     cases nl with
     |false=>exact absurd rfl hlv
     |true=>exact⟨hold.1,hold.2.1,hold.2.2.1,λh=>by cases h⟩
    |arr es sz frz nl=>
     cases nl with
     |false=>exact absurd rfl hlv
     |true=>exact⟨hold.1,hold.2.1,hold.2.2.1,hold.2.2.2.1,λh=>by cases h⟩
 inj:=λi j hi hj hij=>by
  have conv:∀k,H6 (os.set id o') k->H6 os k:=λk hk=>by
   rcases A4n hk with ⟨_,h⟩|⟨rfl,_⟩
   ·exact h
   ·exact⟨o,ho,hl⟩
  exact he.inj i j (conv i hi) (conv j hj) hij
 sep:=λi a v hi ha hb=>by
  rcases A4n hi with ⟨hne,h⟩|⟨rfl,_⟩
  ·have hne':G.blk i≠G.blk id:=λe=>hne (he.inj i id h ⟨o,ho,hl⟩ e)
   obtain⟨es,sz,frz,nl,h2,h3⟩:=he.sep i a v h (by rw[<- hsame a (by rw[hb];exact hne')];exact ha) hb
   exact⟨es,sz,frz,nl,by rw[i0 (by omega)];exact h2,h3⟩
  ·obtain⟨es,sz,frz,nl,rfl,h3⟩:=hsep a v ha hb
   refine⟨es,sz,frz,nl,?_,h3⟩
   have hlt:=(B4.1 ho).1
   simp[hlt]
theorem A3R(he:C9 M G os w){id:Nat}{o o':AO}(ho:os[id]?=some o)(ob:Obj)(c:Nat)(hgrow:∀a v,M a=some v->M' a=some v)
  (hnew:∀a v,M' a=some v->M a=some v\/a.block=w.heap.size) (hk:P4 G (G.ext id w.heap.size c) id (os.set id o') o) :
  G7 M G os w M' (G.ext id w.heap.size c) (os.set id o') (w.alloc ob) where
 sys:=rfl
 tape:=rfl
 output:=rfl
 size:=by simp
 frame:=λb hb _=>by
  show(w.heap.push ob)[b]?=_
  rw[A3Z,if_neg (by omega)]
 grow:=hgrow
 fresh:=λa v h=>by
  rcases hnew a v h with h1|h1
  ·exact .inl h1
  ·exact .inr (.inl (by omega))
 own:=λi hi=>by
  rcases A4n hi with ⟨hne,h⟩|⟨rfl,_⟩
  ·exact .inr ⟨i,h,by simp[Gh.ext,hne]⟩
  ·exact .inl (by simp[Gh.ext])
 keep:=λi x hx=>by
  by_cases hi:i=id
  ·subst hi
   rw[ho] at hx
   cases hx
   exact hk
  ·exact P4.same (by rw[i0 (by omega)];exact hx) (by simp[Gh.ext,hi]) (by simp[Gh.ext,hi])
theorem B1R(he:C9 M G os w){id:Nat}{o o':AO}(ho:os[id]?=some o)(ob:Obj)(c:Nat)(hgrow:∀a v,M a=some v->M' a=some v)
  (hnew:∀a v,M' a=some v->M a=some v\/a.block=w.heap.size) (hk:P4 G (G.ext id w.heap.size c) id (os.set id o') o)
  (hsame:∀a,a.block≠w.heap.size->M' a=M a)
  (hcell:∀a v,M' a=some v->a.block=w.heap.size->(w.alloc ob).cell? a=some v)
  (hsep:∀a v,M' a=some v->a.block=w.heap.size->∃es sz frz nl,o'=.arr es sz frz nl/\a.off<frz*sz)
  (hor:OR M' (G.ext id w.heap.size c) (os.set id o') (w.alloc ob) id o'):C9 M' (G.ext id w.heap.size c) (os.set id o') (w.alloc ob) where
 glb:=A29 (A3R he ho ob c hgrow hnew hk) he.glb
 mem:=λa v h=>by
  by_cases hb:a.block=w.heap.size
  ·exact hcell a v h hb
  ·exact A0v a v (he.mem a v (by rw[<- hsame a hb];exact h))
 obj:=λi x hx=>by
  by_cases hi:i=id
  ·subst hi
   rw[A4M] at hx
   simp at hx
   obtain⟨_,rfl⟩:=hx
   exact hor
  ·rw[i0 (by omega)] at hx
   have hold:=he.obj i x hx
   by_cases hlv:x.live=true
   ·have hlt:=he.lt ⟨x,hx,hlv⟩
    refine OR.since (A3R he ho ob c hgrow hnew hk) hold (by simp[Gh.ext,hi]) (by simp[Gh.ext,hi]) ?_ (λa ha=>hsame a (by omega))
    show(w.heap.push ob)[_]?=_
    rw[A3Z,if_neg (by omega)]
   ·cases x with
    |cells cs=>exact absurd rfl hlv
    |iter s p=>exact absurd rfl hlv
    |hole=>trivial
    |map kvs=>exact absurd rfl hlv
    |mit m n s=>exact absurd rfl hlv
    |rarr es sz nl=>
     cases nl with
     |false=>exact absurd rfl hlv
     |true=>exact⟨hold.1,hold.2.1,hold.2.2.1,λh=>by cases h⟩
    |arr es sz frz nl=>
     cases nl with
     |false=>exact absurd rfl hlv
     |true=>exact⟨hold.1,hold.2.1,hold.2.2.1,hold.2.2.2.1,λh=>by cases h⟩
 inj:=λi j hi hj hij=>by
  rcases A4n hi with ⟨n1,h1⟩|⟨rfl,_⟩<;>rcases A4n hj with ⟨n2,h2⟩|⟨rfl,_⟩
  ·simp only[Gh.ext,n1,n2,if_false] at hij
   exact he.inj i j h1 h2 hij
  ·have a2:=he.lt h1
   simp only[Gh.ext,if_true,n1,if_false] at hij
   omega
  ·have a2:=he.lt h2
   simp only[Gh.ext,if_true,n2,if_false] at hij
   omega
  ·rfl
 sep:=λi a v hi ha hb=>by
  rcases A4n hi with ⟨hne,h⟩|⟨rfl,_⟩
  ·have a2:=he.lt h
   simp only[Gh.ext,hne,if_false] at hb
   obtain⟨es,sz,frz,nl,h2,h3⟩:=he.sep i a v h (by rw[<- hsame a (by omega)];exact ha) hb
   exact⟨es,sz,frz,nl,by rw[i0 (by omega)];exact h2,h3⟩
  ·simp only[Gh.ext,if_true] at hb
   obtain⟨es,sz,frz,nl,rfl,h3⟩:=hsep a v ha hb
   refine⟨es,sz,frz,nl,?_,h3⟩
   have hlt:=(B4.1 ho).1
   simp[hlt]
end
end Go.Bi
