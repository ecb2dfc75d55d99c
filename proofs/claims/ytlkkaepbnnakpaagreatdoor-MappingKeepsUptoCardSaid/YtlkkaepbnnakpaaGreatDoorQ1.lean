/- Texts of this claim, joined. No condition. -/
import Derived.Test.YtlkkaepbnnakpaaGreatDoorBi
import Derived.Shelf.Sort.Plain
import Derived.Shelf.Slices.In.SortNone
import Derived.Shelf.Slices.CompactI
import Derived.Test.YtlkkaepbnnakpaaGreatDoorIc0
import Derived.Test.YtlkkaepbnnakpaaGreatDoorIc1
import Derived.LoopN
import Derived.Shelf.LaysM
import Derived.Shelf.Strconv.Itoa3
import Derived.Shelf.Strings.Search3
import Derived.Shelf.Strings.Replace
import Derived.Test.YtlkkaepbnnakpaaGreatDoorProg
import Derived.Shelf.Spec.SlicesGrow
import Derived.Ground.Names8Prog
import Derived.Test.YtlkkaepbnnakpaaGreatDoorNm
import Derived.Lib.Replace
import Derived.Lib.IndexMore
import Derived.Lib.Strings
import Derived.Lib.Slices
import Derived.Lib.Walk
import Derived.Lib.Bytealg
import Derived.Lib.ItoaLen
import Derived.Lib.ItoaMem
set_option linter.unusedSimpArgs false
set_option linter.unusedVariables false
set_option maxRecDepth 10000
set_option maxHeartbeats 4000000
section
namespace Go.Bi
open Go Go.Proofs Go.Sort Go.Shelf
section
variable {P:Program}{M:C5}{G:Gh}{os:List AO}{w w':World}
theorem OR.live_lt(he:C3 M G os w){id:Nat}{o:AO}(ho:os[id]?=some o)(hl:o.live=true):G.blk id<w.heap.size:=he.lt ⟨o,ho,hl⟩
theorem A8a(hsys:w'.os=w.os)(htape:w'.tape=w.tape)(hout:w'.output=w.output)(hsz:w.heap.size<=w'.heap.size)(hh:∀b,b<w.heap.size->w'.heap[b]?=w.heap[b]?):E1 M G os w M G os w' where
 sys:=hsys
 tape:=htape
 output:=hout
 size:=hsz
 frame:=λb hb _=>hh b hb
 grow:=λ_ _ h=>h
 fresh:=λ_ _ h=>.inl h
 own:=λi h=>.inr ⟨i,h,rfl⟩
 keep:=λi o h=>(E1.refl M G os w).keep i o h
theorem B7l(he:C3 M G os w)(hsys:w'.os=w.os)(htape:w'.tape=w.tape)(hout:w'.output=w.output)(hsz:w.heap.size<=w'.heap.size)(hh:∀b,b<w.heap.size->w'.heap[b]?=w.heap[b]?):C3 M G os w' where
 mem:=λa v h=>by
  have h1:=he.mem a v h
  have hlt:a.block<w.heap.size:=by
   unfold World.cell? at h1
   cases hb:w.heap[a.block]? with
   |none=>rw[hb] at h1;cases h1
   |some o=>exact(s0.1 hb).1
  rw[World.cell?_of_block (w:=w) (hh _ hlt)]
  exact h1
 obj:=λi x hx=>by
  have hold:=he.obj i x hx
  by_cases hlv:x.live=true
  ·exact OR.since (A8a hsys htape hout hsz hh) hold rfl rfl (hh _ (OR.live_lt he hx hlv)) (λ_ _=>rfl)
  ·cases x with
   |cells cs=>exact absurd rfl hlv
   |iter s p=>exact absurd rfl hlv
   |hole=>trivial
   |map kvs=>exact absurd rfl hlv
   |mit m n s=>exact absurd rfl hlv
   |arr es sz frz nl=>
    cases nl with
    |false=>exact absurd rfl hlv
    |true=>exact⟨hold.1,hold.2.1,hold.2.2.1,hold.2.2.2.1,λh=>by cases h⟩
   |rarr es sz nl=>
    cases nl with
    |false=>exact absurd rfl hlv
    |true=>exact⟨hold.1,hold.2.1,hold.2.2.1,λh=>by cases h⟩
 inj:=he.inj
 sep:=he.sep
 glb:=A0L (A8a (M:=M) (G:=G) (os:=os) hsys htape hout hsz hh) he.glb
def ints(zs:List Int):List (List D):=zs.map λz=>[.int .i64 z]
theorem A2q(zs:List Int):(ints zs).length=zs.length:=by simp[ints]
theorem D11(zs:List Int):∀e∈ints zs,e.length=1:=by
 intro e he
 obtain⟨z,_,rfl⟩:=F1.1 he
 rfl
theorem D1r(blk:Nat)(f:Array Value->Array Value)(b:Nat)(h:b≠blk):(mapBlock w blk f).heap[b]?=w.heap[b]?:=by
 unfold mapBlock
 simp only[A6x]
 rw[if_neg (m6 h)]
theorem B9w(he:C3 M G os w){id:Nat}{zs ys:List Int}(ho:os[id]?=some (.arr (ints zs) 1 0 false))(hlen:ys.length=zs.length)(n:Nat) :
  C3 M G (os.set id (.arr (ints ys) 1 0 false)) (putRow (Value.int .i64) (Sort.ahead w n) (G.blk id) 0 ys.toArray)/\E1 M G os w M G (os.set id (.arr (ints ys) 1 0 false)) (putRow (Value.int .i64) (Sort.ahead w n) (G.blk id) 0 ys.toArray):=by
 obtain⟨h1,h2,h3,h4,h5⟩:=he.obj id _ ho
 obtain⟨ca,t,h6,h7,h8,h9,h10,h11⟩:=h5 rfl
 have hlt:=(B3.1 ho).1
 have hno:∀a v,M a=some v->a.block=G.blk id->False:=λa v ha hb=>by
  obtain⟨es',sz',frz',nl',h12,h13⟩:=he.sep id a v (E5.arr ho) ha hb
  rw[ho] at h12
  cases h12
  omega
 have hk:M4 G G id (os.set id (.arr (ints ys) 1 0 false)) (.arr (ints zs) 1 0 false):=⟨ints ys,0,false,by simp[hlt],by rw[A2q,A2q];omega,λ_=>⟨rfl,rfl,rfl⟩⟩
 have hoth:∀b,b≠G.blk id->(putRow (Value.int .i64) (Sort.ahead w n) (G.blk id) 0 ys.toArray).heap[b]?=w.heap[b]?:=λb hb=>D1r _ _ b hb
 have hs:=p7 he (w':=putRow (Value.int .i64) (Sort.ahead w n) (G.blk id) 0 ys.toArray) (M':=M) ho rfl rfl rfl rfl (by simp) hoth (λ_ _ h=>h) (λ_ _ h=>.inl h) hk
 refine⟨y3 he ho rfl rfl rfl rfl (by simp) hoth (λ_ _ h=>h) (λ_ _ h=>.inl h) hk (λ_ _=>rfl) (λa v ha hb=>(hno a v ha hb).elim) (λa v ha hb=>(hno a v ha hb).elim) ?_,hs⟩
 rw[A2q] at h8
 refine⟨h1,D11 ys,T6 _,λh=>(by cases h),λ_=>⟨putCells (Value.int .i64) 0 ys.toArray ca,t,?_,?_,?_,h9,λi j e x hi hj=>?_,λo ho=>(by omega)⟩⟩
 ·show(mapBlock (Sort.ahead w n) (G.blk id) _).heap[G.blk id]?=_
  unfold mapBlock
  simp only[A6x,if_true]
  show Option.map _ w.heap[G.blk id]?=_
  rw[h6];rfl
 ·unfold putCells
  rw[Array.size_mapIdx,h7]
 ·rw[A2q];omega
 ·obtain⟨z,hz,rfl⟩:∃z,ys[i]?=some z/\e=[.int .i64 z]:=by
   unfold ints at hi
   rw[G4] at hi
   cases hy:ys[i]? with
   |none=>rw[hy] at hi;cases hi
   |some z=>rw[hy] at hi;cases hi;exact⟨z,rfl,rfl⟩
  have hil:=(B3.1 hz).1
  cases j with
  |succ j=>cases hj
  |zero=>
   cases hj
   refine⟨.int .i64 z,?_,.int _ _⟩
   unfold putCells
   have hic:i*1+0<ca.size:=by rw[h7];omega
   rw[Array.getElem?_mapIdx,J5 hic,A10,if_pos (by simp;omega)]
   have:ys.toArray[i*1+0-0]! = z:=by
    have e:i*1+0-0=i:=by omega
    rw[e,getElem!_pos _ i (by simpa using hil)]
    simpa using(B3.1 hz).2
   rw[this]
theorem B9x(he:C3 M G os w){id:Nat}{zs:List Int}(ho:os[id]?=some (.arr (ints zs) 1 0 false)):Holds (Value.int .i64) w (G.blk id) 0 zs.toArray:=by
 obtain⟨h1,h2,h3,h4,h5⟩:=he.obj id _ ho
 obtain⟨ca,t,h6,h7,h8,h9,h10,h11⟩:=h5 rfl
 intro j hj
 have hj':j<zs.length:=by simpa using hj
 have hz:(ints zs)[j]?=some [.int .i64 zs[j]]:=by unfold ints;rw[G4,C8 hj'];rfl
 obtain⟨u,hu,hr⟩:=h10 j 0 _ _ hz rfl
 cases hr
 rw[Nat.mul_one,A1E] at hu
 refine⟨?_,?_⟩
 ·have:zs.toArray[j]! = zs[j]:=by rw[getElem!_pos _ j hj];simp
  rw[this,x8]
  unfold World.cell?
  rw[h6]
  simpa using hu
 ·unfold World.frozen?
  rw[h6]
  simp
theorem B7Y(he:C3 M G os w){id m:Nat}{es:List (List D)}{sz:Nat}(ho:os[id]?=some (.arr es sz 0 false))(hm:m<=es.length) :
  C3 (C5.with M w (G.blk id) (m*sz)) G (os.set id (.arr es sz m false)) w/\
  E1 M G os w (C5.with M w (G.blk id) (m*sz)) G (os.set id (.arr es sz m false)) w/\
  Rd (C5.with M w (G.blk id) (m*sz)) (.sl (es.take m)) (.slice (some ⟨G.blk id,0,none⟩) m (G.cap id)):=by
 obtain⟨h1,h2,h3,h4,h5⟩:=he.obj id _ ho
 obtain⟨ca,t,h6,h7,h8,h9,h10,h11⟩:=h5 rfl
 have hlt:=(B3.1 ho).1
 have hgrow:∀x v,M x=some v->C5.with M w (G.blk id) (m*sz) x=some v:=λx v hx=>by
  unfold C5.with
  split
  ·exact he.mem x v hx
  ·exact hx
 have hnew:∀x v,C5.with M w (G.blk id) (m*sz) x=some v->M x=some v\/x.block=G.blk id:=λx v hx=>by
  unfold C5.with at hx
  split at hx
  ·rename_i hc;exact .inr hc.1
  ·exact .inl hx
 have hk:M4 G G id (os.set id (.arr es sz m false)) (.arr es sz 0 false):=⟨es,m,false,by simp[hlt],G9 _,λ_=>⟨rfl,rfl,rfl⟩⟩
 have hs:=p7 he (w':=w) ho rfl rfl rfl rfl rfl (λ_ _=>rfl) hgrow hnew hk
 have hcl:∀o,o<m*sz->C5.with M w (G.blk id) (m*sz) ⟨G.blk id,o,none⟩=ca[o]?:=λo ho=>by
  unfold C5.with
  rw[if_pos ⟨rfl,rfl,ho⟩]
  simp[World.cell?,h6]
 refine⟨y3 he ho rfl rfl rfl rfl rfl (λ_ _=>rfl) hgrow hnew hk (λx hx=>?_) (λx v hx hb=>?_) (λx v hx hb=>?_) ?_,hs,?_⟩
 ·unfold C5.with
  rw[if_neg (λhc=>hx hc.1)]
 ·unfold C5.with at hx
  split at hx
  ·exact hx
  ·exact he.mem x v hx
 ·refine⟨_,_,_,_,rfl,?_⟩
  unfold C5.with at hx
  split at hx
  ·rename_i hc;exact hc.2.2
  ·obtain⟨es',sz',frz',nl',h12,h13⟩:=he.sep id x v (E5.arr ho) hx hb
   rw[ho] at h12
   cases h12
   omega
 ·refine⟨h1,h2,hm,λh=>(by cases h),λ_=>⟨ca,t,h6,h7,h8,h9,λi j e x hi hj=>?_,hcl⟩⟩
  obtain⟨u,hu,hr⟩:=h10 i j e x hi hj
  exact⟨u,hu,hr.mono hgrow⟩
 ·have hlen:(es.take m).length=m:=by rw[L6];omega
  have key:Rd (C5.with M w (G.blk id) (m*sz)) (.sl (es.take m)) (.slice (some ⟨G.blk id,0,none⟩) (es.take m).length (G.cap id)):=by
   refine Rd.sl (es.take m) (G.blk id) 0 (G.cap id) sz (λi j=>(ca[i*sz+j]?).getD undef) (by omega) (λe hx=>h2 e (W3 hx)) (λi j hi hj=>?_) (λi j e d hi hj=>?_)
   ·rw[hlen] at hi
    rw[x8,hcl _ (W7 hi hj)]
    have hsz:i*sz+j<ca.size:=by
     rw[h7]
     exact A1F (W7 hi hj) (X4 _ (by omega))
    simp[hsz]
   ·have hil:=(B3.1 hi).1
    rw[Y3,if_pos (by omega)] at hi
    obtain⟨u,hu,hr⟩:=h10 i j e d hi hj
    simp only[hu,j6]
    exact hr.mono hgrow
  rwa [hlen] at key
theorem D3c{ρ:Ren}(L:Lays.n189 P ρ)(he:Enters P (ρ.f 189))(zs:List Int)(nl:Bool)(hz:zs.length<4611686018427387904) :
  B5 P (ρ.f 189) [.arr 0 (ints zs).length] [.arr (ints zs) 1 0 nl] (λr os'=>r=.tup []/\os'=[.arr (ints (zs.mergeSort λx y=>decide (x<=y))) 1 0 nl]):=by
 refine⟨he,λM G w vs hE hl hv=>?_⟩
 obtain⟨v,rfl⟩:∃v,vs=#[v]:=by
  obtain⟨l⟩:=vs
  match l,hl with
  |[x],_=>exact⟨x,rfl⟩
 have hval:=hv 0 _ v rfl rfl
 obtain⟨h0,es,sz,frz,nl',h1,h2,h3⟩:=hval
 cases h1
 have hv:=h3 rfl
 subst hv
 unfold Gh.slv
 cases nl with
 |true=>
  have hnil:ints zs=[]:=(hE.obj 0 _ rfl).2.2.2.1 rfl
  have hzs:zs=[]:=by unfold ints at hnil;simpa using hnil
  subst hzs
  rw[if_pos rfl]
  refine(Any.slices_Sort_int_none L none 0 w).mono ?_
  rintro e w' ⟨rfl,rfl⟩
  exact⟨_,rfl,M,G,.tup [],_,hE,E1.refl ..,⟨#[],rfl,rfl,by simp⟩,rfl,by simp⟩
 |false=>
  rw[if_neg (by decide),A2q]
  have hlt:=OR.live_lt hE (id:=0) rfl rfl
  refine(Any.slices_Sort_int L (G.blk 0) 0 (G.cap 0) zs w (B9x hE (id:=0) rfl) hlt hz).mono ?_
  rintro e w' ⟨rfl,n,xs,rfl⟩
  obtain⟨e1,s1⟩:=B9w hE (id:=0) (ys:=zs.mergeSort λx y=>decide (x<=y)) rfl (by simp) n
  have hh:∀b,b<(putRow (Value.int .i64) (Sort.ahead w n) (G.blk 0) 0 (zs.mergeSort λx y=>decide (x<=y)).toArray).heap.size->(grow (putRow (Value.int .i64) (Sort.ahead w n) (G.blk 0) 0 (zs.mergeSort λx y=>decide (x<=y)).toArray) xs).heap[b]?=(putRow (Value.int .i64) (Sort.ahead w n) (G.blk 0) 0 (zs.mergeSort λx y=>decide (x<=y)).toArray).heap[b]?:=λb hb=>by
   unfold grow
   exact A26 hb
  refine⟨_,rfl,M,G,.tup [],_,B7l e1 rfl rfl rfl (by simp[grow]) hh,s1.trans (A8a rfl rfl rfl (by simp[grow]) hh),⟨#[],rfl,rfl,by simp⟩,rfl,rfl⟩
theorem B77(zs:List Int):(Lib.compact zs).length<=zs.length:=by
 unfold Lib.compact Lib.compactUpTo
 rw[D5]
 exact O9 (List.length_filter_le _ _) (by simp)
theorem C9Q{ρ:Ren}(L:Lays2.n20 P ρ)(he:Enters P (ρ.f 20))(zs:List Int)(nl:Bool)(hz:zs.length<=9223372036854775807) :
  B5 P (ρ.f 20) [.arr 0 (ints zs).length] [.arr (ints zs) 1 0 nl] (λr os'=>r=.d (if nl then .nil else .sl (ints (Lib.compact zs)))/\os'=[.arr (ints (Lib.compact zs++List.replicate (zs.length-(Lib.compact zs).length) 0)) 1 (if nl then 0 else (Lib.compact zs).length) nl]):=by
 refine⟨he,λM G w vs hE hl hv=>?_⟩
 obtain⟨v,rfl⟩:∃v,vs=#[v]:=by
  obtain⟨l⟩:=vs
  match l,hl with
  |[x],_=>exact⟨x,rfl⟩
 have hval:=hv 0 _ v rfl rfl
 obtain⟨h0,es,sz,frz,nl',h1,h2,h3⟩:=hval
 cases h1
 have hv:=h3 rfl
 subst hv
 unfold Gh.slv
 cases nl with
 |true=>
  have hnil:ints zs=[]:=(hE.obj 0 _ rfl).2.2.2.1 rfl
  have hzs:zs=[]:=by unfold ints at hnil;simpa using hnil
  subst hzs
  rw[if_pos rfl]
  refine(Any.slices_Compact_int_empty L none 0 w).mono ?_
  rintro e w' ⟨rfl,rfl⟩
  exact⟨_,rfl,M,G,.d .nil,_,hE,E1.refl ..,Rd.nil,rfl,rfl⟩
 |false=>
  rw[if_neg (by decide),A2q]
  obtain⟨h1,h2,h3,h4,h5⟩:=hE.obj 0 _ rfl
  obtain⟨ca,t,h6,h7,h8,h9,h10,h11⟩:=h5 rfl
  rw[A2q] at h8
  refine(Any.slices_Compact_int L (G.blk 0) 0 (G.cap 0) zs w (B9x hE (id:=0) rfl) hz h8).mono ?_
  rintro e w' ⟨rfl,n,rfl⟩
  have hcl:=B77 zs
  have hlen:(Lib.compact zs++List.replicate (zs.length-(Lib.compact zs).length) 0).length=zs.length:=by simp;omega
  obtain⟨e1,s1⟩:=B9w hE (id:=0) (ys:=Lib.compact zs++List.replicate (zs.length-(Lib.compact zs).length) 0) rfl hlen n
  obtain⟨e2,s2,r2⟩:=B7Y e1 (id:=0) (m:=(Lib.compact zs).length) rfl (by rw[A2q,hlen];exact hcl)
  refine⟨_,rfl,_,G,.d (.sl (ints (Lib.compact zs))),_,e2,s1.trans s2,?_,rfl,rfl⟩
  have ht:(ints (Lib.compact zs++List.replicate (zs.length-(Lib.compact zs).length) 0)).take (Lib.compact zs).length=ints (Lib.compact zs):=by
   unfold ints
   rw[<- List.map_take,List.take_left]
  rw[ht] at r2
  exact r2
end
theorem D3N{n nb:Nat}{ρ:C9}{os:List AO}(t:Nat){id len sz frz:Nat}{nl:Bool}{es:List (List D)}(ht:ρ t=.arr id len)(ho:os[id]?=some (.arr es sz frz nl))(hl:len=es.length) :
  j8 n nb ρ os (upd t (.d (if nl then .nil else .sl es)) ρ) (os.set id (.arr es sz es.length nl)):=by
 intro c M G w a hR
 have hv:=hR.tmps t
 rw[ht] at hv
 obtain⟨M1,h1,h2,h3⟩:=A5D hR.env (c:=.arr id len) (x:=if nl then .nil else .sl es) (os1:=os.set id (.arr es sz es.length nl)) (by unfold A0I;dsimp only;rw[ho];dsimp only;rw[if_pos hl]) hv
 exact⟨M1,G,{
  env:=h1,since:=hR.since.trans h2,size:=hR.size,defers:=hR.defers,base:=hR.base
  tmps:=λs=>by
   have hs:=(hR.tmps s).since h2
   unfold upd
   split
   ·rename_i h
    subst h
    exact h3
   ·exact hs}⟩
theorem A2A{P:Program}{n nb:Nat}{cd:IC}{N:Sl->List AO->Prop}{E0:Nat->Sl->List AO->Prop}{R:Sl->List AO->Prop}{L:Sl}{os:List AO}(t:Nat){id len sz frz:Nat}{nl:Bool}{es:List (List D)}(ht:D1 L t=.arr id len)(ho:os[id]?=some (.arr es sz frz nl))(hl:len=es.length)
  (k:Go (j5 P n nb cd N E0 R ((t,.d (if nl then .nil else .sl es))::L) (os.set id (.arr es sz es.length nl)))):j5 P n nb cd N E0 R L os:=by
 have hw:=D3N (n:=n) (nb:=nb) (ρ:=D1 L) (os:=os) t ht ho hl
 rw[B0P] at hw
 refine⟨λcode hc c M G w a hR=>?_⟩
 obtain⟨M',G',hR'⟩:=hw c M G w a hR
 exact k.h code hc c M' G' w a hR'
end Go.Bi
end
section
namespace Go.Bi
open Go
section
variable {P:Program}{n nb:Nat}{M:C5}{G:Gh}{os:List AO}{w:World}{ρ:C9}{a:Act}
def A69(Q:AV->List AO->Prop)(rs:List RV)(ρ:C9)(os:List AO):Prop:=e9 ρ os rs λl=>match l with
 |[v]=>Q v os
 |_=>False
def A67(Q:AV->List AO->Prop)(rs:List RV)(L:Sl)(os:List AO):Prop:=A3r L os rs λl=>match l with
 |[v]=>Q v os
 |_=>False
theorem B9s{Q:AV->List AO->Prop}{rs:List RV}{L:Sl}{os:List AO}(h:A67 Q rs L os):A69 Q rs (D1 L) os:=A4y h
theorem D2t{c:s4}(hR:W5 n nb c M G os w ρ a){fn:Func}{rs:List RV}(hrs:fn.results.toList.mapM (cRV P)=some rs){Q:AV->List AO->Prop}(h:A69 Q rs ρ os) :
  ∃v,(results fn a.tmps).run P w=.ok v w/\∃M' G' r os',C3 M' G' os' w/\E1 c.M c.G c.os c.w M' G' os' w/\VA M' G' os' r v/\Q r os':=by
 obtain⟨l,vs,h1,h2,h3,h4⟩:=A85 hR.env hR.tmps _ rs hrs _ h
 match l,h1,h3,h4 with
 |[x],h1,h3,h4=>
  simp only[I7,P9] at h3
  refine⟨_,B19 h2,M,G,x,os,hR.env,hR.since,?_,h1⟩
  rw[dif_pos (by omega)]
  exact h4 0 x vs[0] rfl (C8 (by omega))
theorem D0L(hm:P.follows .mixedOrders=true){f:FuncId}{fn:Func}{code:Code}{ic:IC}{rs:List RV}(hf:P.funcs[f]?=some fn)(hname:fn.name≠ "runtime.NumGoroutine")(hb:fn.body=some code)(hc:cC P fn.ntmps code=some ic)
  (hrs:fn.results.toList.mapM (cRV P)=some rs) {args:List AV} {bs:List AO} (hargs:args.length<=fn.ntmps) {Q:AV->List AO->Prop}
  (h:V9 P fn.ntmps bs.length ic {norm:=A69 Q rs,exit:=λ_ _ _=>False,ret:=A69 Q rs} (A11 args) bs):B5 P f args bs Q:=by
 refine⟨⟨fn,hf,by rw[hb];rfl,hname⟩,λM G w vs he hl hv=>?_⟩
 refine calls_of_wp hf hb (wp_mono (A6t hm code ic hc _ _ _ h ⟨M,G,bs,w⟩ M G w {tmps:=vs++Array.replicate (fn.ntmps-vs.size) undef,defers:=[]} ?_) λe a' w' hp=>?_)
 ·exact {
   env:=he,since:=E1.refl ..,size:=by simp;omega,defers:=rfl,base:=rfl
   tmps:=λt=>by
    unfold A11
    by_cases ht:t<args.length
    ·have h1:(vs++Array.replicate (fn.ntmps-vs.size) undef).getD t undef=vs[t]:=by
      simp[A26 (show t<vs.size by omega),show t<vs.size by omega]
     have h2:args.getD t .junk=args[t]:=by simp[ht]
     show VA M G bs (args.getD t .junk) ((vs++Array.replicate (fn.ntmps-vs.size) undef).getD t undef)
     rw[h1,h2]
     have:=hv t args[t] vs[t] (C8 ht) (J5 (by omega))
     generalize args[t]=c at this
     cases c with
     |tup cs=>exact this.elim
     |junk=>trivial
     |_=>exact this
    ·have:args.getD t .junk=.junk:=by simp[E7,A04 (Nat.le_of_not_lt ht)]
     rw[this]
     trivial}
 ·have fin:A02 fn.ntmps bs.length ⟨M,G,bs,w⟩ (A69 Q rs) a' w'->a'.defers=[]/\∃v,(results fn a'.tmps).run P w'=.ok v w'/\∃v',Ending.returned v=.returned v'/\∃M' G' r os',C3 M' G' os' w'/\E1 M G bs w M' G' os' w'/\VA M' G' os' r v'/\Q r os':=by
   rintro⟨M',G',os',ρ',hR,hk⟩
   obtain⟨v,h1,h2⟩:=D2t hR hrs hk
   exact⟨hR.defers,v,h1,v,rfl,h2⟩
  cases e with
  |normal=>exact fin hp
  |ret=>exact fin hp
  |exit id=>obtain⟨_,_,_,_,_,hk⟩:=hp;exact hk.elim
  |_=>exact hp.elim
end
theorem C0.goO{P:Program}(hm:P.follows .mixedOrders=true){f n:Nat}{ic:IC}{rs:List RV}(h:C0 P f n ic rs){args:List AV}{bs:List AO}(hargs:Nat.ble args.length n=true){Q:AV->List AO->Prop}
  (hw:Go (xI P n bs.length ic (A67 Q rs) (λ_ _ _=>False) (A67 Q rs) (A0x 0 args) bs)):B5 P f args bs Q:=by
 obtain⟨fn,h1,h2,h3,h4,h5⟩:=h
 obtain⟨code,hb,hc⟩:=Y5.1 h4
 subst h2
 refine D0L hm h1 (by simpa using h3) hb hc h5 (P3 hargs) ?_
 rw[B0O]
 exact A3q (K:=⟨A67 Q rs,λ_ _ _=>False,A67 Q rs⟩) ⟨λL os h=>B9s h,λ_ _ _ h=>h,λL os h=>B9s h⟩ hw
theorem B5.alone{P:Program}{g:FuncId}{args:List AV}{Q:AV->List AO->Prop}(h:B5 P g args [] Q)(hd:∀a∈args,∃x,a=.d x)(os:List AO) :
  B5 P g args os (λr os'=>∃r0 os0,Q r0 os0/\r=mA (rn [] os.length) r0/\os'=os++os0.map (mO (rn [] os.length))):=by
 have:=B5.frame (K:=λr os'=>∃r0 os0,Q r0 os0/\r=mA (rn [] os.length) r0/\os'=os++os0.map (mO (rn [] os.length))) h [] os rfl (by simp) (λi x hx=>by simp at hx)
  (λa ha=>by obtain⟨x,rfl⟩:=hd a ha;trivial) (λx hx=>by simp at hx) (λr bs' hq=>⟨r,bs',hq,rfl,rfl⟩)
 have e:args.map (mG (rn [] os.length))=args:=by
  rw[T5 (g:=id) (λa ha=>by obtain⟨x,rfl⟩:=hd a ha;rfl),w9]
 rwa [e] at this
end Go.Bi
end
section
namespace Go.Proofs
open Go.Bi
abbrev eI(n:Int):D:=.int .i64 n
def A0(l:List Int):List (List D):=l.map λr=>[eI r]
theorem N4{l:List Int}{i:Nat}{r:Int}(h:l[i]?=some r):(A0 l)[i]?=some [eI r]:=by simp[A0,h]
theorem B7(l:List Int):(A0 l).length=l.length:=by simp[A0]
theorem D3(l:List Int):∀e∈A0 l,e.length=1:=by
 intro e he
 obtain⟨x,_,rfl⟩:=F1.1 he
 rfl
theorem A2Y{α:Type}{f:α->Bool}{l:List α}{i:Nat}{x:α}(h:l[i]?=some x):(l.take (i+1)).all f=((l.take i).all f&&f x):=by
 simp only[Q9,h,List.all_append,Option.toList,Z3,List.all_nil,Bool.and_true]
theorem A3M{α:Type}{f:α->Bool}{l:List α}{i:Nat}{x:α}(h:l[i]?=some x)(hx:f x=false):l.all f=false:=by
 rw[Bool.eq_false_iff]
 intro ha
 rw[M5.1 ha x (C4 h)] at hx
 cases hx
def valid(a b:Int):Bool:=decide (0<=a/\a<b/\b<=1099511627776)
end Go.Proofs
end
section
namespace Go.Bi
open Go
def C2(nl:Bool)(es:List (List D)):D:=if nl then .nil else .sl es
def DC1(os:List AO)(c:AV)(x:D):Prop:=c=.d x\/∃id es sz frz nl,c=.arr id es.length/\os[id]?=some (.arr es sz frz nl)/\x=C2 nl es
def DC(os:List AO)(c:AV)(x:D):Prop:=DC1 os c x\/∃(id:Nat) (es:List (List AV)) (sz:Nat) (nl:Bool) (l:List (List D)),c=.rs id es.length/\os[id]?=some (.rarr es sz nl)/\l.length=es.length/\
 (∀(i:Nat) (e:List AV) (e':List D),es[i]?=some e->l[i]?=some e'->e'.length=e.length/\∀(j:Nat) (c:AV) (x:D),e[j]?=some c->e'[j]?=some x->DC1 os c x)/\x=C2 nl l
def DL(os:List AO)(cs:List AV)(xs:List D):Prop:=xs.length=cs.length/\∀(j:Nat) (c:AV) (x:D),cs[j]?=some c->xs[j]?=some x->DC os c x
def DG(os:List AO)(a r:AV):Prop:=(∃x,DC os a x/\r=.d x)\/∃(cs:List AV) (xs:List D),a=.agg cs/\r=.agg (xs.map .d)/\DL os cs xs
def DA(os:List AO)(a r:AV):Prop:=DG os a r\/∃cs rs:List AV,a=.tup cs/\r=.tup rs/\rs.length=cs.length/\∀(j:Nat) (c x:AV),cs[j]?=some c->rs[j]?=some x->DG os c x
section
variable {P:Program}{M' M2:C5}{G':Gh}{os:List AO}{w':World}
variable (he:C3 M' G' os w')(hm:∀y u,M' y=some u->M2 y=some u)(hb:∀i,E5 os i->∀(o:Nat) u,w'.cell? ⟨G'.blk i,o,none⟩=some u->M2 ⟨G'.blk i,o,none⟩=some u)
include he hm hb
theorem B7b{c:AV}{u:Value}{x:D}(h:VC M' G' os c u)(hd:DC1 os c x):Rd M2 x u:=by
 rcases hd with rfl|⟨id,es,sz,frz,nl,rfl,h1,rfl⟩
 ·exact Rd.mono hm h
 ·obtain⟨_,es',sz',frz',nl',h2,_,h3⟩:=h
  rw[h1] at h2
  cases h2
  rw[h3 rfl]
  have hlv:nl=false->E5 os id:=λe=>⟨_,h1,by subst e;rfl⟩
  obtain⟨k1,k2,k3,k4,k5⟩:=he.obj id _ h1
  cases nl with
  |true=>exact Rd.nil
  |false=>
   obtain⟨ca,t,a1,a2,a3,a4,a5,a6⟩:=k5 rfl
   have hcell:∀k,w'.cell? ⟨G'.blk id,k,none⟩=ca[k]?:=λk=>by simp[World.cell?,a1]
   refine Rd.sl es (G'.blk id) 0 (G'.cap id) sz (λi j=>(ca[i*sz+j]?).getD undef) a3 k2 (λi j hi hj=>?_) (λi j e d hi hj=>?_)
   ·have hk:i*sz+j<ca.size:=by rw[a2];exact W7 (by omega) hj
    rw[x8]
    refine hb id (hlv rfl) _ _ ?_
    rw[hcell]
    simp[hk]
   ·obtain⟨v,b1,b2⟩:=a5 i j e d hi hj
    simp only[b1,j6]
    exact b2.mono hm
theorem B7c{c:AV}{u:Value}{x:D}(h:VC M' G' os c u)(hd:DC os c x):Rd M2 x u:=by
 rcases hd with hd|⟨id,es,sz,nl,l,rfl,h1,hl,hr,rfl⟩
 ·exact B7b he hm hb h hd
 ·obtain⟨_,es',sz',nl',h2,_,h3⟩:=h
  rw[h1] at h2
  cases h2
  rw[h3 rfl]
  have hlv:nl=false->E5 os id:=λe=>⟨_,h1,by subst e;rfl⟩
  obtain⟨k1,k2,k4,k5⟩:=he.obj id _ h1
  cases nl with
  |true=>exact Rd.nil
  |false=>
   obtain⟨ca,t,a1,a2,a3,a4,a5⟩:=k5 rfl
   have hcell:∀k,w'.cell? ⟨G'.blk id,k,none⟩=ca[k]?:=λk=>by simp[World.cell?,a1]
   have:=Rd.sl (M:=M2) l (G'.blk id) 0 (G'.cap id) sz (λi j=>(ca[i*sz+j]?).getD undef) (by omega) (λe he=>by
    obtain⟨i,hi⟩:=A1A.1 he
    have hlt:=(B3.1 hi).1
    have h0:es[i]?=some es[i]:=C8 (by omega)
    rw[(hr i _ _ h0 hi).1]
    exact k2 _ (C4 h0)) (λi j hi hj=>by
    have hk:i*sz+j<ca.size:=by rw[a2];exact W7 (by omega) hj
    rw[x8]
    refine hb id (hlv rfl) _ _ ?_
    rw[hcell]
    simp[hk]) (λi j e d hi hj=>by
    have hlt:=(B3.1 hi).1
    have h0:es[i]?=some es[i]:=C8 (by omega)
    obtain⟨q1,q2⟩:=hr i _ _ h0 hi
    have hjl:=(B3.1 hj).1
    have h4:es[i][j]?=some es[i][j]:=C8 (by omega)
    obtain⟨v,b1,b2⟩:=a5 i j _ _ h0 h4
    simp only[b1,j6]
    exact B7b he hm hb b2 (q2 j _ _ h4 hj))
   rw[hl] at this
   exact this
theorem B7e {a r : AV} {u : Value} (h : VG M' G' os a u) (hd : DG os a r) : VG M2 G' [] r u := by
  rcases hd with ⟨x, h1, rfl⟩ | ⟨cs, xs, rfl, rfl, h1, h2⟩
  · have hv : VC M' G' os a u := by
      cases a with
      | agg cs => rcases h1 with h1 | ⟨_, _, _, _, _, h1, _⟩; · rcases h1 with h1 | ⟨_, _, _, _, _, h1, _⟩ <;> cases h1
                  cases h1
      | _ => exact h
    exact B7c he hm hb hv h1
  · obtain ⟨vs, rfl, h3, h4⟩ := h
    refine ⟨vs, rfl, by simpa [h1] using h3, fun j c v hc hv => ?_⟩
    rw [G4] at hc
    obtain ⟨x, hx, rfl⟩ := F5.1 hc
    have hlt := (B3.1 hx).1
    have h0 : cs[j]? = some cs[j] := C8 (by omega)
    exact B7c he hm hb (h4 j _ v h0 hv) (h2 j _ x h0 hx)
theorem C9Y{a r:AV}{u:Value}(h:VA M' G' os a u)(hd:DA os a r):VA M2 G' [] r u:=by
 rcases hd with hd|⟨cs,rs,rfl,rfl,h1,h2⟩
 ·have hv:VG M' G' os a u:=by
   rcases hd with ⟨x,h1,_⟩|⟨cs,xs,rfl,_⟩
   ·rcases h1 with (rfl|⟨_,_,_,_,_,rfl,_⟩)|⟨_,_,_,_,_,rfl,_⟩<;>exact h
   ·exact h
  have h3:=B7e he hm hb hv hd
  rcases hd with ⟨x,_,rfl⟩|⟨cs,xs,_,rfl,_⟩<;>exact h3
 ·obtain⟨vs,rfl,h3,h4⟩:=h
  refine⟨vs,rfl,by omega,λj c v hc hv=>?_⟩
  have hlt:=(B3.1 hc).1
  have h0:cs[j]?=some cs[j]:=C8 (by omega)
  exact B7e he hm hb (h4 j _ v h0 hv) (h2 j _ c h0 hc)
end
theorem B5.deep{P:Program}{f:FuncId}{args:List AV}{Q:AV->List AO->Prop}{Q':AV->Prop}(h:B5 P f args [] Q)(hq:∀r os,Q r os->∃r',DA os r r'/\Q' r'):B5 P f args [] (λr os=>Q' r/\os=[]):=by
 refine⟨h.1,λM G w vs he hl hv=>(h.2 M G w vs he hl hv).mono ?_⟩
 rintro e w' ⟨v,rfl,M',G',r,os,h1,h2,h3,h4⟩
 obtain⟨r',h5,h6⟩:=hq r os h4
 let M2:C5:=λy=>if w.heap.size<=y.block then w'.cell? y else M y
 have hm:∀y u,M' y=some u->M2 y=some u:=by
  intro y u hy
  by_cases hb:w.heap.size<=y.block
  ·simp only[M2,hb,if_true];exact h1.mem y u hy
  ·simp only[M2,hb,if_false]
   rcases h2.fresh y u hy with h7|h7|⟨i,hi,_⟩
   ·exact h7
   ·exact absurd h7 hb
   ·exact(c8 hi).elim
 have hb:∀i,E5 os i->∀(o:Nat) u,w'.cell? ⟨G'.blk i,o,none⟩=some u->M2 ⟨G'.blk i,o,none⟩=some u:=by
  intro i hi o u hu
  rcases h2.own i hi with h7|⟨j,hj,_⟩
  ·simp only[M2,h7,if_true];exact hu
  ·exact(c8 hj).elim
 refine⟨v,rfl,M2,G',r',[],⟨λy u hy=>?_,λid o ho=>by simp at ho,λi j hi=>(c8 hi).elim,λi y u hi=>(c8 hi).elim,λb hb=>⟨(h1.glb b hb).1,λi hi=>(c8 hi).elim⟩⟩,
  {sys:=h2.sys,tape:=h2.tape,output:=h2.output,size:=h2.size,frame:=h2.frame,grow:=λy u hy=>hm y u (h2.grow y u hy),fresh:=λy u hy=>?_,own:=λi hi=>(c8 hi).elim,keep:=λi o ho=>by simp at ho},C9Y h1 hm hb h3 h5,h6,rfl⟩
 ·by_cases hb:w.heap.size<=y.block
  ·simp only[M2,hb,if_true] at hy;exact hy
  ·simp only[M2,hb,if_false] at hy;exact h1.mem y u (h2.grow y u hy)
 ·by_cases hb:w.heap.size<=y.block
  ·exact .inr (.inl hb)
  ·simp only[M2,hb,if_false] at hy;exact .inl hy
theorem B5.deepP{P:Program}{f:FuncId}{args:List AV}{Q:AV->List AO->Prop}{r':AV}(h:B5 P f args [] Q)(hq:∀r os,Q r os->DA os r r'):Pure P f args r':=
 (h.deep (Q':=λr=>r=r') λr os hh=>⟨r',hq r os hh,rfl⟩)
end Go.Bi
end
section
namespace Go.Bi
open Go
structure A50(k:Nat)(P:Program)(n nb:Nat)(cd:IC)(N:Sl->List AO->Prop)(E:Nat->Sl->List AO->Prop)(R:Sl->List AO->Prop)(L:Sl)(os:List AO):Prop where
 h:∀body,cC P n body=some cd->∀c M G w a,W5 n nb c M G os w (D1 L) a->Code.rounds P body (post n nb c (toK ⟨N,E,R⟩)) k a w
section
variable {P:Program}{n nb:Nat}{cd:IC}{N:Sl->List AO->Prop}{E0:Nat->Sl->List AO->Prop}{R:Sl->List AO->Prop}{L:Sl}{os:List AO}
theorem A1u(k:Nat)(h:A50 k P n nb cd N E0 R L os):j5 P n nb cd N E0 R L os:=by
 refine⟨λcode=>?_⟩
 induction code with
 |loop body ih=>
  intro hc c M G w a hR
  simp only[cC] at hc
  obtain⟨ic',hic,he⟩:=Q6 hc
  cases he
  exact wp_loop_rounds k (h.h body hic c M G w a hR)
 |scope x ih=>
  intro hc c M G w a hR
  simp only[cC] at hc
  refine wp_scope_straight (wp_mono (ih hc c M G w a hR) λe a' w' hp=>?_)
  cases e<;>first|exact hp|exact hp.elim
 |skip=>intro hc;simp[cC] at hc
 |region id ops draw=>intro hc;simp only[cC] at hc;split at hc<;>(try split at hc)<;>(try split at hc)<;>(try split at hc)<;>cases hc
 |seq x y=>intro hc;simp only[cC] at hc;split at hc<;>cases hc
 |cond cnd x y=>intro hc;simp only[cC] at hc;split at hc<;>cases hc
 |block id x=>intro hc;simp only[cC] at hc;obtain⟨_,_,he⟩:=Q6 hc;cases he
 |exit id=>intro hc;simp[cC] at hc
 |ret=>intro hc;simp[cC] at hc
 |_=>intro hc;simp[cC] at hc
theorem P8(hm:P.follows .mixedOrders=true){k:Nat}(h:Go (xI P n nb cd (λL' os'=>A50 k P n nb cd N E0 R L' os') E0 R L os)):A50 (k+1) P n nb cd N E0 R L os:=by
 refine⟨λbody hb c M G w a hR=>?_⟩
 rw[rounds_succ]
 have h1:=A3q (K:=⟨λL' os'=>A50 k P n nb cd N E0 R L' os',E0,R⟩) (K':=toK ⟨λL' os'=>A50 k P n nb cd N E0 R L' os',E0,R⟩) ⟨λL' os' h=>⟨L',rfl,h⟩,λi L' os' h=>⟨L',rfl,h⟩,λL' os' h=>⟨L',rfl,h⟩⟩ h
 refine wp_mono (A6t hm body cd hb _ _ _ h1 c M G w a hR) λe a' w' hp=>?_
 cases e with
 |normal=>
  obtain⟨M',G',os',ρ',hR',L',rfl,hk⟩:=hp
  exact hk.h body hb c M' G' w' a' hR'
 |exit id=>exact hp
 |ret=>exact hp
 |_=>exact hp
theorem A6u(id off sz:Nat)(hsz:Nat.blt 0 sz=true){cs:List AV}(ho:os[id]?=some (.cells cs))(hn:cs[off]?=some (.d .nil))
  (k:j5 P n nb cd N E0 R L ((os++[AO.arr [] sz 0 true]).set id (.cells (cs.set off (.arr os.length 0))))):j5 P n nb cd N E0 R L os:=by
 have hw:=C08 (n:=n) (nb:=nb) (ρ:=D1 L) (os:=os) id off sz (A1F Nat.zero_lt_one (P3 hsz)) ho hn
 refine⟨λcode hc c M G w a hR=>?_⟩
 obtain⟨M',G',hR'⟩:=hw c M G w a hR
 exact k.h code hc c M' G' w a hR'
theorem A6v(id off sz:Nat)(hsz:Nat.blt 0 sz=true){cs:List AV}(ho:os[id]?=some (.cells cs))(hn:cs[off]?=some (.d .nil))
  (k:j5 P n nb cd N E0 R L ((os++[AO.rarr [] sz true]).set id (.cells (cs.set off (.rs os.length 0))))):j5 P n nb cd N E0 R L os:=by
 have hw:=D3P (n:=n) (nb:=nb) (ρ:=D1 L) (os:=os) id off sz (A1F Nat.zero_lt_one (P3 hsz)) ho hn
 refine⟨λcode hc c M G w a hR=>?_⟩
 obtain⟨M',G',hR'⟩:=hw c M G w a hR
 exact k.h code hc c M' G' w a hR'
end
theorem B5.own_nil{P:Program}{f:FuncId}{args:List AV}(sz:Nat)(hsz:0<sz)(h:B5 P f args [] (λr os=>r=.d .nil/\os=[])):B5 P f args [] (λr os=>r=.arr 0 0/\os=[.arr [] sz 0 true]):=by
 refine⟨h.1,λM G w vs he hl hv=>(h.2 M G w vs he hl hv).mono ?_⟩
 rintro e w' ⟨v,rfl,M',G',r,os,h1,h2,h3,rfl,rfl⟩
 obtain⟨n1,n2⟩:=A5x h1 sz hsz
 refine⟨v,rfl,M',G',_,_,n1,h2.trans n2,?_,rfl,rfl⟩
 have:=A00 h3
 subst this
 exact⟨rfl,[],sz,0,true,rfl,G9 _,λ_=>by simp[Gh.slv]⟩
end Go.Bi
end
section
namespace Go.Proofs
open Go.Shelf
def Tryz.laysM171_ren:Go.Shelf.Ren:=⟨fun|171=>95|243=>127|246=>145|283=>162|284=>163|285=>164|286=>165|129=>183|317=>182|318=>184|319=>185|320=>186|337=>207|338=>208|n=>n,fun|3=>3|9=>9|2=>2|4=>4|171=>156|0=>0|53=>157|37=>142|5=>5|173=>160|212=>178|51=>179|20=>20|213=>180|46=>175|232=>207|233=>208|n=>n,fun|17=>0|18=>4|19=>5|n=>n⟩
theorem Tryz.laysM171:Go.Proofs.LaysM.n171 Tryz.prog Tryz.laysM171_ren:={
 mixed:=by kernel_rfl
 f129:=Tryz.func183.trans (congrArg some (by kernel_rfl))
 f171:=Tryz.func95.trans (congrArg some (by kernel_rfl))
 f243:=Tryz.func127.trans (congrArg some (by kernel_rfl))
 f246:=Tryz.func145.trans (congrArg some (by kernel_rfl))
 f283:=Tryz.func162.trans (congrArg some (by kernel_rfl))
 f284:=Tryz.func163.trans (congrArg some (by kernel_rfl))
 f285:=Tryz.func164.trans (congrArg some (by kernel_rfl))
 f286:=Tryz.func165.trans (congrArg some (by kernel_rfl))
 f317:=Tryz.func182.trans (congrArg some (by kernel_rfl))
 f318:=Tryz.func184.trans (congrArg some (by kernel_rfl))
 f319:=Tryz.func185.trans (congrArg some (by kernel_rfl))
 f320:=Tryz.func186.trans (congrArg some (by kernel_rfl))
 f337:=Tryz.func207.trans (congrArg some (by kernel_rfl))
 f338:=Tryz.func208.trans (congrArg some (by kernel_rfl))
 t0:=Tryz.underlying0
 a0:=Tryz.isAgg0
 z0:=Tryz.sizeOf0
 v0:=Tryz.zeroValue0
 t2:=Tryz.underlying2
 a2:=Tryz.isAgg2
 z2:=Tryz.sizeOf2
 v2:=Tryz.zeroValue2
 t3:=Tryz.underlying3
 a3:=Tryz.isAgg3
 z3:=Tryz.sizeOf3
 v3:=Tryz.zeroValue3
 t4:=Tryz.underlying4
 a4:=Tryz.isAgg4
 z4:=Tryz.sizeOf4
 v4:=Tryz.zeroValue4
 t5:=Tryz.underlying5
 a5:=Tryz.isAgg5
 z5:=Tryz.sizeOf5
 v5:=Tryz.zeroValue5
 t9:=Tryz.underlying9
 a9:=Tryz.isAgg9
 z9:=Tryz.sizeOf9
 v9:=Tryz.zeroValue9
 t20:=Tryz.underlying20
 a20:=Tryz.isAgg20
 z20:=Tryz.sizeOf20
 v20:=Tryz.zeroValue20
 t37:=Tryz.underlying142
 a37:=Tryz.isAgg142
 z37:=Tryz.sizeOf142
 v37:=Tryz.zeroValue142
 t46:=Tryz.underlying175
 a46:=Tryz.isAgg175
 z46:=Tryz.sizeOf175
 v46:=Tryz.zeroValue175
 t51:=Tryz.underlying179
 a51:=Tryz.isAgg179
 z51:=Tryz.sizeOf179
 v51:=Tryz.zeroValue179
 t53:=Tryz.underlying157
 a53:=Tryz.isAgg157
 z53:=Tryz.sizeOf157
 v53:=Tryz.zeroValue157
 t171:=Tryz.underlying156
 a171:=Tryz.isAgg156
 z171:=Tryz.sizeOf156
 v171:=Tryz.zeroValue156
 t173:=Tryz.underlying160
 a173:=Tryz.isAgg160
 z173:=Tryz.sizeOf160
 v173:=Tryz.zeroValue160
 t212:=Tryz.underlying178
 a212:=Tryz.isAgg178
 z212:=Tryz.sizeOf178
 v212:=Tryz.zeroValue178
 t213:=Tryz.underlying180
 a213:=Tryz.isAgg180
 z213:=Tryz.sizeOf180
 t232:=Tryz.underlying207
 a232:=Tryz.isAgg207
 z232:=Tryz.sizeOf207
 v232:=Tryz.zeroValue207
 t233:=Tryz.underlying208
 a233:=Tryz.isAgg208
 z233:=Tryz.sizeOf208
 v233:=Tryz.zeroValue208
 g17:=by kernel_rfl
 g18:=by kernel_rfl
 g19:=by kernel_rfl
 i0:=by kernel_rfl
 i2:=by kernel_rfl
 i3:=by kernel_rfl
 i4:=by kernel_rfl
 i5:=by kernel_rfl
 i9:=by kernel_rfl
 i20:=by kernel_rfl
 i37:=by kernel_rfl
 i46:=by kernel_rfl
 i51:=by kernel_rfl
 i53:=by kernel_rfl
 i171:=by kernel_rfl
 i173:=by kernel_rfl
 i212:=by kernel_rfl
 i232:=by kernel_rfl
 i233:=by kernel_rfl
 m17:=by kernel_rfl
 m18:=by kernel_rfl
 m19:=by kernel_rfl}
def Tryz.lays144_ren:Go.Shelf.Ren:=⟨fun|144=>135|143=>148|219=>170|217=>189|225=>190|224=>191|267=>192|266=>209|314=>210|n=>n,fun|9=>9|4=>4|3=>3|5=>5|46=>175|146=>199|51=>179|n=>n,fun|1=>1|n=>n⟩
theorem Tryz.lays144:Go.Proofs.Lays.n144 Tryz.prog Tryz.lays144_ren:={
 mixed:=by kernel_rfl
 f143:=Tryz.func148.trans (congrArg some (by kernel_rfl))
 f144:=Tryz.func135.trans (congrArg some (by kernel_rfl))
 f217:=Tryz.func189.trans (congrArg some (by kernel_rfl))
 f219:=Tryz.func170.trans (congrArg some (by kernel_rfl))
 f224:=Tryz.func191.trans (congrArg some (by kernel_rfl))
 f225:=Tryz.func190.trans (congrArg some (by kernel_rfl))
 f266:=Tryz.func209.trans (congrArg some (by kernel_rfl))
 f267:=Tryz.func192.trans (congrArg some (by kernel_rfl))
 f314:=Tryz.func210.trans (congrArg some (by kernel_rfl))
 t3:=Tryz.underlying3
 a3:=Tryz.isAgg3
 z3:=Tryz.sizeOf3
 v3:=Tryz.zeroValue3
 t4:=Tryz.underlying4
 a4:=Tryz.isAgg4
 z4:=Tryz.sizeOf4
 v4:=Tryz.zeroValue4
 t5:=Tryz.underlying5
 a5:=Tryz.isAgg5
 z5:=Tryz.sizeOf5
 v5:=Tryz.zeroValue5
 t9:=Tryz.underlying9
 a9:=Tryz.isAgg9
 z9:=Tryz.sizeOf9
 v9:=Tryz.zeroValue9
 t46:=Tryz.underlying175
 a46:=Tryz.isAgg175
 z46:=Tryz.sizeOf175
 v46:=Tryz.zeroValue175
 t51:=Tryz.underlying179
 a51:=Tryz.isAgg179
 z51:=Tryz.sizeOf179
 v51:=Tryz.zeroValue179
 t146:=Tryz.underlying199
 a146:=Tryz.isAgg199
 z146:=Tryz.sizeOf199
 v146:=Tryz.zeroValue199
 g1:=by kernel_rfl}
def Tryz.lays155_ren:Go.Shelf.Ren:=⟨fun|155=>96|154=>128|138=>146|165=>147|143=>148|166=>149|197=>150|169=>151|195=>166|218=>167|240=>168|241=>169|219=>170|260=>171|276=>187|277=>188|217=>189|225=>190|224=>191|267=>192|266=>209|314=>210|n=>n,fun|9=>9|3=>3|4=>4|72=>144|0=>0|76=>148|105=>150|21=>21|5=>5|70=>141|20=>20|37=>142|75=>147|127=>164|164=>181|46=>175|119=>184|139=>187|138=>186|146=>199|51=>179|80=>152|n=>n,fun|1=>1|3=>2|4=>3|n=>n⟩
theorem Tryz.lays155:Go.Proofs.Lays.n155 Tryz.prog Tryz.lays155_ren:={
 mixed:=by kernel_rfl
 f138:=Tryz.func146.trans (congrArg some (by kernel_rfl))
 f143:=Tryz.func148.trans (congrArg some (by kernel_rfl))
 f154:=Tryz.func128.trans (congrArg some (by kernel_rfl))
 f155:=Tryz.func96.trans (congrArg some (by kernel_rfl))
 f165:=Tryz.func147.trans (congrArg some (by kernel_rfl))
 f166:=Tryz.func149.trans (congrArg some (by kernel_rfl))
 f169:=Tryz.func151.trans (congrArg some (by kernel_rfl))
 f195:=Tryz.func166.trans (congrArg some (by kernel_rfl))
 f197:=Tryz.func150.trans (congrArg some (by kernel_rfl))
 f217:=Tryz.func189.trans (congrArg some (by kernel_rfl))
 f218:=Tryz.func167.trans (congrArg some (by kernel_rfl))
 f219:=Tryz.func170.trans (congrArg some (by kernel_rfl))
 f224:=Tryz.func191.trans (congrArg some (by kernel_rfl))
 f225:=Tryz.func190.trans (congrArg some (by kernel_rfl))
 f240:=Tryz.func168.trans (congrArg some (by kernel_rfl))
 f241:=Tryz.func169.trans (congrArg some (by kernel_rfl))
 f260:=Tryz.func171.trans (congrArg some (by kernel_rfl))
 f266:=Tryz.func209.trans (congrArg some (by kernel_rfl))
 f267:=Tryz.func192.trans (congrArg some (by kernel_rfl))
 f276:=Tryz.func187.trans (congrArg some (by kernel_rfl))
 f277:=Tryz.func188.trans (congrArg some (by kernel_rfl))
 f314:=Tryz.func210.trans (congrArg some (by kernel_rfl))
 t0:=Tryz.underlying0
 a0:=Tryz.isAgg0
 z0:=Tryz.sizeOf0
 v0:=Tryz.zeroValue0
 t3:=Tryz.underlying3
 a3:=Tryz.isAgg3
 z3:=Tryz.sizeOf3
 v3:=Tryz.zeroValue3
 t4:=Tryz.underlying4
 a4:=Tryz.isAgg4
 z4:=Tryz.sizeOf4
 v4:=Tryz.zeroValue4
 t5:=Tryz.underlying5
 a5:=Tryz.isAgg5
 z5:=Tryz.sizeOf5
 v5:=Tryz.zeroValue5
 t9:=Tryz.underlying9
 a9:=Tryz.isAgg9
 z9:=Tryz.sizeOf9
 v9:=Tryz.zeroValue9
 t20:=Tryz.underlying20
 a20:=Tryz.isAgg20
 z20:=Tryz.sizeOf20
 v20:=Tryz.zeroValue20
 t21:=Tryz.underlying21
 a21:=Tryz.isAgg21
 z21:=Tryz.sizeOf21
 v21:=Tryz.zeroValue21
 t37:=Tryz.underlying142
 a37:=Tryz.isAgg142
 z37:=Tryz.sizeOf142
 v37:=Tryz.zeroValue142
 t46:=Tryz.underlying175
 a46:=Tryz.isAgg175
 z46:=Tryz.sizeOf175
 v46:=Tryz.zeroValue175
 t51:=Tryz.underlying179
 a51:=Tryz.isAgg179
 z51:=Tryz.sizeOf179
 v51:=Tryz.zeroValue179
 t70:=Tryz.underlying141
 a70:=Tryz.isAgg141
 z70:=Tryz.sizeOf141
 v70:=Tryz.zeroValue141
 t72:=Tryz.underlying144
 a72:=Tryz.isAgg144
 z72:=Tryz.sizeOf144
 v72:=Tryz.zeroValue144
 t75:=Tryz.underlying147
 a75:=Tryz.isAgg147
 z75:=Tryz.sizeOf147
 v75:=Tryz.zeroValue147
 t76:=Tryz.underlying148
 a76:=Tryz.isAgg148
 z76:=Tryz.sizeOf148
 v76:=Tryz.zeroValue148
 t105:=Tryz.underlying150
 a105:=Tryz.isAgg150
 z105:=Tryz.sizeOf150
 v105:=Tryz.zeroValue150
 t119:=Tryz.underlying184
 a119:=Tryz.isAgg184
 z119:=Tryz.sizeOf184
 t127:=Tryz.underlying164
 a127:=Tryz.isAgg164
 z127:=Tryz.sizeOf164
 v127:=Tryz.zeroValue164
 t138:=Tryz.underlying186
 a138:=Tryz.isAgg186
 z138:=Tryz.sizeOf186
 v138:=Tryz.zeroValue186
 t139:=Tryz.underlying187
 a139:=Tryz.isAgg187
 z139:=Tryz.sizeOf187
 v139:=Tryz.zeroValue187
 t146:=Tryz.underlying199
 a146:=Tryz.isAgg199
 z146:=Tryz.sizeOf199
 v146:=Tryz.zeroValue199
 t164:=Tryz.underlying181
 a164:=Tryz.isAgg181
 z164:=Tryz.sizeOf181
 v164:=Tryz.zeroValue181
 g1:=by kernel_rfl
 g3:=by kernel_rfl
 g4:=by kernel_rfl}
def Tryz.growV_ren:Go.Shelf.Ren:=⟨fun|4=>105|n=>n,fun|22=>34|25=>31|3=>3|4=>4|9=>9|20=>20|0=>0|n=>n,fun|n=>n⟩
theorem Tryz.growV:Go.Proofs.Lays8.n4 Tryz.prog Tryz.growV_ren:={
 mixed:=by kernel_rfl
 f4:=⟨Tryz.f105.name,by decide,Tryz.func105.trans (congrArg some (by kernel_rfl))⟩
 t0:=Tryz.underlying0
 a0:=Tryz.isAgg0
 z0:=Tryz.sizeOf0
 v0:=Tryz.zeroValue0
 t3:=Tryz.underlying3
 a3:=Tryz.isAgg3
 z3:=Tryz.sizeOf3
 v3:=Tryz.zeroValue3
 t4:=Tryz.underlying4
 a4:=Tryz.isAgg4
 z4:=Tryz.sizeOf4
 v4:=Tryz.zeroValue4
 t9:=Tryz.underlying9
 a9:=Tryz.isAgg9
 z9:=Tryz.sizeOf9
 v9:=Tryz.zeroValue9
 t20:=Tryz.underlying20
 a20:=Tryz.isAgg20
 z20:=Tryz.sizeOf20
 v20:=Tryz.zeroValue20
 t22:=Tryz.underlying34
 a22:=Tryz.isAgg34
 z22:=Tryz.sizeOf34
 v22:=Tryz.zeroValue34}
theorem Tryz.Builder_Extra_155:Builder.Extra Tryz.prog Tryz.lays155_ren:={
 sizeBuilder:=by kernel_rfl
 liesBuilder:=by kernel_rfl
 t5:=Tryz.underlying5
 a5:=Tryz.isAgg5
 z5:=Tryz.sizeOf5
 v5:=Tryz.zeroValue5
 infoByte:=by kernel_rfl
 cellsByte:=by kernel_rfl
 sizeByte:=by kernel_rfl
 neB5:=by decide}
end Go.Proofs
end
section
namespace Go.Bi
open Go Go.Proofs Go.Shelf
def dv:D->Option Value
 |.int k n=>some (.int k n)
 |.bool b=>some (.bool b)
 |.str s=>some (.string ⟨⟨s⟩⟩)
 |_=>none
theorem D2J{M:C5}{d:D}{u v:Value}(h:dv d=some u)(r:Rd M d v):v=u:=by
 cases r<;>simp[dv] at h<;>exact h
theorem D0d{M:C5}{d:D}{u:Value}(h:dv d=some u):Rd M d u:=by
 cases d<;>simp[dv] at h<;>subst h<;>constructor
theorem B0V{P:Program}{f:FuncId}(hen:Bi.Enters P f)(ds:List D)(us:List Value)(hl:ds.map dv=us.map some)(r:D)(u:Value)(hr:dv r=some u)
  (h:∀M G w,C3 M G [] w->Calls P f us.toArray w λe w'=>e=.returned u/\w'.os=w.os/\w'.tape=w.tape/\w'.output=w.output/\w.heap.size<=w'.heap.size/\∀b,b<w.heap.size->w'.heap[b]?=w.heap[b]?):Bi.Pure P f (ds.map .d) (.d r):=by
 refine⟨hen,λM G w vs hE hl' hv=>?_⟩
 have hll:ds.length=us.length:=by have:=congrArg List.length hl;simpa using this
 have hsz:vs.size=us.length:=by rw[hl',D5,hll]
 have e:vs=us.toArray:=by
  refine Array.ext (by simpa using hsz) λj h1 h2=>?_
  have hj:j<ds.length:=by omega
  have hj2:j<us.length:=by omega
  have k1:=hv j (.d ds[j]) vs[j] (by simp[hj]) (J5 h1)
  have k2:dv ds[j]=some us[j]:=by
   have:=congrArg (λl=>l[j]?) hl
   simpa[hj,hj2] using this
  have k3:=D2J k2 k1
  simpa using k3
 subst e
 refine(h M G w hE).mono λe w' ⟨h1,h2,h3,h4,h5,h6⟩=>⟨u,h1,M,G,.d r,[],B7l hE h2 h3 h4 h5 h6,A8a h2 h3 h4 h5 h6,D0d hr,rfl,rfl⟩
end Go.Bi
namespace Go.Proofs
open Go.Bi Go.Shelf
theorem D3i{M:C5}{G:Gh}{os:List AO}{w:World}(hE:C3 M G os w):Lib.TabIs Tryz.prog w "internal/strconv.uint64pow10" .u64 Lib.pow10Tab:=by
 obtain⟨⟨o,h1,h2⟩,_⟩:=hE.glb 0 (.inl rfl)
 obtain⟨t,f,rfl⟩:=h2.1 rfl
 unfold Lib.TabIs World.var?
 rw[show Tryz.prog.globalNamed "internal/strconv.uint64pow10" = some 0 by kernel_rfl]
 simp only[Option.bind_some,h1]
 rfl
theorem B8y{M:C5}{G:Gh}{os:List AO}{w:World}(hE:C3 M G os w):∃m:Int,w.cell? ⟨1,0,none⟩=some (.int .i64 m):=by
 obtain⟨⟨o,h1,h2⟩,_⟩:=hE.glb 1 (.inr rfl)
 obtain⟨n,t,f,rfl⟩:=h2.2 rfl
 exact⟨n,by simp[World.cell?,h1]⟩
theorem C2h(n:Int)(h0:-9223372036854775808<=n)(h1:n<=9223372036854775807):Bi.Pure Tryz.prog B62 [.d (eI n)] (.d (.str (Lib.itoa n))):=by
 refine B0V ⟨_,Tryz.func95,by kernel_rfl,by decide⟩ [eI n] [.int .i64 n] rfl (.str (Lib.itoa n)) _ rfl λM G w hE=>?_
 refine(Any.strconv_Itoa Tryz.laysM171 n h0 h1 w (D3i hE)).mono ?_
 rintro e w' ⟨rfl,k,os,rfl⟩
 exact⟨rfl,rfl,rfl,rfl,by simp[Go.Sort.grow,World.drewN],λb hb=>by simp only[Go.Sort.grow,World.drewN];exact A26 hb⟩
theorem A8D(s old new:List UInt8)(hs:s.length<=4294967280)(h1:1<=old.length)(hn:new.length<=2):Bi.Pure Tryz.prog A59 [.d (.str s),.d (.str old),.d (.str new)] (.d (.str (Lib.replaceAll s old new))):=by
 refine B0V ⟨_,Tryz.func96,by kernel_rfl,by decide⟩ [.str s,.str old,.str new] [.string ⟨⟨s⟩⟩,.string ⟨⟨old⟩⟩,.string ⟨⟨new⟩⟩] rfl (.str (Lib.replaceAll s old new)) _ rfl λM G w hE=>?_
 obtain⟨m,hm⟩:=B8y hE
 have k1:=Lib.countB_mul_le ⟨⟨old⟩⟩ h1 s.length ⟨⟨s⟩⟩ (G9 _)
 have k2:Lib.countB ⟨⟨s⟩⟩ ⟨⟨old⟩⟩<=s.length:=O9 (Nat.le_mul_of_pos_right _ h1) k1
 have k3:Lib.countB ⟨⟨s⟩⟩ ⟨⟨old⟩⟩*new.length<=s.length*2:=Nat.mul_le_mul k2 hn
 refine(Any.strings_ReplaceAll Tryz.lays155 Tryz.Builder_Extra_155 ⟨⟨s⟩⟩ ⟨⟨old⟩⟩ ⟨⟨new⟩⟩ m w (by show s.length<_;omega) hm h1 (by show s.length+Lib.countB ⟨⟨s⟩⟩ ⟨⟨old⟩⟩*new.length<=_;omega)).mono ?_
 rintro e w' ⟨rfl,hb⟩
 exact⟨rfl,hb.os,hb.tape,hb.output,hb.size,hb.block⟩
theorem C2i(s sub:List UInt8)(hs:s.length<=4294967280):Bi.Pure Tryz.prog B63 [.d (.str s),.d (.str sub)] (.d (.bool (Lib.contains s sub))):=by
 refine B0V ⟨_,Tryz.func135,by kernel_rfl,by decide⟩ [.str s,.str sub] [.string ⟨⟨s⟩⟩,.string ⟨⟨sub⟩⟩] rfl (.bool (Lib.contains s sub)) _ rfl λM G w hE=>?_
 obtain⟨m,hm⟩:=B8y hE
 refine(Any.strings_Contains Tryz.lays144 ⟨⟨s⟩⟩ ⟨⟨sub⟩⟩ m w (by show s.length<_;omega) hm).mono ?_
 rintro e w' ⟨rfl,rfl⟩
 exact⟨rfl,rfl,rfl,rfl,G9 _,λ_ _=>rfl⟩
end Go.Proofs
end
section
namespace Go.Proofs
open Go.Lib
def P7(old new:List UInt8):Nat->List UInt8->List UInt8
 |0,s=>s
 |n+1,[]=>[]
 |n+1,c::s=>if old.isPrefixOf (c::s) then new++P7 old new n ((c::s).drop old.length) else c::P7 old new n s
theorem A7I(c:UInt8)(l sub:List UInt8):index (c::l) sub=if sub.isPrefixOf (c::l) then 0 else if index l sub==-1 then -1 else index l sub+1:=by
 rw[index]
theorem C9U(sub:List UInt8)(h:1<=sub.length):∀(m m':Nat)(s:List UInt8),s.length<m->s.length<m'->countFrom sub m s=countFrom sub m' s
 |0,_,s,h1,_=>by omega
 |_,0,s,_,h2=>by omega
 |m+1,m'+1,s,h1,h2=>by
  unfold countFrom
  split
  ·rfl
  ·rename_i hi
   have h3:=index_ge s sub
   have h4:0<=index s sub:=by
    have:¬index s sub=-1:=λe=>hi (by rw[e];rfl)
    omega
   have h5:=index_room s sub h4
   rw[C9U sub h m m' _ (by rw[Y4];omega) (by rw[Y4];omega)]
theorem B0Z(old new:List UInt8)(h:1<=old.length):∀(n m:Nat)(s:List UInt8),s.length<=n->s.length<m->replaceK old new (countFrom old m s) s=P7 old new n s
 |n,0,s,_,h2=>by omega
 |n,m+1,[],_,_=>by
  have e:index [] old=-1:=by
   rcases index_spec [] old with ⟨h1,_⟩|⟨i,h1,h2,h3,_⟩
   ·exact h1
   ·have hr:=index_room [] old (by omega)
    simp at hr
    omega
  unfold countFrom
  rw[e]
  cases n<;>rfl
 |0,m+1,c::l,h1,_=>by simp at h1
 |n+1,m+1,c::l,h1,h2=>by
  simp only[I7] at h1 h2
  by_cases hp:old.isPrefixOf (c::l)=true
  ·have e:index (c::l) old=0:=by rw[A7I,if_pos hp]
   rw[P7,if_pos hp,countFrom,e,if_neg (by decide),Nat.add_comm 1,replaceK,e,if_neg (by decide)]
   simp only[Int.toNat_zero,List.take_zero,A1B,x8]
   rw[B0Z old new h n m _ (by rw[Y4,I7];omega) (by rw[Y4,I7];omega)]
  ·rw[P7,if_neg hp]
   have ih:=B0Z old new h n (m+1) l (by omega) (by omega)
   by_cases hi:(index l old==-1)=true
   ·have e:index (c::l) old=-1:=by rw[A7I,if_neg hp,if_pos hi]
    rw[countFrom,if_pos hi] at ih
    rw[countFrom,e,if_pos (show((-1:Int)==-1)=true by decide)]
    rw[<- ih];rfl
   ·have h3:=index_ge l old
    have h4:0<=index l old:=by
     have:¬index l old=-1:=λe=>hi (by rw[e];rfl)
     omega
    obtain⟨i,hi2⟩:∃i:Nat,index l old=i:=⟨(index l old).toNat,by omega⟩
    have e:index (c::l) old=((i+1:Nat):Int):=by rw[A7I,if_neg hp,if_neg hi,hi2];rfl
    have h5:=index_room l old h4
    rw[countFrom,if_neg hi,hi2,G8,Nat.add_comm 1,replaceK_hit _ _ _ _ i hi2] at ih
    have hne:¬(((i+1:Nat):Int)==-1)=true:=by
     intro hh;have:=eq_of_beq hh;omega
    rw[countFrom,e,if_neg hne,G8,Nat.add_comm 1,replaceK_hit _ _ _ _ (i+1) e,show(i+1)+old.length=(i+old.length)+1 by omega,List.drop_succ_cons,A2Q,<- ih]
    simp
theorem B9q(s old new:List UInt8)(h:1<=old.length)(hne:(old==new)=false):replaceAll s old new=P7 old new s.length s:=by
 unfold replaceAll replace replaceNum count
 rw[hne,if_neg (by decide),if_pos (.inl (by decide))]
 exact B0Z old new h _ _ _ (G9 _) (by omega)
def U9:List UInt8->List UInt8
 |[]=>[]
 |c::s=>if c=39 then 39::39::U9 s else c::U9 s
theorem B9p:∀(n:Nat)(s:List UInt8),s.length<=n->P7 [39] [39,39] n s=U9 s
 |0,[],_=>rfl
 |0,c::s,h=>by simp at h
 |n+1,[],_=>rfl
 |n+1,c::s,h=>by
  have ih:=B9p n s (by simpa using h)
  rw[P7,U9]
  by_cases hc:c=39
  ·subst hc
   rw[if_pos rfl,if_pos (by rfl)]
   show[39,39]++P7 [39] [39,39] n s=_
   rw[ih];rfl
  ·rw[if_neg hc,if_neg (by simp[List.isPrefixOf];exact λe=>hc e.symm),ih]
def N8:List UInt8->Option (List UInt8)
 |[]=>some []
 |[c]=>if c=39 then none else some [c]
 |c::d::s=>if c=39 then (if d=39 then (N8 s).map (39::·) else none) else (N8 (d::s)).map (c::·)
theorem B0Y:∀(n:Nat)(s:List UInt8),s.length<=n->(N8 s=none->(39:UInt8)∈P7 [39,39] [] n s)/\(∀t,N8 s=some t->(39:UInt8)∉ P7 [39,39] [] n s/\P7 [39,39] [39] n s=t)
 |0,[],_=>⟨λh=>by simp[N8] at h,λt h=>by simp[N8] at h;subst h;simp[P7]⟩
 |0,c::s,h=>by simp at h
 |n+1,[],_=>⟨λh=>by simp[N8] at h,λt h=>by simp[N8] at h;subst h;simp[P7]⟩
 |n+1,[c],h=>by
  have hp:List.isPrefixOf [39,39] [c]=false:=by simp[List.isPrefixOf]
  have h0:∀new,P7 [39,39] new n []=[]:=λnew=>by cases n<;>rfl
  refine⟨λh=>?_,λt h=>?_⟩
  ·rw[P7,hp,if_neg (by decide),h0]
   unfold N8 at h
   split at h
   ·rename_i hc;subst hc;simp
   ·cases h
  ·unfold N8 at h
   split at h
   ·cases h
   ·rename_i hc
    cases h
    rw[P7,hp,if_neg (by decide),P7,hp,if_neg (by decide),h0,h0]
    exact⟨by simp;exact λe=>hc e.symm,rfl⟩
 |n+1,c::d::s,h=>by
  simp only[I7] at h
  by_cases hc:c=39
  ·subst hc
   by_cases hd:d=39
   ·subst hd
    have ih:=B0Y n s (by omega)
    have hp:List.isPrefixOf [39,39] (39::39::s)=true:=by simp[List.isPrefixOf]
    have e1:∀new,P7 [39,39] new (n+1) (39::39::s)=new++P7 [39,39] new n s:=λnew=>by rw[P7,if_pos hp];rfl
    rw[e1,e1,N8,if_pos rfl,if_pos rfl]
    refine⟨λh=>?_,λt h=>?_⟩
    ·simp only[Option.map_eq_none_iff] at h
     simpa using ih.1 h
    ·obtain⟨u,hu,rfl⟩:=F5.1 h
     obtain⟨i1,i2⟩:=ih.2 u hu
     exact⟨by simpa using i1,by rw[i2];rfl⟩
   ·have hp:List.isPrefixOf [39,39] (39::d::s)=false:=by simp[List.isPrefixOf];exact λe=>hd e.symm
    rw[P7,hp,if_neg (by decide),N8,if_pos rfl,if_neg hd]
    exact⟨λ_=>by simp,λt h=>by cases h⟩
  ·have hp:List.isPrefixOf [39,39] (c::d::s)=false:=by simp[List.isPrefixOf];intro e;exact absurd e.symm hc
   have ih:=B0Y n (d::s) (by simp;omega)
   have e1:∀new,P7 [39,39] new (n+1) (c::d::s)=c::P7 [39,39] new n (d::s):=λnew=>by rw[P7,hp,if_neg (by decide)]
   rw[e1,e1,N8,if_neg hc]
   refine⟨λh=>?_,λt h=>?_⟩
   ·simp only[Option.map_eq_none_iff] at h
    simp[ih.1 h]
   ·obtain⟨u,hu,rfl⟩:=F5.1 h
    obtain⟨i1,i2⟩:=ih.2 u hu
    exact⟨by simp;exact⟨λe=>hc e.symm,i1⟩,by rw[i2]⟩
theorem C9S(s:List UInt8):contains s [39]=decide ((39:UInt8)∈s):=by
 have key:∀s:List UInt8,(0<=index s [39])↔(39:UInt8)∈s:=by
  intro s
  induction s with
  |nil=>decide
  |cons c l ih=>
   rw[A7I]
   have h3:=index_ge l [39]
   by_cases hc:c=39
   ·subst hc;simp[List.isPrefixOf]
   ·rw[if_neg (by simp[List.isPrefixOf];exact λe=>hc e.symm)]
    split
    ·rename_i h
     have h:=eq_of_beq h
     rw[h] at ih
     simp only[I9]
     constructor
     ·intro h;omega
     ·rintro(e|e)
      ·exact absurd e.symm hc
      ·have:=ih.2 e;omega
    ·rename_i h
     have h:¬index l [39]=-1:=λe=>h (by rw[e];rfl)
     simp only[I9]
     constructor
     ·intro _;exact .inr (ih.1 (by omega))
     ·intro _;omega
 unfold contains
 exact decide_eq_decide.2 (key s)
end Go.Proofs
end
section
namespace Go.Proofs
open Go.Bi
set_option maxRecDepth 100000 in
abbrev A0c(a b:List UInt8):Int:=Lib.compareBytes a b
def A2j(a b:Int):Int:=if a<b then -1 else if b<a then 1 else 0
def or3(a b c:Int):Int:=if a≠0 then a else if b≠0 then b else c
structure Vl where
 k:Int
 n:Int
 s:List UInt8
 deriving DecidableEq
abbrev Vl.ds(v:Vl):List D:=[eI v.k,eI v.n,.str v.s]
abbrev eV(v:Vl):AV:=.agg [.d (eI v.k),.d (eI v.n),.d (.str v.s)]
def F2:Vl:=⟨0,0,[]⟩
def prC(c:UInt8):Bool:=decide (32<=c.toNat/\c.toNat<=126)
def V8(s:List UInt8):Bool:=s.all prC
def J9(v:Vl):Bool:=
 if v.k=0 then decide (v.n=0/\v.s=[])
 else if v.k=1 then decide (v.s=[]/\-1125899906842624<=v.n/\v.n<=1125899906842624)
 else if v.k=2 then decide (v.n=0/\v.s.length<=200)&&V8 v.s
 else if v.k=3 then decide (v.s=[]/\(v.n=0\/v.n=1)) else false
theorem B27(s:List UInt8)(hs:s.length<=4611686018427387904):Pure Tryz.prog A9z [.d (.str s)] (.d (.bool (V8 s))):=by
 refine C48.go A6 rfl ?_
 repeat' first|refine st ?_|((with_reducible apply C7);conv=>whnf)|(with_reducible first|apply A5|apply A4)<;>intro _
 refine F7 A6 C6n C5t (λ(i:Nat)=>[.d (eI i)]) (λi=>[]) (λi=>i<=s.length/\(s.take i).all prC=true) (λi=>s.length-i) 0 rfl rfl rfl rfl (λ_ _=>⟨rfl,rfl⟩) rfl ⟨by omega,rfl⟩ ?_
 repeat' first|refine st ?_|((with_reducible apply C7);conv=>whnf)|(with_reducible first|apply A5|apply A4)<;>intro _
 intro i ⟨h1,h2⟩
 cases hx:s[i]? with
 |some c=>
  have hlt:=(B3.1 hx).1
  have hg:s.getD ((i:Int)).toNat 0=c:=by simp[E7,hx]
  repeat' first|refine st ?_|((with_reducible apply C7);conv=>whnf)|(with_reducible first|apply A5|apply A4)<;>intro _
  ·rename_i h
   rw[hg] at h
   rw[V8,A3M hx (decide_eq_false (by omega))]
  ·rename_i h h'
   rw[hg] at h h'
   rw[V8,A3M hx (decide_eq_false (by omega))]
  ·rename_i h h'
   rw[hg] at h h'
   refine⟨i+1,rfl,rfl,rfl,by omega,by omega,?_⟩
   rw[A2Y hx,h2,prC,decide_eq_true (by omega)];rfl
 |none=>
  have hge:=D8.1 hx
  rw[M7 hge] at h2
  repeat' first|refine st ?_|((with_reducible apply C7);conv=>whnf)|(with_reducible first|apply A5|apply A4)<;>intro _
  rw[V8,h2]
theorem B21(s:List UInt8)(hs:s.length<=4611686018427387904):Pure Tryz.prog B54 [.d (.str s)] (.d (.bool (V8 s))):=by
 refine C2E.go A6 rfl ?_
 repeat' first|refine st ?_|((with_reducible apply C7);conv=>whnf)|(with_reducible first|apply A5|apply A4)<;>intro _
 refine F7 A6 C5v C4B (λ(i:Nat)=>[.d (eI i)]) (λi=>[]) (λi=>i<=s.length/\(s.take i).all prC=true) (λi=>s.length-i) 0 rfl rfl rfl rfl (λ_ _=>⟨rfl,rfl⟩) rfl ⟨by omega,rfl⟩ ?_
 repeat' first|refine st ?_|((with_reducible apply C7);conv=>whnf)|(with_reducible first|apply A5|apply A4)<;>intro _
 intro i ⟨h1,h2⟩
 cases hx:s[i]? with
 |some c=>
  have hlt:=(B3.1 hx).1
  have hg:s.getD ((i:Int)).toNat 0=c:=by simp[E7,hx]
  repeat' first|refine st ?_|((with_reducible apply C7);conv=>whnf)|(with_reducible first|apply A5|apply A4)<;>intro _
  ·rename_i h
   rw[hg] at h
   rw[V8,A3M hx (decide_eq_false (by omega))]
  ·rename_i h h'
   rw[hg] at h h'
   rw[V8,A3M hx (decide_eq_false (by omega))]
  ·rename_i h h'
   rw[hg] at h h'
   refine⟨i+1,rfl,rfl,rfl,by omega,by omega,?_⟩
   rw[A2Y hx,h2,prC,decide_eq_true (by omega)];rfl
 |none=>
  have hge:=D8.1 hx
  rw[M7 hge] at h2
  repeat' first|refine st ?_|((with_reducible apply C7);conv=>whnf)|(with_reducible first|apply A5|apply A4)<;>intro _
  rw[V8,h2]
theorem A4O(v:Vl)(hs:v.s.length<=4611686018427387904):Pure Tryz.prog A7g [eV v] (.d (.bool (J9 v))):=by
 refine C46.go A6 rfl ?_
 have hP:=B27 v.s hs
 repeat' first|refine st ?_|((with_reducible apply C7);conv=>whnf)|((with_reducible first|apply A8|apply A7);(·exact hP))|(with_reducible first|apply A5|apply A4)<;>intro _
 all_goals (simp_all[J9]<;>omega)
theorem A4K(v:Vl)(hs:v.s.length<=4611686018427387904):Pure Tryz.prog A6Z [eV v] (.d (.bool (J9 v))):=by
 refine C2H.go A6 rfl ?_
 have hP:=B21 v.s hs
 repeat' first|refine st ?_|((with_reducible apply C7);conv=>whnf)|((with_reducible first|apply A8|apply A7);(·exact hP))|(with_reducible first|apply A5|apply A4)<;>intro _
 all_goals (simp_all[J9]<;>omega)
theorem A3v:Pure Tryz.prog A1D [] (eV F2):=by
 refine C44.go A6 rfl ?_
 repeat' first|refine st ?_|((with_reducible apply C7);conv=>whnf)|(with_reducible first|apply A5|apply A4)<;>intro _
 all_goals rfl
theorem w8:Pure Tryz.prog A2c [] (eV F2):=by
 refine C2D.go A6 rfl ?_
 repeat' first|refine st ?_|((with_reducible apply C7);conv=>whnf)|(with_reducible first|apply A5|apply A4)<;>intro _
 all_goals rfl
def w4(b:Bool):Vl:=⟨3,if b then 1 else 0,[]⟩
theorem C2o(b:Bool):Pure Tryz.prog A5a [.d (.bool b)] (eV (w4 b)):=by
 refine C43.go A6 rfl ?_
 repeat' first|refine st ?_|((with_reducible apply C7);conv=>whnf)|(with_reducible first|apply A5|apply A4)<;>intro _
 all_goals simp_all[w4]
theorem A6E(b:Bool):Pure Tryz.prog A3I [.d (.bool b)] (eV (w4 b)):=by
 refine C2A.go A6 rfl ?_
 repeat' first|refine st ?_|((with_reducible apply C7);conv=>whnf)|(with_reducible first|apply A5|apply A4)<;>intro _
 all_goals simp_all[w4]
def w5(v:Vl):Vl:=if J9 v then v else F2
theorem C2s(v:Vl)(hs:v.s.length<=4611686018427387904):Pure Tryz.prog B69 [eV v] (eV (w5 v)):=by
 refine C47.go A6 rfl ?_
 have hV:=A4O v hs
 repeat' first|refine st ?_|((with_reducible apply C7);conv=>whnf)|((with_reducible first|apply A8|apply A7);(·first|exact hV|exact A3v))|(with_reducible first|apply A5|apply A4)<;>intro _
 all_goals simp_all[w5]
theorem B22(v:Vl)(hs:v.s.length<=4611686018427387904):Pure Tryz.prog B56 [eV v] (eV (w5 v)):=by
 refine C2J.go A6 rfl ?_
 have hV:=A4K v hs
 repeat' first|refine st ?_|((with_reducible apply C7);conv=>whnf)|((with_reducible first|apply A8|apply A7);(·first|exact hV|exact w8))|(with_reducible first|apply A5|apply A4)<;>intro _
 all_goals simp_all[w5]
def A6q(n:Int):Vl:=w5 ⟨1,n,[]⟩
def A4v(s:List UInt8):Vl:=w5 ⟨2,0,s⟩
theorem A6F(n:Int):Pure Tryz.prog A2R [.d (eI n)] (eV (A6q n)):=by
 refine C2C.go A6 rfl ?_
 have hV:=B22 ⟨1,n,[]⟩ (by simp)
 repeat' first|refine st ?_|((with_reducible apply C7);conv=>whnf)|((with_reducible first|apply A8|apply A7);(·exact hV))|(with_reducible first|apply A5|apply A4)<;>intro _
 all_goals rfl
theorem C2r(s:List UInt8)(hs:s.length<=4611686018427387904):Pure Tryz.prog B68 [.d (.str s)] (eV (A4v s)):=by
 refine C45.go A6 rfl ?_
 have hV:=C2s ⟨2,0,s⟩ hs
 repeat' first|refine st ?_|((with_reducible apply C7);conv=>whnf)|((with_reducible first|apply A8|apply A7);(·exact hV))|(with_reducible first|apply A5|apply A4)<;>intro _
 all_goals rfl
theorem A6G(s:List UInt8)(hs:s.length<=4611686018427387904):Pure Tryz.prog A2S [.d (.str s)] (eV (A4v s)):=by
 refine C2G.go A6 rfl ?_
 have hV:=B22 ⟨2,0,s⟩ hs
 repeat' first|refine st ?_|((with_reducible apply C7);conv=>whnf)|((with_reducible first|apply A8|apply A7);(·exact hV))|(with_reducible first|apply A5|apply A4)<;>intro _
 all_goals rfl
theorem A5s{a b:Int}:A2j a b=0↔a=b:=by unfold A2j;split<;>(try split)<;>omega
theorem B00:∀(a b:List UInt8),Op.bytesLess a b=decide (A0c a b<0)/\Op.bytesLess b a=decide (0<A0c a b)/\(A0c a b=0↔a=b)/\(A0c a b=-1\/A0c a b=0\/A0c a b=1)
 |[],[]=>by simp[Op.bytesLess,A0c,Lib.compareBytes]
 |[],_::_=>by simp[Op.bytesLess,A0c,Lib.compareBytes]
 |_::_,[]=>by simp[Op.bytesLess,A0c,Lib.compareBytes]
 |x::a,y::b=>by
  obtain⟨h1,h2,h3,h4⟩:=B00 a b
  simp only[Op.bytesLess,A0c,Lib.compareBytes] at *
  by_cases hxy:x<y
  ·have h5:¬y<x:=by intro h;exact absurd (UInt8.lt_trans hxy h) (UInt8.lt_irrefl x)
   have h6:x≠y:=by intro h;rw[h] at hxy;exact UInt8.lt_irrefl y hxy
   simp[hxy,h5,h6,m6 h6]
  ·by_cases hyx:y<x
   ·have h6:x≠y:=by intro h;rw[h] at hyx;exact UInt8.lt_irrefl y hyx
    simp[hxy,hyx,h6,m6 h6]
   ·have h6:x=y:=UInt8.le_antisymm (UInt8.not_lt.1 hyx) (UInt8.not_lt.1 hxy)
    subst h6
    simp only[UInt8.lt_irrefl,decide_false,Bool.false_or,beq_self_eq_true,w6,if_false,h1,h2,List.cons.injEq,true_and]
    exact⟨h3,h4⟩
def A4t(a b:Vl):Int:=or3 (A2j a.k b.k) (A2j a.n b.n) (A0c a.s b.s)
def sgn(l g:Bool):Int:=if l then -1 else if g then 1 else 0
theorem C24(l g:Bool):Pure Tryz.prog B55 [.d (.bool l),.d (.bool g)] (.d (eI (sgn l g))):=by
 refine C2I.go A6 rfl ?_
 repeat' first|refine st ?_|(with_reducible first|apply A5|apply A4)<;>intro _
 all_goals simp_all[sgn]
theorem C1Y(a b:Vl):Pure Tryz.prog A8Y [eV a,eV b] (.d (eI (A4t a b))):=by
 refine C2B.go A6 rfl ?_
 repeat' first|refine st ?_|((with_reducible first|apply A8|apply A7);(·exact C24 _ _))|(with_reducible first|apply A5|apply A4)<;>intro _
 ·rename_i h1 h2
  have e1:=A5s.2 h1
  have e2:=A5s.2 h2
  obtain⟨h3,h4,h5,h6⟩:=B00 a.s b.s
  rw[A4t,or3,e1,e2]
  simp only[h3,h4,sgn,decide_eq_true_eq]
  congr 2
  rcases h6 with h|h|h
  ·rw[h];rfl
  ·rw[h,decide_eq_true (h5.1 h)];rfl
  ·have hne:decide (a.s=b.s)=false:=decide_eq_false (λe=>by rw[h5.2 e] at h;cases h)
   rw[h,hne];rfl
 ·rename_i h1 h2
  have e1:=A5s.2 h1
  rw[A4t,or3,e1,if_neg (by simp),if_pos (λe=>h2 (A5s.1 e)),sgn,A2j]
  simp
 ·rename_i h1
  rw[A4t,or3,if_pos (λe=>h1 (A5s.1 e)),sgn,A2j]
  simp
theorem D3L{v w:Vl}:v=w↔(v.k=w.k/\v.n=w.n/\v.s=w.s):=by cases v;cases w;simp
def B4(l:List Vl):List (List D):=l.map Vl.ds
theorem S6(l:List Vl):(B4 l).length=l.length:=by simp[B4]
theorem A1O{l:List Vl}{i:Nat}{v:Vl}(h:l[i]?=some v):(B4 l)[i]?=some v.ds:=by simp[B4,h]
theorem k7(l:List Vl):∀e∈B4 l,e.length=3:=by
 intro e he
 obtain⟨x,_,rfl⟩:=F1.1 he
 rfl
def vAt(l:List Vl)(i:Int):Vl:=if i<0\/(l.length:Int)<=i then F2 else l.getD i.toNat F2
def r7(v:Vl):List UInt8:=
 if J9 v=false then [] else if v.k=1 then Lib.itoa v.n else if v.k=2 then [39]++U9 v.s++[39] else if v.k=3 then (if v.n=1 then [84,82,85,69] else [70,65,76,83,69]) else [78,85,76,76]
theorem A7Z:∀s:List UInt8,(U9 s).length<=2*s.length
 |[]=>G9 _
 |c::s=>by
  have:=A7Z s
  rw[U9]
  split<;>simp only[I7]<;>omega
theorem C26(s:List UInt8)(hs:s.length<=1048576):Pure Tryz.prog A59 [.d (.str s),.d (.str [39]),.d (.str [39,39])] (.d (.str (U9 s))):=by
 have h:=A8D s [39] [39,39] (by omega) (by decide) (by decide)
 rw[B9q _ _ _ (by decide) (by decide),B9p _ _ (G9 _)] at h
 exact h
theorem B1r{v:Vl}(h:J9 v=true)(hk:v.k=1):-1125899906842624<=v.n/\v.n<=1125899906842624:=by
 unfold J9 at h
 rw[if_neg (by omega),if_pos hk] at h
 exact(of_decide_eq_true h).2
theorem C02{v:Vl}(h:J9 v=true):v.k=0\/v.k=1\/v.k=2\/v.k=3:=by
 unfold J9 at h
 split at h
 ·omega
 split at h
 ·omega
 split at h
 ·omega
 split at h
 ·omega
 ·cases h
theorem C2p(v:Vl)(hs:v.s.length<=1048576):Pure Tryz.prog B66 [eV v] (.d (.str (r7 v))):=by
 have hV:=A4O v (by omega)
 obtain⟨q,hq⟩:∃q,q=r7 v:=⟨_,rfl⟩
 rw[<- hq]
 unfold r7 at hq
 cases hv:J9 v with
 |false=>
  rw[hv] at hV hq
  rw[if_pos rfl] at hq
  subst hq
  refine B2n.go A6 rfl ?_
  repeat' first|refine st ?_|((with_reducible first|apply A8|apply A7);(·exact hV))|(with_reducible first|apply A5|apply A4)<;>intro _
  all_goals rfl
 |true=>
  have hk:=C02 hv
  have hn:=λh=>B1r hv h
  rw[hv] at hV hq
  rw[if_neg (by decide)] at hq
  have hR:=C26 v.s hs
  have hs0:=hs
  clear hv
  obtain⟨k,n,s⟩:=v
  dsimp only at hq hk hn hR hs0
  refine B2n.go A6 rfl ?_
  rcases hk with rfl|rfl|rfl|rfl
  ·rw[if_neg (by decide),if_neg (by decide),if_neg (by decide)] at hq
   subst hq
   repeat' first|refine st ?_|((with_reducible first|apply A8|apply A7);(·exact hV))|(with_reducible first|apply A5|apply A4)<;>intro _
   all_goals rfl
  ·rw[if_pos rfl] at hq
   subst hq
   have hI:=C2h n (by have:=(hn rfl).1;omega) (by have:=(hn rfl).2;omega)
   repeat' first|refine st ?_|((with_reducible first|apply A8|apply A7);(·first|exact hV|exact hI))|(with_reducible first|apply A5|apply A4)<;>intro _
   all_goals rfl
  ·rw[if_neg (by decide),if_pos rfl] at hq
   subst hq
   have hl:=A7Z s
   have hb1:([39]:List UInt8).length+(U9 s).length<=9223372036854775807:=by simp only[I7,P9];omega
   have hb2:(([39]:List UInt8)++U9 s).length+([39]:List UInt8).length<=9223372036854775807:=by simp only[K4,I7,P9];omega
   obtain⟨z,hz⟩:∃z,z=U9 s:=⟨_,rfl⟩
   rw[<- hz] at hR hb1 hb2 ⊢
   clear hz hl
   repeat' first|refine st ?_|((with_reducible first|apply A8|apply A7);(·first|exact hV|exact hR))|(with_reducible first|apply A5|apply A4)<;>intro _
   all_goals rfl
  ·rw[if_neg (by decide),if_neg (by decide),if_pos rfl] at hq
   by_cases h1:n=1
   ·rw[if_pos h1] at hq
    subst hq
    repeat' first|refine st ?_|((with_reducible first|apply A8|apply A7);(·exact hV))|(with_reducible first|apply A5|apply A4)<;>intro _
    all_goals rfl
   ·rw[if_neg h1] at hq
    subst hq
    repeat' first|refine st ?_|((with_reducible first|apply A8|apply A7);(·exact hV))|(with_reducible first|apply A5|apply A4)<;>intro _
    all_goals rfl
theorem B7g(d:Nat)(h:d<10):(([48,49,50,51,52,53,54,55,56,57]:List UInt8).drop d).take (d+1-d)=[UInt8.ofNat (48+d)]:=by
 have key:∀d:Fin 10,(([48,49,50,51,52,53,54,55,56,57]:List UInt8).drop d.1).take (d.1+1-d.1)=[UInt8.ofNat (48+d.1)]:=by decide
 exact key ⟨d,h⟩
theorem A7q(n:Nat)(hn:n<=4611686018427387904):(Lib.decDigits n).length<=21:=by
 have h:=Lib.itoa_length_le n (by omega) (by omega)
 rwa [Lib.itoa_nonneg] at h
theorem B7f{m:Nat}(h:9<m):Lib.decDigits m=Lib.decDigits (m / 10)++[UInt8.ofNat (48+m % 10)]:=by
 rw[Lib.decDigits,dif_neg (by omega)]
theorem A6D(n:Nat)(hn:n<=4611686018427387904):Pure Tryz.prog A3H [.d (eI n)] (.d (.str (Lib.decDigits n))):=by
 have hql:=A7q n hn
 obtain⟨q,hq⟩:∃q,q=Lib.decDigits n:=⟨_,rfl⟩
 rw[<- hq] at hql ⊢
 refine C2z.go A6 rfl ?_
 repeat' first|refine st ?_|(with_reducible first|apply A5|apply A4)<;>intro _
 refine J1 A6 C5u C4A (λ(m:Nat) (s:List UInt8)=>[.d (eI m),.d (.str s)]) (λm s=>[]) (λm s=>m<=4611686018427387904/\Lib.decDigits m++s=q) (λm s=>m) n [] rfl rfl rfl rfl (λ_ _ _=>⟨rfl,rfl⟩) rfl ⟨hn,by rw[A1w,hq]⟩ ?_
 repeat' first|refine st ?_|(with_reducible first|apply A5|apply A4)<;>intro _
 intro m s ⟨h1,h2⟩
 have hsl:s.length<=21:=by rw[<- h2,K4] at hql;omega
 have hL:([48,49,50,51,52,53,54,55,56,57]:List UInt8).length=10:=rfl
 by_cases h3:9<m
 ·have hd:(m:Int).tmod 10=((m % 10:Nat):Int):=by rw[Int.tmod_eq_emod_of_nonneg (by omega)];rfl
  have hv:(m:Int).tdiv 10=((m / 10:Nat):Int):=by rw[Int.tdiv_eq_ediv_of_nonneg (by omega)];rfl
  have h4:=B7f h3
  have h5:=B7g (m % 10) (by omega)
  have h6:m / 10<m:=by omega
  have h7:m % 10<10:=by omega
  obtain⟨e,he⟩:∃e,e=m % 10:=⟨_,rfl⟩
  obtain⟨g,hg⟩:∃g,g=m / 10:=⟨_,rfl⟩
  rw[<- he] at hd h5 h7 h4
  rw[<- hg] at hv h6 h4
  have h5':List.take ((((e:Int)+1)).toNat-((e:Int)).toNat) (List.drop ((e:Int)).toNat [48,49,50,51,52,53,54,55,56,57])=[UInt8.ofNat (48+e)]:=h5
  have hl1:([UInt8.ofNat (48+e)]:List UInt8).length=1:=rfl
  clear he hg h5
  repeat' first|(rw[hd])|(rw[hv])|(rw[h5'])|refine st ?_|(with_reducible first|apply A5|apply A4)<;>intro _
  all_goals exact⟨g,[UInt8.ofNat (48+e)]++s,rfl,rfl,rfl,h6,by omega,by rw[<- h2,h4,List.append_assoc]⟩
 ·have h5:=B7g m (by omega)
  have h5':List.take ((((m:Int)+1)).toNat-((m:Int)).toNat) (List.drop ((m:Int)).toNat [48,49,50,51,52,53,54,55,56,57])=[UInt8.ofNat (48+m)]:=h5
  have hl1:([UInt8.ofNat (48+m)]:List UInt8).length=1:=rfl
  rw[Lib.decDigits,dif_pos (by omega)] at h2
  clear h5
  repeat' first|(rw[h5'])|refine st ?_|(with_reducible first|apply A5|apply A4)<;>intro _
  all_goals (rw[<- h2])
theorem C21(n:Int)(h0:-1125899906842624<=n)(h1:n<=1125899906842624):Pure Tryz.prog A8Z [.d (eI n)] (.d (.str (Lib.itoa n))):=by
 obtain⟨q,hq⟩:∃q,q=Lib.itoa n:=⟨_,rfl⟩
 rw[<- hq]
 by_cases hn:n<0
 ·obtain⟨m,rfl⟩:∃m:Nat,n=-(m:Int):=⟨n.natAbs,by omega⟩
  have hm:1<=m:=by omega
  rw[Lib.itoa_neg m hm] at hq
  by_cases hs:-10 < -(m:Int)
  ·have hN:=A6D m (by omega)
   have hl:=A7q m (by omega)
   obtain⟨z,hz⟩:∃z,z=Lib.decDigits m:=⟨_,rfl⟩
   rw[<- hz] at hN hl hq
   have hl1:([45]:List UInt8).length=1:=rfl
   have e1:(0:Int) - -(m:Int)=m:=by omega
   clear hz
   refine A8J.go A6 rfl ?_
   repeat' first|(rw[e1])|refine st ?_|((with_reducible first|apply A8|apply A7);(·exact hN))|(with_reducible first|apply A5|apply A4)<;>intro _
   all_goals (rw[hq];rfl)
  ·have hN:=A6D (m / 10) (by omega)
   have hN2:=A6D (m % 10) (by omega)
   have hl:=A7q (m / 10) (by omega)
   have hl2:=A7q (m % 10) (by omega)
   rw[B7f (by omega),<- Lib.decDigits_one (by omega)] at hq
   have hd:(-(m:Int)).tmod 10=-((m % 10:Nat):Int):=by rw[Int.neg_tmod,Int.tmod_eq_emod_of_nonneg (by omega)];rfl
   have hv:(-(m:Int)).tdiv 10=-((m / 10:Nat):Int):=by rw[Int.neg_tdiv,Int.tdiv_eq_ediv_of_nonneg (by omega)];rfl
   obtain⟨e,he⟩:∃e,e=m % 10:=⟨_,rfl⟩
   obtain⟨g,hg⟩:∃g,g=m / 10:=⟨_,rfl⟩
   have hge:g<=m/\e<10:=by omega
   rw[<- he] at hN2 hl2 hq hd
   rw[<- hg] at hN hl hq hv
   obtain⟨z,hz⟩:∃z,z=Lib.decDigits g:=⟨_,rfl⟩
   obtain⟨y,hy⟩:∃z,z=Lib.decDigits e:=⟨_,rfl⟩
   rw[<- hz] at hN hl hq
   rw[<- hy] at hN2 hl2 hq
   have hl1:([45]:List UInt8).length=1:=rfl
   have hl3:(([45]:List UInt8)++z).length=1+z.length:=by simp only[K4,I7,P9]
   have e1:(0:Int) - -(g:Int)=g:=by omega
   have e2:(0:Int) - -(e:Int)=e:=by omega
   clear hz hy he hg
   refine A8J.go A6 rfl ?_
   repeat' first|(rw[hd])|(rw[hv])|(rw[e1])|(rw[e2])|refine st ?_|((with_reducible first|apply A8|apply A7);(·first|exact hN|exact hN2))|(with_reducible first|apply A5|apply A4)<;>intro _
   all_goals (rw[hq];rfl)
 ·obtain⟨m,rfl⟩:∃m:Nat,n=(m:Int):=⟨n.toNat,by omega⟩
  rw[Lib.itoa_nonneg] at hq
  have hN:=A6D m (by omega)
  rw[<- hq] at hN
  refine A8J.go A6 rfl ?_
  repeat' first|refine st ?_|((with_reducible first|apply A8|apply A7);(·exact hN))|(with_reducible first|apply A5|apply A4)<;>intro _
  all_goals rfl
theorem B9h:∀(a b:List UInt8),U9 (a++b)=U9 a++U9 b
 |[],b=>rfl
 |c::a,b=>by
  have ih:=B9h a b
  simp only[A3B,U9,ih]
  split<;>rfl
theorem C23(s:List UInt8)(hs:s.length<=1048576):Pure Tryz.prog A90 [.d (.str s)] (.d (.str ([39]++U9 s++[39]))):=by
 have hql:=λi=>A7Z (s.take i)
 refine C2F.go A6 rfl ?_
 repeat' first|refine st ?_|(with_reducible first|apply A5|apply A4)<;>intro _
 refine J1 A6 C5w C4C (λ(i:Nat) (o:List UInt8)=>[.d (.str o),.d (eI i)]) (λi o=>[]) (λi o=>i<=s.length/\o=[39]++U9 (s.take i)) (λi o=>s.length-i) 0 [39] rfl rfl rfl rfl (λ_ _ _=>⟨rfl,rfl⟩) rfl ⟨T6 _,rfl⟩ ?_
 repeat' first|refine st ?_|(with_reducible first|apply A5|apply A4)<;>intro _
 intro i o ⟨h1,h2⟩
 have hl:=hql i
 rw[L6] at hl
 have hol:o.length<=2097153:=by rw[h2,K4,I7,P9];omega
 have hl1:([39]:List UInt8).length=1:=rfl
 have hl2:(o++[39]).length=o.length+1:=by simp
 cases hx:s[i]? with
 |some c=>
  have hlt:=(B3.1 hx).1
  have hg:s.getD ((i:Int)).toNat 0=c:=by simp[E7,hx]
  have hp:List.take (((i:Int)+1).toNat-((i:Int)).toNat) (List.drop ((i:Int)).toNat s)=[c]:=by
   rw[show((i:Int)+1).toNat-((i:Int)).toNat=1 by omega,G8,S5 hlt]
   have:=(B3.1 hx).2
   simp[this]
  have hcl:([c]:List UInt8).length=1:=rfl
  have S8:U9 (s.take (i+1))=U9 (s.take i)++U9 [c]:=by rw[<- B9h,Q9,hx];rfl
  by_cases hc:c=39
  ·subst hc
   repeat' first|(rw[hg])|(rw[hp])|refine st ?_|(with_reducible first|apply A5|apply A4)<;>intro _
   all_goals exact⟨i+1,(o++[39])++[39],rfl,rfl,rfl,by omega,by omega,by rw[S8,h2];simp[U9]⟩
  ·have hc2:¬((c.toNat:Int)=39):=λe=>hc (A2f.1 (by simpa using(by omega:c.toNat=39)))
   repeat' first|(rw[hg])|(rw[hp])|refine st ?_|(with_reducible first|apply A5|apply A4)<;>intro _
   all_goals exact⟨i+1,o++[c],rfl,rfl,rfl,by omega,by omega,by rw[S8,h2];simp[U9,hc]⟩
 |none=>
  have hge:=D8.1 hx
  rw[M7 hge] at h2
  repeat' first|refine st ?_|(with_reducible first|apply A5|apply A4)<;>intro _
  all_goals (rw[h2])
theorem D3F{v:Vl}(h:J9 v=true)(hk:v.k=0):v=F2:=by
 unfold J9 at h
 rw[if_pos hk] at h
 obtain⟨h1,h2⟩:=of_decide_eq_true h
 obtain⟨k,n,s⟩:=v
 dsimp only at hk h1 h2
 subst hk;subst h1;subst h2;rfl
theorem D3G{v:Vl}(h:J9 v=true)(hk:v.k=3):v=w4 true\/v=w4 false:=by
 unfold J9 at h
 rw[if_neg (by omega),if_neg (by omega),if_neg (by omega),if_pos hk] at h
 obtain⟨h1,h2⟩:=of_decide_eq_true h
 obtain⟨k,n,s⟩:=v
 dsimp only at hk h1 h2
 subst hk;subst h1
 rcases h2 with rfl|rfl
 ·exact .inr rfl
 ·exact .inl rfl
theorem C20(v:Vl)(hs:v.s.length<=1048576):Pure Tryz.prog B52 [eV v] (.d (.str (r7 v))):=by
 have hV:=A4K v (by omega)
 have hN:=w8
 have hT:=A6E true
 have hF:=A6E false
 obtain⟨q,hq⟩:∃q,q=r7 v:=⟨_,rfl⟩
 rw[<- hq]
 unfold r7 at hq
 cases hv:J9 v with
 |false=>
  rw[hv] at hV hq
  rw[if_pos rfl] at hq
  subst hq
  refine A3x.go A6 rfl ?_
  repeat' first|refine st ?_|((with_reducible first|apply A8|apply A7);(·exact hV))|(with_reducible first|apply A5|apply A4)<;>intro _
  all_goals rfl
 |true=>
  rcases C02 hv with hk|hk|hk|hk
  ·have h0:=D3F hv hk
   subst h0
   rw[hv] at hV hq
   rw[if_neg (by decide),if_neg (by decide),if_neg (by decide),if_neg (by decide)] at hq
   subst hq
   refine A3x.go A6 rfl ?_
   repeat' first|refine st ?_|((with_reducible first|apply A8|apply A7);(·first|exact hV|exact hN|exact hT|exact hF))|(with_reducible first|apply A5|apply A4)<;>intro _
   all_goals first|rfl|(exfalso;simp_all[F2])
  ·have hn:=B1r hv hk
   have hI:=C21 v.n (by omega) (by omega)
   rw[hv] at hV hq
   rw[if_neg (by decide),if_pos hk] at hq
   rw[<- hq] at hI
   clear hq hv
   obtain⟨k,n,s⟩:=v
   dsimp only at hk hI
   subst hk
   refine A3x.go A6 rfl ?_
   repeat' first|refine st ?_|((with_reducible first|apply A8|apply A7);(·first|exact hV|exact hN|exact hT|exact hF|exact hI))|(with_reducible first|apply A5|apply A4)<;>intro _
   all_goals first|rfl|(exfalso;simp_all[F2,w4])
  ·have hQ:=C23 v.s hs
   rw[hv] at hV hq
   rw[if_neg (by decide),if_neg (by omega),if_pos hk] at hq
   rw[<- hq] at hQ
   clear hq hv
   obtain⟨k,n,s⟩:=v
   dsimp only at hk hQ
   subst hk
   refine A3x.go A6 rfl ?_
   repeat' first|refine st ?_|((with_reducible first|apply A8|apply A7);(·first|exact hV|exact hN|exact hT|exact hF|exact hQ))|(with_reducible first|apply A5|apply A4)<;>intro _
   all_goals first|rfl|(exfalso;simp_all[F2,w4])
  ·rcases D3G hv hk with rfl|rfl
   ·rw[hv] at hV hq
    rw[if_neg (by decide),if_neg (by decide),if_neg (by decide),if_pos (by decide),if_pos (by decide)] at hq
    subst hq
    refine A3x.go A6 rfl ?_
    repeat' first|refine st ?_|((with_reducible first|apply A8|apply A7);(·first|exact hV|exact hN|exact hT|exact hF))|(with_reducible first|apply A5|apply A4)<;>intro _
    all_goals first|rfl|(exfalso;simp_all[F2,w4])
   ·rw[hv] at hV hq
    rw[if_neg (by decide),if_neg (by decide),if_neg (by decide),if_pos (by decide),if_neg (by decide)] at hq
    subst hq
    refine A3x.go A6 rfl ?_
    repeat' first|refine st ?_|((with_reducible first|apply A8|apply A7);(·first|exact hV|exact hN|exact hT|exact hF))|(with_reducible first|apply A5|apply A4)<;>intro _
    all_goals first|rfl|(exfalso;simp_all[F2,w4])
def K9(c:UInt8):List UInt8->Bool
 |[]=>false
 |d::_=>decide (d=c)
theorem B1K(s:List UInt8)(hs:s.length<=4194304)(c:UInt8):Pure Tryz.prog B5P [.d (.str s),.d (.str [c])] (.d (.bool (K9 c s))):=by
 have hl1:([c]:List UInt8).length=1:=rfl
 refine C3C.go A6 rfl ?_
 cases s with
 |nil=>
  have hl:([]:List UInt8).length=0:=rfl
  repeat' first|refine st ?_|(with_reducible first|apply A5|apply A4)<;>intro _
  all_goals first|rfl|(exfalso;simp at *;done)
 |cons d r=>
  have hl:(d::r).length=r.length+1:=rfl
  simp only[I7] at hs
  repeat' first|refine st ?_|(with_reducible first|apply A5|apply A4)<;>intro _
  all_goals (simp[K9];done)
theorem C2l(s:List UInt8)(hs:s.length<=4194304)(c:UInt8):Pure Tryz.prog A9w [.d (.str s),.d (.str [c])] (.d (.bool (K9 c s))):=by
 have h:=B1K s hs c
 refine C40.go A6 rfl ?_
 repeat' first|refine st ?_|((with_reducible first|apply A8|apply A7);(·exact h))|(with_reducible first|apply A5|apply A4)<;>intro _
 all_goals rfl
theorem C1s(s:List UInt8)(hs:s.length<=4194304)(c:UInt8):Pure Tryz.prog B5N [.d (.str s),.d (.str [c])] (.tup [.d (.str (if K9 c s then s.tail else s)),.d (.bool (K9 c s))]):=by
 have h:=B1K s hs c
 have hl1:([c]:List UInt8).length=1:=rfl
 refine C3A.go A6 rfl ?_
 cases hb:K9 c s with
 |false=>
  rw[hb] at h
  repeat' first|refine st ?_|((with_reducible first|apply A8|apply A7);(·exact h))|(with_reducible first|apply A5|apply A4)<;>intro _
  all_goals rfl
 |true=>
  rw[hb] at h
  cases s with
  |nil=>cases hb
  |cons d r=>
   have hl:(d::r).length=r.length+1:=rfl
   simp only[I7] at hs
   repeat' first|refine st ?_|((with_reducible first|apply A8|apply A7);(·exact h))|(with_reducible first|apply A5|apply A4)<;>intro _
   all_goals (simp;done)
theorem C2j(s:List UInt8)(hs:s.length<=4194304)(c:UInt8):Pure Tryz.prog A9u [.d (.str s),.d (.str [c])] (.tup [.d (.str (if K9 c s then s.tail else s)),.d (.bool (K9 c s))]):=by
 have h:=C1s s hs c
 obtain⟨q,hq⟩:∃q,q=(if K9 c s then s.tail else s):=⟨_,rfl⟩
 rw[<- hq] at h ⊢
 refine C3Y.go A6 rfl ?_
 repeat' first|refine st ?_|((with_reducible first|apply A8|apply A7);(·exact h))|(with_reducible first|apply A5|apply A4)<;>intro _
 all_goals rfl
theorem B1g(s:List UInt8):s=[]\/∃r d,s=r++[d]:=by
 rcases List.eq_nil_or_concat s with h|⟨r,d,h⟩
 ·exact .inl h
 ·exact .inr ⟨r,d,by rw[h,List.concat_eq_append]⟩
def S8(c:UInt8)(s:List UInt8):Bool:=decide (s.getLast?=some c)
theorem B86(c d:UInt8)(r:List UInt8):S8 c (r++[d])=decide (d=c):=by
 unfold S8;simp
theorem C1u(s:List UInt8)(hs:s.length<=4194304)(c:UInt8):Pure Tryz.prog B5Q [.d (.str s),.d (.str [c])] (.d (.bool (S8 c s))):=by
 have hl1:([c]:List UInt8).length=1:=rfl
 refine C3D.go A6 rfl ?_
 rcases B1g s with rfl|⟨r,d,rfl⟩
 ·have hl:([]:List UInt8).length=0:=rfl
  repeat' first|refine st ?_|(with_reducible first|apply A5|apply A4)<;>intro _
  all_goals first|rfl|(exfalso;simp at *;done)
 ·rw[B86]
  have hl:(r++[d]).length=r.length+1:=by simp
  have hp:List.take ((r++[d]).length-((r++[d]).length-1)) (List.drop ((r++[d]).length-1) (r++[d]))=[d]:=by
   rw[hl,show r.length+1-1=r.length by omega,show r.length+1-r.length=1 by omega]
   simp
  obtain⟨z,hz⟩:∃z,z=r++[d]:=⟨_,rfl⟩
  rw[<- hz] at hl hp hs ⊢
  clear hz
  repeat' first|refine st ?_|(with_reducible first|apply A5|apply A4)<;>intro _
  all_goals (simp[hp];done)
theorem C1t(s:List UInt8)(hs:s.length<=4194304)(c:UInt8):Pure Tryz.prog B5O [.d (.str s),.d (.str [c])] (.tup [.d (.str (if S8 c s then s.dropLast else s)),.d (.bool (S8 c s))]):=by
 have h:=C1u s hs c
 have hl1:([c]:List UInt8).length=1:=rfl
 refine C3B.go A6 rfl ?_
 cases hb:S8 c s with
 |false=>
  rw[hb] at h
  repeat' first|refine st ?_|((with_reducible first|apply A8|apply A7);(·exact h))|(with_reducible first|apply A5|apply A4)<;>intro _
  all_goals rfl
 |true=>
  rw[hb] at h
  rcases B1g s with rfl|⟨r,d,rfl⟩
  ·cases hb
  ·have hl:(r++[d]).length=r.length+1:=by simp
   have hdl:(r++[d]).dropLast=r:=by simp
   have hp:List.take ((r++[d]).length-1) (r++[d])=r:=by
    rw[hl,show r.length+1-1=r.length by omega]
    simp
   rw[if_pos rfl,hdl]
   obtain⟨z,hz⟩:∃z,z=r++[d]:=⟨_,rfl⟩
   rw[<- hz] at hl hp hs h ⊢
   clear hz hb hdl
   repeat' first|refine st ?_|((with_reducible first|apply A8|apply A7);(·exact h))|(with_reducible first|apply A5|apply A4)<;>intro _
   all_goals first|rfl|(simp[hp];done)|(simp;exact hp)
theorem C2k(s:List UInt8)(hs:s.length<=4194304)(c:UInt8):Pure Tryz.prog A9v [.d (.str s),.d (.str [c])] (.tup [.d (.str (if S8 c s then s.dropLast else s)),.d (.bool (S8 c s))]):=by
 have h:=C1t s hs c
 obtain⟨q,hq⟩:∃q,q=(if S8 c s then s.dropLast else s):=⟨_,rfl⟩
 rw[<- hq] at h ⊢
 refine C3Z.go A6 rfl ?_
 repeat' first|refine st ?_|((with_reducible first|apply A8|apply A7);(·exact h))|(with_reducible first|apply A5|apply A4)<;>intro _
 all_goals rfl
end Go.Proofs
end
