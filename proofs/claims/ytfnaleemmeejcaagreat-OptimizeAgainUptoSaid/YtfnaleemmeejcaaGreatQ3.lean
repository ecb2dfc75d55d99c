/- Texts of this claim, joined. No condition. -/
import Derived.Test.YtfnaleemmeejcaaGreatQ2
import Derived.Test.YtfnaleemmeejcaaGreatBi
import Derived.Shelf.Sort.Plain
import Derived.Shelf.Slices.In.SortNone
import Derived.Shelf.Slices.CompactI
set_option linter.unusedSimpArgs false
set_option linter.unusedVariables false
set_option maxRecDepth 10000
set_option maxHeartbeats 4000000
section
namespace Go.Bi
open Go Go.Proofs Go.Sort Go.Shelf
section
variable {P:Program}{M:D6}{G:Gh}{os:List AO}{w w':World}
theorem OR.live_lt(he:C8 M G os w){id:Nat}{o:AO}(ho:os[id]?=some o)(hl:o.live=true):G.blk id<w.heap.size:=he.lt ⟨o,ho,hl⟩
theorem B3x(hsys:w'.os=w.os)(htape:w'.tape=w.tape)(hout:w'.output=w.output)(hsz:w.heap.size<=w'.heap.size)(hh:∀b,b<w.heap.size->w'.heap[b]?=w.heap[b]?):F9 M G os w M G os w' where
 sys:=hsys
 tape:=htape
 output:=hout
 size:=hsz
 frame:=λb hb _=>hh b hb
 grow:=λ_ _ h=>h
 fresh:=λ_ _ h=>.inl h
 own:=λi h=>.inr ⟨i,h,rfl⟩
 keep:=λi o h=>(F9.refl M G os w).keep i o h
theorem D8s(he:C8 M G os w)(hsys:w'.os=w.os)(htape:w'.tape=w.tape)(hout:w'.output=w.output)(hsz:w.heap.size<=w'.heap.size)(hh:∀b,b<w.heap.size->w'.heap[b]?=w.heap[b]?):C8 M G os w' where
 mem:=λa v h=>by
  have h1:=he.mem a v h
  have hlt:a.block<w.heap.size:=by
   unfold World.cell? at h1
   cases hb:w.heap[a.block]? with
   |none=>rw[hb] at h1;cases h1
   |some o=>exact(A0g.1 hb).1
  rw[World.cell?_of_block (w:=w) (hh _ hlt)]
  exact h1
 obj:=λi x hx=>by
  have hold:=he.obj i x hx
  by_cases hlv:x.live=true
  ·exact OR.since (B3x hsys htape hout hsz hh) hold rfl rfl (hh _ (OR.live_lt he hx hlv)) (λ_ _=>rfl)
  ·cases x with
   |cells cs=>exact absurd rfl hlv
   |iter s p=>exact absurd rfl hlv
   |hole=>trivial
   |map kvs=>exact absurd rfl hlv
   |mit m n s=>exact absurd rfl hlv
   |arr es sz frz nl=>
    cases nl with
    |false=>exact absurd rfl hlv
    |true=>exact⟨hold.1,hold.2.1,hold.2.2.1,hold.2.2.2.1,λh=>by cases h⟩
   |rarr es sz nl=>
    cases nl with
    |false=>exact absurd rfl hlv
    |true=>exact⟨hold.1,hold.2.1,hold.2.2.1,λh=>by cases h⟩
 inj:=he.inj
 sep:=he.sep
 glb:=A2v (B3x (M:=M) (G:=G) (os:=os) hsys htape hout hsz hh) he.glb
def ints(zs:List Int):List (List D):=zs.map λz=>[.int .i64 z]
theorem A43(zs:List Int):(ints zs).length=zs.length:=by simp[ints]
theorem D9a(zs:List Int):∀e∈ints zs,e.length=1:=by
 intro e he
 obtain⟨z,_,rfl⟩:=D9.1 he
 rfl
theorem E02(blk:Nat)(f:Array Value->Array Value)(b:Nat)(h:b≠blk):(mapBlock w blk f).heap[b]?=w.heap[b]?:=by
 unfold mapBlock
 simp only[Array.getElem?_modify]
 rw[if_neg (Ne.symm h)]
theorem C4H(he:C8 M G os w){id:Nat}{zs ys:List Int}(ho:os[id]?=some (.arr (ints zs) 1 0 false))(hlen:ys.length=zs.length)(n:Nat) :
  C8 M G (os.set id (.arr (ints ys) 1 0 false)) (putRow (Value.int .i64) (Sort.ahead w n) (G.blk id) 0 ys.toArray)/\F9 M G os w M G (os.set id (.arr (ints ys) 1 0 false)) (putRow (Value.int .i64) (Sort.ahead w n) (G.blk id) 0 ys.toArray):=by
 obtain⟨h1,h2,h3,h4,h5⟩:=he.obj id _ ho
 obtain⟨ca,t,h6,h7,h8,h9,h10,h11⟩:=h5 rfl
 have hlt:=(B3.1 ho).1
 have hno:∀a v,M a=some v->a.block=G.blk id->False:=λa v ha hb=>by
  obtain⟨es',sz',frz',nl',h12,h13⟩:=he.sep id a v (H1.arr ho) ha hb
  rw[ho] at h12
  cases h12
  omega
 have hk:P2 G G id (os.set id (.arr (ints ys) 1 0 false)) (.arr (ints zs) 1 0 false):=⟨ints ys,0,false,by simp[hlt],by rw[A43,A43];omega,λ_=>⟨rfl,rfl,rfl⟩⟩
 have hoth:∀b,b≠G.blk id->(putRow (Value.int .i64) (Sort.ahead w n) (G.blk id) 0 ys.toArray).heap[b]?=w.heap[b]?:=λb hb=>E02 _ _ b hb
 have hs:=A0T he (w':=putRow (Value.int .i64) (Sort.ahead w n) (G.blk id) 0 ys.toArray) (M':=M) ho rfl rfl rfl rfl (by simp) hoth (λ_ _ h=>h) (λ_ _ h=>.inl h) hk
 refine⟨A1S he ho rfl rfl rfl rfl (by simp) hoth (λ_ _ h=>h) (λ_ _ h=>.inl h) hk (λ_ _=>rfl) (λa v ha hb=>(hno a v ha hb).elim) (λa v ha hb=>(hno a v ha hb).elim) ?_,hs⟩
 rw[A43] at h8
 refine⟨h1,D9a ys,K1 _,λh=>(by cases h),λ_=>⟨putCells (Value.int .i64) 0 ys.toArray ca,t,?_,?_,?_,h9,λi j e x hi hj=>?_,λo ho=>(by omega)⟩⟩
 ·show(mapBlock (Sort.ahead w n) (G.blk id) _).heap[G.blk id]?=_
  unfold mapBlock
  simp only[Array.getElem?_modify,if_true]
  show Option.map _ w.heap[G.blk id]?=_
  rw[h6];rfl
 ·unfold putCells
  rw[Array.size_mapIdx,h7]
 ·rw[A43];omega
 ·obtain⟨z,hz,rfl⟩:∃z,ys[i]?=some z/\e=[.int .i64 z]:=by
   unfold ints at hi
   rw[I7] at hi
   cases hy:ys[i]? with
   |none=>rw[hy] at hi;cases hi
   |some z=>rw[hy] at hi;cases hi;exact⟨z,rfl,rfl⟩
  have hil:=(B3.1 hz).1
  cases j with
  |succ j=>cases hj
  |zero=>
   cases hj
   refine⟨.int .i64 z,?_,.int _ _⟩
   unfold putCells
   have hic:i*1+0<ca.size:=by rw[h7];omega
   rw[Array.getElem?_mapIdx,N2 hic,A18,if_pos (by simp;omega)]
   have:ys.toArray[i*1+0-0]! = z:=by
    have e:i*1+0-0=i:=by omega
    rw[e,getElem!_pos _ i (by simpa using hil)]
    simpa using(B3.1 hz).2
   rw[this]
theorem C4I(he:C8 M G os w){id:Nat}{zs:List Int}(ho:os[id]?=some (.arr (ints zs) 1 0 false)):Holds (Value.int .i64) w (G.blk id) 0 zs.toArray:=by
 obtain⟨h1,h2,h3,h4,h5⟩:=he.obj id _ ho
 obtain⟨ca,t,h6,h7,h8,h9,h10,h11⟩:=h5 rfl
 intro j hj
 have hj':j<zs.length:=by simpa using hj
 have hz:(ints zs)[j]?=some [.int .i64 zs[j]]:=by unfold ints;rw[I7,F1 hj'];rfl
 obtain⟨u,hu,hr⟩:=h10 j 0 _ _ hz rfl
 cases hr
 rw[Nat.mul_one,A4t] at hu
 refine⟨?_,?_⟩
 ·have:zs.toArray[j]! = zs[j]:=by rw[getElem!_pos _ j hj];simp
  rw[this,A17]
  unfold World.cell?
  rw[h6]
  simpa using hu
 ·unfold World.frozen?
  rw[h6]
  simp
theorem D92(he:C8 M G os w){id m:Nat}{es:List (List D)}{sz:Nat}(ho:os[id]?=some (.arr es sz 0 false))(hm:m<=es.length) :
  C8 (D6.with M w (G.blk id) (m*sz)) G (os.set id (.arr es sz m false)) w/\
  F9 M G os w (D6.with M w (G.blk id) (m*sz)) G (os.set id (.arr es sz m false)) w/\
  Rd (D6.with M w (G.blk id) (m*sz)) (.sl (es.take m)) (.slice (some ⟨G.blk id,0,none⟩) m (G.cap id)):=by
 obtain⟨h1,h2,h3,h4,h5⟩:=he.obj id _ ho
 obtain⟨ca,t,h6,h7,h8,h9,h10,h11⟩:=h5 rfl
 have hlt:=(B3.1 ho).1
 have hgrow:∀x v,M x=some v->D6.with M w (G.blk id) (m*sz) x=some v:=λx v hx=>by
  unfold D6.with
  split
  ·exact he.mem x v hx
  ·exact hx
 have hnew:∀x v,D6.with M w (G.blk id) (m*sz) x=some v->M x=some v\/x.block=G.blk id:=λx v hx=>by
  unfold D6.with at hx
  split at hx
  ·rename_i hc;exact .inr hc.1
  ·exact .inl hx
 have hk:P2 G G id (os.set id (.arr es sz m false)) (.arr es sz 0 false):=⟨es,m,false,by simp[hlt],D4 _,λ_=>⟨rfl,rfl,rfl⟩⟩
 have hs:=A0T he (w':=w) ho rfl rfl rfl rfl rfl (λ_ _=>rfl) hgrow hnew hk
 have hcl:∀o,o<m*sz->D6.with M w (G.blk id) (m*sz) ⟨G.blk id,o,none⟩=ca[o]?:=λo ho=>by
  unfold D6.with
  rw[if_pos ⟨rfl,rfl,ho⟩]
  simp[World.cell?,h6]
 refine⟨A1S he ho rfl rfl rfl rfl rfl (λ_ _=>rfl) hgrow hnew hk (λx hx=>?_) (λx v hx hb=>?_) (λx v hx hb=>?_) ?_,hs,?_⟩
 ·unfold D6.with
  rw[if_neg (λhc=>hx hc.1)]
 ·unfold D6.with at hx
  split at hx
  ·exact hx
  ·exact he.mem x v hx
 ·refine⟨_,_,_,_,rfl,?_⟩
  unfold D6.with at hx
  split at hx
  ·rename_i hc;exact hc.2.2
  ·obtain⟨es',sz',frz',nl',h12,h13⟩:=he.sep id x v (H1.arr ho) hx hb
   rw[ho] at h12
   cases h12
   omega
 ·refine⟨h1,h2,hm,λh=>(by cases h),λ_=>⟨ca,t,h6,h7,h8,h9,λi j e x hi hj=>?_,hcl⟩⟩
  obtain⟨u,hu,hr⟩:=h10 i j e x hi hj
  exact⟨u,hu,hr.mono hgrow⟩
 ·have hlen:(es.take m).length=m:=by rw[L6];omega
  have key:Rd (D6.with M w (G.blk id) (m*sz)) (.sl (es.take m)) (.slice (some ⟨G.blk id,0,none⟩) (es.take m).length (G.cap id)):=by
   refine Rd.sl (es.take m) (G.blk id) 0 (G.cap id) sz (λi j=>(ca[i*sz+j]?).getD undef) (by omega) (λe hx=>h2 e (A2Y hx)) (λi j hi hj=>?_) (λi j e d hi hj=>?_)
   ·rw[hlen] at hi
    rw[A17,hcl _ (m8 hi hj)]
    have hsz:i*sz+j<ca.size:=by
     rw[h7]
     exact A3F (m8 hi hj) (l6 _ (by omega))
    simp[hsz]
   ·have hil:=(B3.1 hi).1
    rw[A0F,if_pos (by omega)] at hi
    obtain⟨u,hu,hr⟩:=h10 i j e d hi hj
    simp only[hu,A0k]
    exact hr.mono hgrow
  rwa [hlen] at key
theorem E23{ρ:Ren}(L:Lays.n189 P ρ)(he:Enters P (ρ.f 189))(zs:List Int)(nl:Bool)(hz:zs.length<4611686018427387904) :
  C0 P (ρ.f 189) [.arr 0 (ints zs).length] [.arr (ints zs) 1 0 nl] (λr os'=>r=.tup []/\os'=[.arr (ints (zs.mergeSort λx y=>decide (x<=y))) 1 0 nl]):=by
 refine⟨he,λM G w vs hE hl hv=>?_⟩
 obtain⟨v,rfl⟩:∃v,vs=#[v]:=by
  obtain⟨l⟩:=vs
  match l,hl with
  |[x],_=>exact⟨x,rfl⟩
 have hval:=hv 0 _ v rfl rfl
 obtain⟨h0,es,sz,frz,nl',h1,h2,h3⟩:=hval
 cases h1
 have hv:=h3 rfl
 subst hv
 unfold Gh.slv
 cases nl with
 |true=>
  have hnil:ints zs=[]:=(hE.obj 0 _ rfl).2.2.2.1 rfl
  have hzs:zs=[]:=by unfold ints at hnil;simpa using hnil
  subst hzs
  rw[if_pos rfl]
  refine(Any.slices_Sort_int_none L none 0 w).mono ?_
  rintro e w' ⟨rfl,rfl⟩
  exact⟨_,rfl,M,G,.tup [],_,hE,F9.refl ..,⟨#[],rfl,rfl,by simp⟩,rfl,by simp⟩
 |false=>
  rw[if_neg (by decide),A43]
  have hlt:=OR.live_lt hE (id:=0) rfl rfl
  refine(Any.slices_Sort_int L (G.blk 0) 0 (G.cap 0) zs w (C4I hE (id:=0) rfl) hlt hz).mono ?_
  rintro e w' ⟨rfl,n,xs,rfl⟩
  obtain⟨e1,s1⟩:=C4H hE (id:=0) (ys:=zs.mergeSort λx y=>decide (x<=y)) rfl (by simp) n
  have hh:∀b,b<(putRow (Value.int .i64) (Sort.ahead w n) (G.blk 0) 0 (zs.mergeSort λx y=>decide (x<=y)).toArray).heap.size->(grow (putRow (Value.int .i64) (Sort.ahead w n) (G.blk 0) 0 (zs.mergeSort λx y=>decide (x<=y)).toArray) xs).heap[b]?=(putRow (Value.int .i64) (Sort.ahead w n) (G.blk 0) 0 (zs.mergeSort λx y=>decide (x<=y)).toArray).heap[b]?:=λb hb=>by
   unfold grow
   exact A2Q hb
  refine⟨_,rfl,M,G,.tup [],_,D8s e1 rfl rfl rfl (by simp[grow]) hh,s1.trans (B3x rfl rfl rfl (by simp[grow]) hh),⟨#[],rfl,rfl,by simp⟩,rfl,rfl⟩
theorem C2g(zs:List Int):(Lib.compact zs).length<=zs.length:=by
 unfold Lib.compact Lib.compactUpTo
 rw[D3]
 exact J2 (A1D _ _) (by simp)
theorem D80{ρ:Ren}(L:Lays2.n20 P ρ)(he:Enters P (ρ.f 20))(zs:List Int)(nl:Bool)(hz:zs.length<=9223372036854775807) :
  C0 P (ρ.f 20) [.arr 0 (ints zs).length] [.arr (ints zs) 1 0 nl] (λr os'=>r=.d (if nl then .nil else .sl (ints (Lib.compact zs)))/\os'=[.arr (ints (Lib.compact zs++List.replicate (zs.length-(Lib.compact zs).length) 0)) 1 (if nl then 0 else (Lib.compact zs).length) nl]):=by
 refine⟨he,λM G w vs hE hl hv=>?_⟩
 obtain⟨v,rfl⟩:∃v,vs=#[v]:=by
  obtain⟨l⟩:=vs
  match l,hl with
  |[x],_=>exact⟨x,rfl⟩
 have hval:=hv 0 _ v rfl rfl
 obtain⟨h0,es,sz,frz,nl',h1,h2,h3⟩:=hval
 cases h1
 have hv:=h3 rfl
 subst hv
 unfold Gh.slv
 cases nl with
 |true=>
  have hnil:ints zs=[]:=(hE.obj 0 _ rfl).2.2.2.1 rfl
  have hzs:zs=[]:=by unfold ints at hnil;simpa using hnil
  subst hzs
  rw[if_pos rfl]
  refine(Any.slices_Compact_int_empty L none 0 w).mono ?_
  rintro e w' ⟨rfl,rfl⟩
  exact⟨_,rfl,M,G,.d .nil,_,hE,F9.refl ..,Rd.nil,rfl,rfl⟩
 |false=>
  rw[if_neg (by decide),A43]
  obtain⟨h1,h2,h3,h4,h5⟩:=hE.obj 0 _ rfl
  obtain⟨ca,t,h6,h7,h8,h9,h10,h11⟩:=h5 rfl
  rw[A43] at h8
  refine(Any.slices_Compact_int L (G.blk 0) 0 (G.cap 0) zs w (C4I hE (id:=0) rfl) hz h8).mono ?_
  rintro e w' ⟨rfl,n,rfl⟩
  have hcl:=C2g zs
  have hlen:(Lib.compact zs++List.replicate (zs.length-(Lib.compact zs).length) 0).length=zs.length:=by simp;omega
  obtain⟨e1,s1⟩:=C4H hE (id:=0) (ys:=Lib.compact zs++List.replicate (zs.length-(Lib.compact zs).length) 0) rfl hlen n
  obtain⟨e2,s2,r2⟩:=D92 e1 (id:=0) (m:=(Lib.compact zs).length) rfl (by rw[A43,hlen];exact hcl)
  refine⟨_,rfl,_,G,.d (.sl (ints (Lib.compact zs))),_,e2,s1.trans s2,?_,rfl,rfl⟩
  have ht:(ints (Lib.compact zs++List.replicate (zs.length-(Lib.compact zs).length) 0)).take (Lib.compact zs).length=ints (Lib.compact zs):=by
   unfold ints
   rw[<- List.map_take,List.take_left]
  rw[ht] at r2
  exact r2
end
theorem E2C{n nb:Nat}{ρ:D7}{os:List AO}(t:Nat){id len sz frz:Nat}{nl:Bool}{es:List (List D)}(ht:ρ t=.arr id len)(ho:os[id]?=some (.arr es sz frz nl))(hl:len=es.length) :
  A0l n nb ρ os (upd t (.d (if nl then .nil else .sl es)) ρ) (os.set id (.arr es sz es.length nl)):=by
 intro c M G w a hR
 have hv:=hR.tmps t
 rw[ht] at hv
 obtain⟨M1,h1,h2,h3⟩:=A7g hR.env (c:=.arr id len) (x:=if nl then .nil else .sl es) (os1:=os.set id (.arr es sz es.length nl)) (by unfold A1f;dsimp only;rw[ho];dsimp only;rw[if_pos hl]) hv
 exact⟨M1,G,{
  env:=h1,since:=hR.since.trans h2,size:=hR.size,defers:=hR.defers,base:=hR.base
  tmps:=λs=>by
   have hs:=(hR.tmps s).since h2
   unfold upd
   split
   ·rename_i h
    subst h
    exact h3
   ·exact hs}⟩
end Go.Bi
end
section
namespace Go.Proofs
open Go.Bi
theorem B4I(es:List (List D))(hm:∀e∈es,e.length=1)(nl:Bool)(rd:D)(k:Int)(hk:es.length+k.toNat<=4294967296) :
  C0 Tryz.prog B9Z [.arr 0 es.length,.d rd,.d (eI k)] [.arr es 1 0 nl] (λr os=>r=.arr 0 (es++List.replicate k.toNat [rd]).length/\os=[.arr (es++List.replicate k.toNat [rd]) 1 0 (nl&&decide (k<=0))]):=by
 refine C9s.goO A6 rfl ?_
 repeat' first|refine st ?_|((with_reducible apply A4);conv=>whnf)|refine⟨λ_=>?_,λ_=>?_⟩|fail
 refine M5 A6 D2Y D1D (λ(i:Nat) (w:List (List D))=>[.arr 0 w.length,.d (eI i)]) (λi w=>[.arr w 1 0 (nl&&decide (i=0))]) (λi w=>i<=k.toNat/\w=es++List.replicate i [rd]) (λi w=>k.toNat-i) 0 es rfl rfl rfl (by cases nl<;>rfl) (λ_ _ _=>⟨rfl,rfl⟩) rfl ⟨K1 _,by simp⟩ ?_
 repeat' first|refine st ?_|((with_reducible apply A4);conv=>whnf)|refine⟨λ_=>?_,λ_=>?_⟩|fail
 intro i w ⟨i1,i2⟩
 have hwl:w.length=es.length+i:=by rw[i2];simp
 have hwm:∀e∈w,e.length=1:=by
  rw[i2]
  intro e he
  rcases L9.1 he with he|he
  ·exact hm e he
  ·rw[(A8y.1 he).2];rfl
 have hbd:(w.length+1)*24<=140737488355328:=by omega
 by_cases h:i<k.toNat
 ·have hil:(i:Int)<k:=by omega
  have i3:w++[[rd]]=es++List.replicate (i+1) [rd]:=by rw[i2,List.replicate_succ',S6]
  clear i2
  repeat' first|refine st ?_|((with_reducible apply A4);conv=>whnf)|refine⟨λ_=>?_,λ_=>?_⟩|fail
  refine⟨i+1,w++[[rd]],?_,rfl,?_,by omega,by omega,i3⟩
  ·simp
  ·simp
 ·have hil:k<=i:=by omega
  have hik:i=k.toNat:=by omega
  have i3:es++List.replicate k.toNat [rd]=w:=by rw[i2,hik]
  have hz:decide (i=0)=decide (k<=0):=by
   by_cases h0:k<=0
   ·rw[decide_eq_true h0,decide_eq_true (by omega)]
   ·rw[decide_eq_false h0,decide_eq_false (by omega)]
  rw[i3,hz]
  clear i2
  repeat' first|refine st ?_|((with_reducible apply A4);conv=>whnf)|refine⟨λ_=>?_,λ_=>?_⟩|fail
  all_goals exact⟨rfl,rfl⟩
theorem B3z{b:Bool}{es:List (List D)}(h:b=true->es=[]):B0 (Y2 b es) es:=by
 unfold Y2
 cases b with
 |true=>exact .inl ⟨rfl,h rfl⟩
 |false=>exact .inr rfl
theorem B3M{v w:Vl}:b6 v w=0↔v=w:=by
 obtain⟨a,b,s⟩:=v
 obtain⟨c,d,t⟩:=w
 have h3:=(B28 s t).2.2.1
 unfold b6 or3
 constructor
 ·intro h
  by_cases h1:U6 a c=0
  ·by_cases h2:U6 b d=0
   ·have h4:t6 s t=0:=by
     simp[h1,h2] at h;exact h
    rw[A1P.1 h1,A1P.1 h2,h3.1 h4]
   ·simp[h1,h2] at h
  ·simp[h1] at h
 ·intro h
  cases h
  have h1:U6 a a=0:=A1P.2 rfl
  have h2:U6 b b=0:=A1P.2 rfl
  have h4:t6 s s=0:=h3.2 rfl
  simp[h1,h2,h4]
theorem B29:∀{a b:B4},K0 a b=0↔a=b
 |[],[]=>by simp[K0]
 |[],w::s=>by simp[K0]
 |v::r,[]=>by simp[K0]
 |v::r,w::s=>by
  have ih:=@B29 r s
  rw[K0]
  by_cases h:b6 v w=0
  ·rw[if_pos h,ih,B3M.1 h];simp
  ·rw[if_neg h]
   constructor
   ·intro g;exact absurd g h
   ·intro g;cases g;exact absurd (B3M.2 rfl) h
def X5(w:List (B4×Nat))(x:B4):List (B4×Nat):=match w.getLast? with
 |some p=>if K0 p.1 x=0 then w.dropLast++[(p.1,p.2+1)] else w++[(x,1)]
 |none=>[(x,1)]
def N8(l:List B4):List (B4×Nat):=l.foldl X5 []
abbrev cR(w:List (B4×Nat)):List (List D):=rD (w.map Prod.fst)
abbrev cN(w:List (B4×Nat)):List (List D):=A5 (w.map λp=>(p.2:Int))
theorem B2a(u:List (B4×Nat))(p x:B4)(n:Nat):X5 (u++[(p,n)]) x=if K0 p x=0 then u++[(p,n+1)] else u++[(p,n)]++[(x,1)]:=by
 unfold X5
 rw[List.getLast?_append]
 simp
theorem D8Z{β:Type}{f:β->B4->β}{l:List B4}{i:Nat}{x:B4}(b:β)(h:l[i]?=some x):(l.take (i+1)).foldl f b=f ((l.take i).foldl f b) x:=by
 rw[L5,h,List.foldl_append];rfl
theorem A9b(B:List (List D))(y:List D):(((B++[y]).length:Int)-1).toNat=B.length:=by
 rw[H3];simp
theorem D7Q(w:List (B4×Nat))(x:B4):(cN w++[[D.int .i64 0]]).set ((((cN w++[[D.int .i64 0]]).length:Int)-1).toNat) [D.int .i64 (0+1)]=cN (w++[(x,1)]):=by
 rw[A9b,List.set_append_right _ _ (D4 _),Nat.sub_self]
 simp[cN,A5]
theorem D7P(u:List (B4×Nat))(p:B4)(n:Nat):(cN (u++[(p,n)])).set (((cN (u++[(p,n)])).length:Int)-1).toNat [D.int .i64 ((n:Int)+1)]=cN (u++[(p,n+1)]):=by
 have e:∀m:Nat,cN (u++[(p,m)])=cN u++[[eI m]]:=λm=>by simp[cN,A5]
 rw[e,e,A9b,List.set_append_right _ _ (D4 _),Nat.sub_self]
 simp
theorem B4F(l:List Rw)(hl:l.length<=4294967296)(hr:∀r∈l,r.vs.length<=4294967296)(d:D)(hd:B0 d (B6 l)) :
  ∃d1 d2:D,B0 d1 (cR (N8 (D2 (A8 l))))/\B0 d2 (cN (N8 (D2 (A8 l))))/\Pure Tryz.prog B9W [.d d] (.tup [.d d1,.d d2]):=by
 have hO:=A0D l hl hr d hd
 have hvl:(A8 l).length=l.length:=by unfold A8;rw[D3]
 have hol:=A1m _ (A8 l) (D4 _)
 have hor:∀r∈D2 (A8 l),r.length<=4294967296:=λr h=>by
  obtain⟨x,hx,rfl⟩:=D9.1 (A20 _ _ (D4 _) r h)
  exact hr x hx
 obtain⟨Z,hZ⟩:∃z,z=D2 (A8 l):=⟨_,rfl⟩
 rw[<- hZ] at hO hol hor ⊢
 have l1:=v6 Z
 have m1:=v7 Z
 have g1:=λi v=>@A3i Z i v
 obtain⟨es,hes⟩:∃z,z=rD Z:=⟨_,rfl⟩
 rw[<- hes] at hO l1 m1 g1
 clear hes hZ hd hr
 obtain⟨q,hq⟩:∃q,q=N8 Z:=⟨_,rfl⟩
 rw[<- hq]
 refine⟨Y2 (cR q).isEmpty (cR q),Y2 (cN q).isEmpty (cN q),B3z λe=>A0G.1 e,B3z λe=>A0G.1 e,?_⟩
 refine C9n.go A6 rfl ?_
 repeat' first|refine st ?_|((with_reducible apply A4);conv=>whnf)|refine⟨λ_=>?_,λ_=>?_⟩|fail
 refine T5 5 1 rfl rfl ?_
 refine T5 6 1 rfl rfl ?_
 refine M5 A6 D2S D1x (λ(i:Nat) (w:List (B4×Nat))=>[.arr 0 (cR w).length,.arr 1 (cN w).length,.d (eI i)]) (λi w=>[.arr (cR w) 1 0 (cR w).isEmpty,.arr (cN w) 1 0 (cN w).isEmpty]) (λi w=>i<=Z.length/\w=(Z.take i).foldl X5 []/\((i=0/\w=[])\/∃p u n,0<i/\Z[i-1]?=some p/\w=u++[(p,n)])/\w.length<=i/\(∀p∈w,p.2<=i)) (λi w=>Z.length-i) 0 [] rfl rfl rfl rfl (λ_ _ _=>⟨rfl,rfl⟩) rfl ⟨by omega,rfl,.inl ⟨rfl,rfl⟩,D4 _,λp hp=>absurd hp (by simp)⟩ ?_
 repeat' first|refine st ?_|((with_reducible apply A4);conv=>whnf)|refine⟨λ_=>?_,λ_=>?_⟩|fail
 intro i w ⟨i1,i2,i3,i4,i5⟩
 have hw1:(cR w).length=w.length:=by rw[v6,D3]
 have hw2:(cN w).length=w.length:=by rw[G4,D3]
 have hwm1:∀e∈cR w,e.length=1:=v7 _
 have hwm2:∀e∈cN w,e.length=1:=I0 _
 cases hx:Z[i]? with
 |some x=>
  have hlt:=(B3.1 hx).1
  have hil:(i:Int)<es.length:=by omega
  have e1:es[((i:Nat):Int).toNat]?=some [.sl (B2 x)]:=g1 i x hx
  have hft:=D8Z (f:=X5) [] hx
  rw[<- i2] at hft
  have happ:∀u:List (B4×Nat),cR (u++[(x,1)])=cR u++[[.sl (B2 x)]]:=λu=>by simp[cR,rD]
  have hbd1:((cR w).length+1)*24<=140737488355328:=by omega
  have hbd2:((cN w).length+1)*8<=140737488355328:=by omega
  have hnw:=D7Q w x
  have hap:=happ w
  have hn1:(cR w++[[D.sl (B2 x)]]).isEmpty=false:=by simp
  have hn2:(cN (w++[(x,1)])).isEmpty=false:=by simp[cN,A5]
  have hBl:((cN w++[[D.int .i64 0]]).length:Int)=(cN w).length+1:=by simp
  have hBg:(cN w++[[D.int .i64 0]])[(((cN w++[[D.int .i64 0]]).length:Int)-1).toNat]?=some [D.int .i64 0]:=by rw[A9b];simp
  have hnext:∀p∈w++[(x,1)],p.2<=i+1:=λp hp=>by
   rcases L9.1 hp with hp|hp
   ·exact Nat.le_succ_of_le (i5 p hp)
   ·rw[O4.1 hp];exact Nat.le_add_left 1 i
  rcases i3 with ⟨h0,hwn⟩|⟨p,u,n,h0,hp,hwu⟩
  ·have hft:(Z.take (i+1)).foldl X5 []=w++[(x,1)]:=by rw[hft,hwn];rfl
   have hlast:(i+1=0/\w++[(x,1)]=[])\/∃p u n,0<i+1/\Z[i+1-1]?=some p/\w++[(x,1)]=u++[(p,n)]:=.inr ⟨x,w,1,Nat.succ_pos _,hx,rfl⟩
   obtain⟨A,hA⟩:∃z,z=cR w:=⟨_,rfl⟩
   obtain⟨B,hB⟩:∃z,z=cN w:=⟨_,rfl⟩
   rw[<- hA] at hw1 hwm1 hbd1 hap hn1 ⊢
   rw[<- hB] at hw2 hwm2 hbd2 hnw hBl hBg ⊢
   have hi0:(i:Int)=0:=by omega
   clear i2 hx g1 hA hB happ hwn
   repeat' first|refine st ?_|((with_reducible apply A4);conv=>whnf)|refine⟨λ_=>?_,λ_=>?_⟩|fail
   exact⟨i+1,w++[(x,1)],by rw[hap,<- hnw];simp,rfl,by rw[hap,<- hnw];simp,by omega,by omega,hft.symm,hlast,by simp;omega,hnext⟩
  ·have hi0:¬(i:Int)=0:=by omega
   have e2:es[((i:Int)-1).toNat]?=some [.sl (B2 p)]:=by rw[show((i:Int)-1).toNat=i-1 by omega];exact g1 (i-1) p hp
   have hE:=A6g p x (hor p (C3 hp)) (hor x (C3 hx)) (.sl (B2 p)) (.sl (B2 x)) (.inr rfl) (.inr rfl)
   have hni:n<=i:=i5 (p,n) (by rw[hwu];simp)
   have hwl:u.length+1=w.length:=by rw[hwu];simp
   have hft2:(Z.take (i+1)).foldl X5 []=X5 (u++[(p,n)]) x:=by rw[hft,hwu]
   rw[B2a] at hft2
   have hmore:=D7P u p n
   have hsame:cR (u++[(p,n+1)])=cR w:=by rw[hwu];simp[cR,rD]
   have hBn:(cN w)[(((cN w).length:Int)-1).toNat]?=some [eI n]:=by
    have e:cN w=cN u++[[eI n]]:=by rw[hwu];simp[cN,A5]
    rw[e,A9b];simp
   have hB0:(cN w).isEmpty=false:=by rw[hwu];simp[cN,A5]
   have hB1:(cN (u++[(p,n+1)])).isEmpty=false:=by simp[cN,A5]
   have hnext2:∀z∈u++[(p,n+1)],z.2<=i+1:=λz hz=>by
    rcases L9.1 hz with hz|hz
    ·exact Nat.le_succ_of_le (i5 z (by rw[hwu];simp[hz]))
    ·rw[O4.1 hz];exact Nat.add_le_add_right hni 1
   have hpos:0<w.length:=by omega
   by_cases hc:K0 p x=0
   ·rw[decide_eq_true hc] at hE
    rw[if_pos hc] at hft2
    have hpx:p=x:=B29.1 hc
    have hlast:(i+1=0/\u++[(p,n+1)]=[])\/∃p' u' n',0<i+1/\Z[i+1-1]?=some p'/\u++[(p,n+1)]=u'++[(p',n')]:=.inr ⟨p,u,n+1,Nat.succ_pos _,by rw[hpx];exact hx,rfl⟩
    rw[<- hwu] at hmore
    obtain⟨A,hA⟩:∃z,z=cR w:=⟨_,rfl⟩
    obtain⟨B,hB⟩:∃z,z=cN w:=⟨_,rfl⟩
    rw[<- hA] at hw1 hwm1 hbd1 hsame ⊢
    rw[<- hB] at hw2 hwm2 hbd2 hmore hBn hB0 ⊢
    clear i2 hx g1 hA hB happ hft hnw hap hn1 hn2 hBl hBg hnext hpx hp
    repeat' first|refine st ?_|((with_reducible apply A4);conv=>whnf)|refine⟨λ_=>?_,λ_=>?_⟩|fail
    exact⟨i+1,u++[(p,n+1)],by rw[hsame,<- hmore];simp,rfl,by rw[hsame,<- hmore,hB0];simp;(cases B with|nil=>cases hB0|cons a r=>simp),by omega,by omega,hft2.symm,hlast,by simp;omega,hnext2⟩
   ·rw[decide_eq_false hc] at hE
    rw[if_neg hc,<- hwu] at hft2
    have hlast:(i+1=0/\w++[(x,1)]=[])\/∃p u n,0<i+1/\Z[i+1-1]?=some p/\w++[(x,1)]=u++[(p,n)]:=.inr ⟨x,w,1,Nat.succ_pos _,hx,rfl⟩
    obtain⟨A,hA⟩:∃z,z=cR w:=⟨_,rfl⟩
    obtain⟨B,hB⟩:∃z,z=cN w:=⟨_,rfl⟩
    rw[<- hA] at hw1 hwm1 hbd1 hap hn1 ⊢
    rw[<- hB] at hw2 hwm2 hbd2 hnw hBl hBg ⊢
    clear i2 hx g1 hA hB happ hft hmore hsame hBn hB0 hB1 hnext2 hp hwu
    repeat' first|refine st ?_|((with_reducible apply A4);conv=>whnf)|refine⟨λ_=>?_,λ_=>?_⟩|fail
    exact⟨i+1,w++[(x,1)],by rw[hap,<- hnw];simp,rfl,by rw[hap,<- hnw];simp,by omega,by omega,hft2.symm,hlast,by simp;omega,hnext⟩
 |none=>
  have hge:=F2.1 hx
  have hil:(es.length:Int)<=i:=by omega
  rw[H0 hge] at i2
  have hqw:q=w:=by rw[hq,i2];rfl
  rw[hqw]
  obtain⟨A,hA⟩:∃z,z=cR w:=⟨_,rfl⟩
  obtain⟨B,hB⟩:∃z,z=cN w:=⟨_,rfl⟩
  rw[<- hA] at hw1 hwm1 ⊢
  rw[<- hB] at hw2 hwm2 ⊢
  obtain⟨b1,hb1⟩:∃b,b=A.isEmpty:=⟨_,rfl⟩
  obtain⟨b2,hb2⟩:∃b,b=B.isEmpty:=⟨_,rfl⟩
  rw[<- hb1,<- hb2]
  clear i2 i3 hx g1 hA hB hq hqw hb1 hb2
  cases b1<;>cases b2
  all_goals skip
  all_goals repeat' first|refine st ?_|((with_reducible apply A4);conv=>whnf)|refine⟨λ_=>?_,λ_=>?_⟩|fail
  all_goals rfl
abbrev x7(x:B4)(o:List (B4×Nat)):List (B4×Nat):=o.dropWhile λp=>decide (K0 p.1 x<0)
def hdR(x:B4):List (B4×Nat)->Nat
 |p::_=>if K0 p.1 x=0 then p.2 else 0
 |[]=>0
def V1:List B4->List (B4×Nat)->List Nat
 |[],_=>[]
 |x::r,o=>hdR x (x7 x o)::V1 r (x7 x o)
theorem A9Q:∀(l:List B4)(o:List (B4×Nat)),(V1 l o).length=l.length
 |[],_=>rfl
 |x::r,o=>by rw[V1,H7,A9Q r,H7]
abbrev X7(l:List Nat):List (List D):=A5 (l.map Int.ofNat)
theorem D8f{x:B4}{o:List (B4×Nat)}{k:Nat}{p:B4×Nat}(h:o[k]?=some p):x7 x (o.drop k)=if K0 p.1 x<0 then x7 x (o.drop (k+1)) else o.drop k:=by
 obtain⟨h1,h2⟩:=B3.1 h
 rw[R4 h1,h2]
 show List.dropWhile _ (p::_)=_
 rw[A6j]
 by_cases hc:K0 p.1 x<0
 ·rw[if_pos (decide_eq_true hc),if_pos hc]
 ·rw[if_neg (by rw[decide_eq_false hc];decide),if_neg hc]
theorem D7N{w:List (B4×Nat)}{x:B4}{m:Nat}(h1:w.length<=m)(h2:∀p∈w,p.2<=m):(X5 w x).length<=m+1/\(∀p∈X5 w x,p.2<=m+1)/\∀p∈X5 w x,p.1=x\/∃p'∈w,p'.1=p.1:=by
 unfold X5
 cases hw:w.getLast? with
 |none=>
  refine⟨by simp,λp hp=>?_,λp hp=>?_⟩
  ·rw[O4.1 hp];exact Nat.le_add_left 1 m
  ·rw[O4.1 hp];exact .inl rfl
 |some l=>
  have hl:=List.mem_of_getLast? hw
  dsimp only
  split
  ·refine⟨by rw[H3,List.length_dropLast];simp;omega,λp hp=>?_,λp hp=>?_⟩
   ·rcases L9.1 hp with hp|hp
    ·exact Nat.le_succ_of_le (h2 p (List.dropLast_subset w hp))
    ·rw[O4.1 hp];exact Nat.add_le_add_right (h2 l hl) 1
   ·rcases L9.1 hp with hp|hp
    ·exact .inr ⟨p,List.dropLast_subset w hp,rfl⟩
    ·rw[O4.1 hp];exact .inr ⟨l,hl,rfl⟩
  ·refine⟨by simp;omega,λp hp=>?_,λp hp=>?_⟩
   ·rcases L9.1 hp with hp|hp
    ·exact Nat.le_succ_of_le (h2 p hp)
    ·rw[O4.1 hp];exact Nat.le_add_left 1 m
   ·rcases L9.1 hp with hp|hp
    ·exact .inr ⟨p,hp,rfl⟩
    ·rw[O4.1 hp];exact .inl rfl
theorem C2a:∀(l:List B4)(w:List (B4×Nat))(m:Nat),w.length<=m->(∀p∈w,p.2<=m)->(l.foldl X5 w).length<=m+l.length/\(∀p∈l.foldl X5 w,p.2<=m+l.length)/\∀p∈l.foldl X5 w,p.1∈l\/∃p'∈w,p'.1=p.1
 |[],w,m,h1,h2=>⟨h1,h2,λp hp=>.inr ⟨p,hp,rfl⟩⟩
 |x::r,w,m,h1,h2=>by
  obtain⟨a1,a2,a3⟩:=D7N (x:=x) h1 h2
  obtain⟨b1,b2,b3⟩:=C2a r (X5 w x) (m+1) a1 a2
  rw[A11,H7]
  refine⟨by omega,λp hp=>by have:=b2 p hp;omega,λp hp=>?_⟩
  rcases b3 p hp with h|⟨p',hp',he⟩
  ·exact .inl (I8 _ h)
  ·rcases a3 p' hp' with h|⟨p2,hp2,he2⟩
   ·exact .inl (by rw[<- he,h];simp)
   ·exact .inr ⟨p2,hp2,he2.trans he⟩
theorem A3S(l:List Rw)(hl:l.length<=4294967296)(hr:∀r∈l,r.vs.length<=4294967296):(N8 (D2 (A8 l))).length<=4294967296/\∀p∈N8 (D2 (A8 l)),p.1.length<=4294967296/\p.2<=4294967296:=by
 obtain⟨a1,a2,a3⟩:=C2a (D2 (A8 l)) [] 0 (D4 _) (λp hp=>absurd hp (by simp))
 have hol:=A1m _ (A8 l) (D4 _)
 have hvl:(A8 l).length=l.length:=by unfold A8;rw[D3]
 refine⟨by unfold N8;omega,λp hp=>⟨?_,by have:=a2 p hp;omega⟩⟩
 rcases a3 p hp with h|⟨p',hp',_⟩
 ·obtain⟨x,hx,hxe⟩:=D9.1 (A20 _ _ (D4 _) _ h)
  rw[<- hxe];exact hr x hx
 ·exact absurd hp' (by simp)
theorem B4H(a b:List Rw)(ha:a.length<=4294967296)(hb:b.length<=4294967296)(har:∀r∈a,r.vs.length<=4294967296)(hbr:∀r∈b,r.vs.length<=4294967296)(da db:D)(hda:B0 da (B6 a))(hdb:B0 db (B6 b)) :
  ∃d1 d2 d3:D,B0 d1 (cR (N8 (D2 (A8 a))))/\B0 d2 (cN (N8 (D2 (A8 a))))/\B0 d3 (X7 (V1 ((N8 (D2 (A8 a))).map Prod.fst) (N8 (D2 (A8 b)))))/\
   Pure Tryz.prog B9Y [.d da,.d db] (.tup [.d d1,.d d2,.d d3]):=by
 obtain⟨d1,d2,k1,k2,hA⟩:=B4F a ha har da hda
 obtain⟨d4,d5,k4,k5,hB⟩:=B4F b hb hbr db hdb
 have hal:=(A3S a ha har).1
 have hbl:=(A3S b hb hbr).1
 have har':=λp hp=>((A3S a ha har).2 p hp).1
 have hbr':=λp hp=>((A3S b hb hbr).2 p hp).1
 obtain⟨P,hP⟩:∃z,z=N8 (D2 (A8 a)):=⟨_,rfl⟩
 obtain⟨O,hO⟩:∃z,z=N8 (D2 (A8 b)):=⟨_,rfl⟩
 rw[<- hP] at k1 k2 hal har' ⊢
 rw[<- hO] at k4 k5 hbl hbr' ⊢
 clear hP hO hda hdb
 obtain⟨q,hq⟩:∃z,z=V1 (P.map Prod.fst) O:=⟨_,rfl⟩
 rw[<- hq]
 have hql:q.length=P.length:=by rw[hq,A9Q,D3]
 refine⟨d1,d2,Y2 (X7 q).isEmpty (X7 q),k1,k2,B3z λe=>A0G.1 e,?_⟩
 have l1:(cR P).length=P.length:=by rw[v6,D3]
 have l4:(cR O).length=O.length:=by rw[v6,D3]
 have l5:(cN O).length=O.length:=by rw[G4,D3]
 have m1:∀e∈cR P,e.length=1:=v7 _
 have m4:∀e∈cR O,e.length=1:=v7 _
 have m5:∀e∈cN O,e.length=1:=I0 _
 have g1:∀(i:Nat) p,P[i]?=some p->(cR P)[i]?=some [.sl (B2 p.1)]:=λi p h=>A3i (by rw[I7,h];rfl)
 have g4:∀(i:Nat) p,O[i]?=some p->(cR O)[i]?=some [.sl (B2 p.1)]:=λi p h=>A3i (by rw[I7,h];rfl)
 have g5:∀(i:Nat) p,O[i]?=some p->(cN O)[i]?=some [eI (p.2:Nat)]:=λi p h=>Q1 (by rw[I7,h];rfl)
 obtain⟨E1,hE1⟩:∃z,z=cR P:=⟨_,rfl⟩
 obtain⟨E4,hE4⟩:∃z,z=cR O:=⟨_,rfl⟩
 obtain⟨E5,hE5⟩:∃z,z=cN O:=⟨_,rfl⟩
 rw[<- hE1] at k1 l1 m1 g1
 rw[<- hE4] at k4 l4 m4 g4
 rw[<- hE5] at k5 l5 m5 g5
 clear hE1 hE4 hE5 k2
 refine C9r.go A6 rfl ?_
 repeat' first|refine st ?_|((with_reducible apply A4);conv=>whnf)|refine⟨λ_=>?_,λ_=>?_⟩|fail
 refine T5 11 1 rfl rfl ?_
 refine A6b A6 D2X D1C (λ(i k:Nat) (w:List Nat)=>[.arr 0 (X7 w).length,.d (eI k),.d (eI i)]) (λi k w=>[.arr (X7 w) 1 0 (X7 w).isEmpty]) (λi k w=>i<=P.length/\k<=O.length/\w.length=i/\q=w++V1 ((P.drop i).map Prod.fst) (O.drop k)) (λi k w=>P.length-i) 0 0 [] rfl rfl rfl rfl (λ_ _ _ _=>⟨rfl,rfl⟩) rfl ⟨by omega,by omega,rfl,hq⟩ ?_
 repeat' first|refine st ?_|((with_reducible apply A4);conv=>whnf)|refine⟨λ_=>?_,λ_=>?_⟩|fail
 intro i k w ⟨i1,i2,i3,i4⟩
 clear hq
 have hw1:(X7 w).length=w.length:=by rw[G4,D3]
 have hwm:∀e∈X7 w,e.length=1:=I0 _
 have hbd:((X7 w).length+1)*8<=140737488355328:=by omega
 have happ:=λn:Nat=>show X7 (w++[n])=X7 w++[[eI (n:Nat)]] by simp[X7,A5]
 have hne:=λn:Nat=>show(X7 (w++[n])).isEmpty=false by simp[X7,A5]
 obtain⟨A,hA'⟩:∃z,z=X7 w:=⟨_,rfl⟩
 rw[<- hA'] at hw1 hwm hbd ⊢
 cases hx:P[i]? with
 |some p=>
  have hlt:=(B3.1 hx).1
  have hil:(i:Int)<E1.length:=by omega
  have e1:E1[((i:Nat):Int).toNat]?=some [.sl (B2 p.1)]:=g1 i p hx
  have dx:(P.drop i).map Prod.fst=p.1::(P.drop (i+1)).map Prod.fst:=by rw[R4 hlt,(B3.1 hx).2];rfl
  rw[dx,V1] at i4
  have hpr:=har' p (C3 hx)
  repeat' first|refine st ?_|((with_reducible apply A4);conv=>whnf)|refine⟨λ_=>?_,λ_=>?_⟩|fail
  refine J5 A6 D2W D1B (λ(j:Nat)=>[.d (eI j)]) (λj=>[.arr A 1 0 A.isEmpty]) (λj=>j<=O.length/\x7 p.1 (O.drop k)=x7 p.1 (O.drop j)) (λj=>O.length-j) k rfl rfl rfl rfl (λ_ _=>⟨rfl,rfl⟩) rfl ⟨i2,rfl⟩ ?_
  repeat' first|refine st ?_|((with_reducible apply A4);conv=>whnf)|refine⟨λ_=>?_,λ_=>?_⟩|fail
  intro j ⟨j1,j2⟩
  cases hy:O[j]? with
  |some o=>
   have hlt2:=(B3.1 hy).1
   have hjl:(j:Int)<E4.length:=by omega
   have hjl5:(j:Int)<E5.length:=by omega
   have e4:E4[((j:Nat):Int).toNat]?=some [.sl (B2 o.1)]:=g4 j o hy
   have e5:E5[((j:Nat):Int).toNat]?=some [eI (o.2:Nat)]:=g5 j o hy
   have hC:=A8j o.1 p.1 (hbr' o (C3 hy)) hpr (.sl (B2 o.1)) (.sl (B2 p.1)) (.inr rfl) (.inr rfl)
   have hEq:=A6g o.1 p.1 (hbr' o (C3 hy)) hpr (.sl (B2 o.1)) (.sl (B2 p.1)) (.inr rfl) (.inr rfl)
   have hdw:=D8f (x:=p.1) hy
   have hdo:O.drop j=o::O.drop (j+1):=by rw[R4 hlt2,(B3.1 hy).2]
   obtain⟨c,hc⟩:∃c,c=K0 o.1 p.1:=⟨_,rfl⟩
   rw[<- hc] at hC hEq hdw
   by_cases hc0:c<0
   ·rw[if_pos hc0] at hdw
    clear hx hy g1 g4 g5 happ hne i4 har' hbr' hEq
    repeat' first|refine st ?_|((with_reducible apply A4);conv=>whnf)|refine⟨λ_=>?_,λ_=>?_⟩|fail
    exact⟨j+1,rfl,rfl,rfl,by omega,by omega,j2.trans hdw⟩
   ·rw[if_neg hc0] at hdw
    rw[j2,hdw] at i4
    by_cases hc1:c=0
    ·rw[decide_eq_true hc1] at hEq
     have i5:q=(w++[o.2])++V1 ((P.drop (i+1)).map Prod.fst) (O.drop j):=by
      rw[i4,hdo]
      show w++(hdR p.1 (o::O.drop (j+1))::_)=_
      rw[hdR,if_pos (hc.symm.trans hc1),S6];rfl
     have happ:=happ o.2
     have hne:=hne o.2
     rw[<- hA'] at happ
     clear hx hy g1 g4 g5 i4 har' hbr' hdo
     repeat' first|refine st ?_|((with_reducible apply A4);conv=>whnf)|refine⟨λ_=>?_,λ_=>?_⟩|fail
     exact⟨i+1,j,w++[o.2],by rw[happ];simp,rfl,by rw[hne,happ];simp,by omega,by omega,by omega,by simp;omega,i5⟩
    ·rw[decide_eq_false hc1] at hEq
     have i5:q=(w++[0])++V1 ((P.drop (i+1)).map Prod.fst) (O.drop j):=by
      rw[i4,hdo]
      show w++(hdR p.1 (o::O.drop (j+1))::_)=_
      rw[hdR,if_neg (λh=>hc1 (hc.trans h)),S6];rfl
     have happ:=happ 0
     have hne:=hne 0
     rw[<- hA'] at happ
     clear hx hy g1 g4 g5 i4 har' hbr' hdo
     repeat' first|refine st ?_|((with_reducible apply A4);conv=>whnf)|refine⟨λ_=>?_,λ_=>?_⟩|fail
     exact⟨i+1,j,w++[0],by rw[happ];simp,rfl,by rw[hne,happ];simp,by omega,by omega,by omega,by simp;omega,i5⟩
  |none=>
   have hge:=F2.1 hy
   have hjl:(E4.length:Int)<=j:=by omega
   rw[j2,R5 hge] at i4
   have i5:q=(w++[0])++V1 ((P.drop (i+1)).map Prod.fst) (O.drop j):=by
    rw[i4,R5 hge,S6];rfl
   have happ:=happ 0
   have hne:=hne 0
   rw[<- hA'] at happ
   clear hx hy g1 g4 g5 i4 har' hbr'
   repeat' first|refine st ?_|((with_reducible apply A4);conv=>whnf)|refine⟨λ_=>?_,λ_=>?_⟩|fail
   exact⟨i+1,j,w++[0],by rw[happ];simp,rfl,by rw[hne,happ];simp,by omega,by omega,by omega,by simp;omega,i5⟩
 |none=>
  have hge:=F2.1 hx
  have hil:(E1.length:Int)<=i:=by omega
  rw[R5 hge] at i4
  have hqw:q=w:=by rw[i4];simp[V1]
  rw[hqw,<- hA']
  obtain⟨b1,hb1⟩:∃b,b=A.isEmpty:=⟨_,rfl⟩
  rw[<- hb1]
  clear i4 hx g1 g4 g5 hqw hb1 happ hne
  cases b1
  all_goals skip
  all_goals repeat' first|refine st ?_|((with_reducible apply A4);conv=>whnf)|refine⟨λ_=>?_,λ_=>?_⟩|fail
  all_goals rfl
def Z9(w:List (B4×Nat)):Nat:=(w.map Prod.snd).sum
theorem E1Z(w:List (B4×Nat))(x:B4):Z9 (X5 w x)=Z9 w+1:=by
 unfold X5
 cases hw:w.getLast? with
 |none=>
  have:w=[]:=by cases w with
   |nil=>rfl
   |cons a r=>simp at hw
  rw[this];rfl
 |some l=>
  obtain⟨ys,hys⟩:=List.getLast?_eq_some_iff.1 hw
  have he:w.dropLast++[l]=w:=by rw[hys];simp
  dsimp only
  split
  ·have:Z9 w=Z9 (w.dropLast++[l]):=by rw[he]
   rw[this];simp[Z9];omega
  ·simp[Z9]
theorem B3A:∀(l:List B4)(w:List (B4×Nat)),Z9 (l.foldl X5 w)=Z9 w+l.length
 |[],w=>rfl
 |x::r,w=>by rw[A11,B3A r,E1Z,H7];omega
theorem C4W(l:List Rw):Z9 (N8 (D2 (A8 l)))=l.length:=by
 unfold N8
 rw[B3A,A1m _ _ (D4 _)]
 unfold A8
 rw[D3]
 simp[Z9]
def X2(f:Nat->Nat->Int):List (B4×Nat)->List Nat->List B4
 |p::r,m::ms=>List.replicate (f p.2 m).toNat p.1++X2 f r ms
 |_,_=>[]
theorem B00(f:Nat->Nat->Int)(hf:∀n m,(f n m).toNat<=n):∀(w:List (B4×Nat))(ms:List Nat),(X2 f w ms).length<=Z9 w
 |[],ms=>by simp[X2]
 |p::r,[]=>by simp[X2]
 |p::r,m::ms=>by
  have h1:=B00 f hf r ms
  have h2:=hf p.2 m
  simp only[X2,H3,A1E,Z9,G5,List.sum_cons] at *
  omega
theorem C4z{f:Nat->Nat->Int}{w:List (B4×Nat)}{ms:List Nat}{i:Nat}{p:B4×Nat}{m:Nat}(h:w[i]?=some p)(g:ms[i]?=some m):X2 f (w.drop i) (ms.drop i)=List.replicate (f p.2 m).toNat p.1++X2 f (w.drop (i+1)) (ms.drop (i+1)):=by
 obtain⟨h1,h2⟩:=B3.1 h
 obtain⟨g1,g2⟩:=B3.1 g
 rw[R4 h1,R4 g1,h2,g2]
 rfl
theorem A9W(n:Nat)(r:B4):rD (List.replicate n r)=List.replicate n [.sl (B2 r)]:=by simp[rD]
def X9(n m:Nat):Int:=(n:Int)-m
def W5(n m:Nat):Int:=min (n:Int) m
abbrev I3(f:Nat->Nat->Int)(a b:List B4):List B4:=X2 f (N8 (D2 a)) (V1 ((N8 (D2 a)).map Prod.fst) (N8 (D2 b)))
theorem C7b(dk dk':D)(a b:List Rw)(ha:a.length<=4294967296)(hb:b.length<=4294967296)(har:∀r∈a,r.vs.length<=4294967296)(hbr:∀r∈b,r.vs.length<=4294967296)(da db:D)(hda:B0 da (B6 a))(hdb:B0 db (B6 b)) :
  Pure Tryz.prog B9J [O5 dk da,O5 dk' db] (O5 dk (Y2 (rD (I3 X9 (A8 a) (A8 b))).isEmpty (rD (I3 X9 (A8 a) (A8 b))))):=by
 obtain⟨d1,d2,d3,k1,k2,k3,hP⟩:=B4H a b ha hb har hbr da db hda hdb
 have hbd:=A3S a ha har
 have hRl:(I3 X9 (A8 a) (A8 b)).length<=4294967296:=J2 (B00 X9 (λn m=>by unfold X9;omega) _ _) (by rw[C4W];exact ha)
 obtain⟨R,hR⟩:∃z,z=I3 X9 (A8 a) (A8 b):=⟨_,rfl⟩
 rw[<- hR] at hRl ⊢
 unfold I3 at hR
 have hql:=A9Q ((N8 (D2 (A8 a))).map Prod.fst) (N8 (D2 (A8 b)))
 obtain⟨Q,hQ⟩:∃z,z=V1 ((N8 (D2 (A8 a))).map Prod.fst) (N8 (D2 (A8 b))):=⟨_,rfl⟩
 rw[<- hQ] at hR k3 hql
 have hmb:∀m∈Q,m<=4294967296:=by
  rw[hQ]
  have hob:=(A3S b hb hbr).2
  have key:∀(l:List B4) (o:List (B4×Nat)),(∀p∈o,p.2<=4294967296)->∀m∈V1 l o,m<=4294967296:=by
   intro l
   induction l with
   |nil=>intro o _ m hm;cases hm
   |cons x r ih=>
    intro o ho m hm
    have hd:∀p∈x7 x o,p.2<=4294967296:=λp hp=>ho p ((A53 _).subset hp)
    rw[V1] at hm
    rcases I2.1 hm with rfl|hm
    ·cases hh:x7 x o with
     |nil=>exact K1 _
     |cons p s=>
      rw[hdR]
      split
      ·exact hd p (by rw[hh];simp)
      ·exact K1 _
    ·exact ih _ hd m hm
  exact key _ _ λp hp=>(hob p hp).2
 obtain⟨P,hPP⟩:∃z,z=N8 (D2 (A8 a)):=⟨_,rfl⟩
 rw[<- hPP] at hR k1 k2 hql hbd
 rw[D3] at hql
 clear hPP hQ hda hdb
 have l1:(cR P).length=P.length:=by rw[v6,D3]
 have l2:(cN P).length=P.length:=by rw[G4,D3]
 have l3:(X7 Q).length=P.length:=by rw[G4,D3,hql]
 have m1:∀e∈cR P,e.length=1:=v7 _
 have m2:∀e∈cN P,e.length=1:=I0 _
 have m3:∀e∈X7 Q,e.length=1:=I0 _
 have g1:∀(i:Nat) p,P[i]?=some p->(cR P)[i]?=some [.sl (B2 p.1)]:=λi p h=>A3i (by rw[I7,h];rfl)
 have g2:∀(i:Nat) p,P[i]?=some p->(cN P)[i]?=some [eI (p.2:Nat)]:=λi p h=>Q1 (by rw[I7,h];rfl)
 have g3:∀(i:Nat) m,Q[i]?=some m->(X7 Q)[i]?=some [eI (m:Nat)]:=λi m h=>Q1 (by rw[I7,h];rfl)
 obtain⟨E1,hE1⟩:∃z,z=cR P:=⟨_,rfl⟩
 obtain⟨E2,hE2⟩:∃z,z=cN P:=⟨_,rfl⟩
 obtain⟨E3,hE3⟩:∃z,z=X7 Q:=⟨_,rfl⟩
 rw[<- hE1] at k1 l1 m1 g1
 rw[<- hE2] at k2 l2 m2 g2
 rw[<- hE3] at k3 l3 m3 g3
 clear hE1 hE2 hE3
 have hPl:=hbd.1
 refine C9b.go A6 rfl ?_
 repeat' first|refine st ?_|((with_reducible apply A4);conv=>whnf)|refine⟨λ_=>?_,λ_=>?_⟩|fail
 refine A2d 3 1 1 rfl rfl rfl ?_
 refine M5 A6 D2D D1i (λ(i:Nat) (w:List B4)=>[.d (eI i)]) (λi w=>[.cells [.d dk,.d da],.cells [.d dk',.d db],.cells [.d .nil,.d .nil],.cells [.d dk,.arr 4 (rD w).length],.arr (rD w) 1 0 (rD w).isEmpty]) (λi w=>i<=P.length/\R=w++X2 X9 (P.drop i) (Q.drop i)) (λi w=>P.length-i) 0 [] rfl rfl rfl rfl (λ_ _ _=>⟨rfl,rfl⟩) rfl ⟨by omega,hR⟩ ?_
 repeat' first|refine st ?_|((with_reducible apply A4);conv=>whnf)|refine⟨λ_=>?_,λ_=>?_⟩|fail
 intro i w ⟨i1,i2⟩
 clear hR
 have hwm:=v7 w
 have hw1:=v6 w
 cases hx:P[i]? with
 |some p=>
  have hlt:=(B3.1 hx).1
  have hil:(i:Int)<E1.length:=by omega
  have hil2:(i:Int)<E2.length:=by omega
  have hil3:(i:Int)<E3.length:=by omega
  obtain⟨m,hm⟩:∃m,Q[i]?=some m:=⟨_,F1 (by omega)⟩
  have e1:E1[((i:Nat):Int).toNat]?=some [.sl (B2 p.1)]:=g1 i p hx
  have e2:E2[((i:Nat):Int).toNat]?=some [eI (p.2:Nat)]:=g2 i p hx
  have e3:E3[((i:Nat):Int).toNat]?=some [eI (m:Nat)]:=g3 i m hm
  have hn:=(hbd.2 p (C3 hx)).2
  have hmm:=hmb m (C3 hm)
  rw[C4z hx hm,<- S6] at i2
  have hlen:(rD w).length+(X9 p.2 m).toNat<=4294967296:=by
   have:=congrArg List.length i2
   rw[H3,H3,A1E] at this
   omega
  have hRep:=B4I (rD w) hwm (rD w).isEmpty (.sl (B2 p.1)) (X9 p.2 m) hlen
  have hap:rD w++List.replicate (X9 p.2 m).toNat [.sl (B2 p.1)]=rD (w++List.replicate (X9 p.2 m).toNat p.1):=by rw[A2E,A9W]
  have hnl:((rD w).isEmpty&&decide (X9 p.2 m<=0))=(rD (w++List.replicate (X9 p.2 m).toNat p.1)).isEmpty:=by
   rw[A2E,A9W]
   cases rD w with
   |cons z zs=>rfl
   |nil=>
    by_cases h0:X9 p.2 m<=0
    ·rw[decide_eq_true h0,show(X9 p.2 m).toNat=0 by omega];rfl
    ·rw[decide_eq_false h0]
     obtain⟨z,hz⟩:∃z,(X9 p.2 m).toNat=z+1:=⟨(X9 p.2 m).toNat-1,by omega⟩
     rw[hz];rfl
  rw[hap,hnl] at hRep
  unfold X9 at hRep hap hnl i2
  obtain⟨A,hA⟩:∃z,z=rD w:=⟨_,rfl⟩
  rw[<- hA] at hRep hw1 hwm ⊢
  obtain⟨n,hn'⟩:∃n,n=p.2:=⟨_,rfl⟩
  rw[<- hn'] at hRep e2 hn i2
  obtain⟨W,hW⟩:∃z,z=w++List.replicate ((n:Int)-m:Int).toNat p.1:=⟨_,rfl⟩
  rw[<- hW] at hRep i2
  clear hap hnl hx hm g1 g2 g3 hbd hmb hW hn'
  repeat' first|refine st ?_|((with_reducible apply A4);conv=>whnf)|refine⟨λ_=>?_,λ_=>?_⟩|fail
  exact⟨i+1,W,rfl,rfl,rfl,by omega,by omega,i2⟩
 |none=>
  have hge:=F2.1 hx
  have hil:(E1.length:Int)<=i:=by omega
  rw[R5 hge] at i2
  have hRw:R=w:=by rw[i2];simp[X2]
  rw[hRw]
  obtain⟨A,hA⟩:∃z,z=rD w:=⟨_,rfl⟩
  rw[<- hA] at hw1 hwm ⊢
  obtain⟨b1,hb1⟩:∃b,b=A.isEmpty:=⟨_,rfl⟩
  rw[<- hb1]
  clear i2 hx g1 g2 g3 hRw hb1 hA
  cases b1
  all_goals skip
  all_goals repeat' first|refine st ?_|((with_reducible apply A4);conv=>whnf)|refine⟨λ_=>?_,λ_=>?_⟩|fail
  all_goals rfl
theorem C7e(dk dk':D)(a b:List Rw)(ha:a.length<=4294967296)(hb:b.length<=4294967296)(har:∀r∈a,r.vs.length<=4294967296)(hbr:∀r∈b,r.vs.length<=4294967296)(da db:D)(hda:B0 da (B6 a))(hdb:B0 db (B6 b)) :
  Pure Tryz.prog B9N [O5 dk da,O5 dk' db] (O5 dk (Y2 (rD (I3 W5 (A8 a) (A8 b))).isEmpty (rD (I3 W5 (A8 a) (A8 b))))):=by
 obtain⟨d1,d2,d3,k1,k2,k3,hP⟩:=B4H a b ha hb har hbr da db hda hdb
 have hbd:=A3S a ha har
 have hRl:(I3 W5 (A8 a) (A8 b)).length<=4294967296:=J2 (B00 W5 (λn m=>by unfold W5;omega) _ _) (by rw[C4W];exact ha)
 obtain⟨R,hR⟩:∃z,z=I3 W5 (A8 a) (A8 b):=⟨_,rfl⟩
 rw[<- hR] at hRl ⊢
 unfold I3 at hR
 have hql:=A9Q ((N8 (D2 (A8 a))).map Prod.fst) (N8 (D2 (A8 b)))
 obtain⟨Q,hQ⟩:∃z,z=V1 ((N8 (D2 (A8 a))).map Prod.fst) (N8 (D2 (A8 b))):=⟨_,rfl⟩
 rw[<- hQ] at hR k3 hql
 have hmb:∀m∈Q,m<=4294967296:=by
  rw[hQ]
  have hob:=(A3S b hb hbr).2
  have key:∀(l:List B4) (o:List (B4×Nat)),(∀p∈o,p.2<=4294967296)->∀m∈V1 l o,m<=4294967296:=by
   intro l
   induction l with
   |nil=>intro o _ m hm;cases hm
   |cons x r ih=>
    intro o ho m hm
    have hd:∀p∈x7 x o,p.2<=4294967296:=λp hp=>ho p ((A53 _).subset hp)
    rw[V1] at hm
    rcases I2.1 hm with rfl|hm
    ·cases hh:x7 x o with
     |nil=>exact K1 _
     |cons p s=>
      rw[hdR]
      split
      ·exact hd p (by rw[hh];simp)
      ·exact K1 _
    ·exact ih _ hd m hm
  exact key _ _ λp hp=>(hob p hp).2
 obtain⟨P,hPP⟩:∃z,z=N8 (D2 (A8 a)):=⟨_,rfl⟩
 rw[<- hPP] at hR k1 k2 hql hbd
 rw[D3] at hql
 clear hPP hQ hda hdb
 have l1:(cR P).length=P.length:=by rw[v6,D3]
 have l2:(cN P).length=P.length:=by rw[G4,D3]
 have l3:(X7 Q).length=P.length:=by rw[G4,D3,hql]
 have m1:∀e∈cR P,e.length=1:=v7 _
 have m2:∀e∈cN P,e.length=1:=I0 _
 have m3:∀e∈X7 Q,e.length=1:=I0 _
 have g1:∀(i:Nat) p,P[i]?=some p->(cR P)[i]?=some [.sl (B2 p.1)]:=λi p h=>A3i (by rw[I7,h];rfl)
 have g2:∀(i:Nat) p,P[i]?=some p->(cN P)[i]?=some [eI (p.2:Nat)]:=λi p h=>Q1 (by rw[I7,h];rfl)
 have g3:∀(i:Nat) m,Q[i]?=some m->(X7 Q)[i]?=some [eI (m:Nat)]:=λi m h=>Q1 (by rw[I7,h];rfl)
 obtain⟨E1,hE1⟩:∃z,z=cR P:=⟨_,rfl⟩
 obtain⟨E2,hE2⟩:∃z,z=cN P:=⟨_,rfl⟩
 obtain⟨E3,hE3⟩:∃z,z=X7 Q:=⟨_,rfl⟩
 rw[<- hE1] at k1 l1 m1 g1
 rw[<- hE2] at k2 l2 m2 g2
 rw[<- hE3] at k3 l3 m3 g3
 clear hE1 hE2 hE3
 have hPl:=hbd.1
 refine C9f.go A6 rfl ?_
 repeat' first|refine st ?_|((with_reducible apply A4);conv=>whnf)|refine⟨λ_=>?_,λ_=>?_⟩|fail
 refine A2d 3 1 1 rfl rfl rfl ?_
 refine M5 A6 D2J D1o (λ(i:Nat) (w:List B4)=>[.d (eI i)]) (λi w=>[.cells [.d dk,.d da],.cells [.d dk',.d db],.cells [.d .nil,.d .nil],.cells [.d dk,.arr 4 (rD w).length],.arr (rD w) 1 0 (rD w).isEmpty]) (λi w=>i<=P.length/\R=w++X2 W5 (P.drop i) (Q.drop i)) (λi w=>P.length-i) 0 [] rfl rfl rfl rfl (λ_ _ _=>⟨rfl,rfl⟩) rfl ⟨by omega,hR⟩ ?_
 repeat' first|refine st ?_|((with_reducible apply A4);conv=>whnf)|refine⟨λ_=>?_,λ_=>?_⟩|fail
 intro i w ⟨i1,i2⟩
 clear hR
 have hwm:=v7 w
 have hw1:=v6 w
 cases hx:P[i]? with
 |some p=>
  have hlt:=(B3.1 hx).1
  have hil:(i:Int)<E1.length:=by omega
  have hil2:(i:Int)<E2.length:=by omega
  have hil3:(i:Int)<E3.length:=by omega
  obtain⟨m,hm⟩:∃m,Q[i]?=some m:=⟨_,F1 (by omega)⟩
  have e1:E1[((i:Nat):Int).toNat]?=some [.sl (B2 p.1)]:=g1 i p hx
  have e2:E2[((i:Nat):Int).toNat]?=some [eI (p.2:Nat)]:=g2 i p hx
  have e3:E3[((i:Nat):Int).toNat]?=some [eI (m:Nat)]:=g3 i m hm
  have hn:=(hbd.2 p (C3 hx)).2
  have hmm:=hmb m (C3 hm)
  rw[C4z hx hm,<- S6] at i2
  have hlen:(rD w).length+(W5 p.2 m).toNat<=4294967296:=by
   have:=congrArg List.length i2
   rw[H3,H3,A1E] at this
   omega
  have hRep:=B4I (rD w) hwm (rD w).isEmpty (.sl (B2 p.1)) (W5 p.2 m) hlen
  have hap:rD w++List.replicate (W5 p.2 m).toNat [.sl (B2 p.1)]=rD (w++List.replicate (W5 p.2 m).toNat p.1):=by rw[A2E,A9W]
  have hnl:((rD w).isEmpty&&decide (W5 p.2 m<=0))=(rD (w++List.replicate (W5 p.2 m).toNat p.1)).isEmpty:=by
   rw[A2E,A9W]
   cases rD w with
   |cons z zs=>rfl
   |nil=>
    by_cases h0:W5 p.2 m<=0
    ·rw[decide_eq_true h0,show(W5 p.2 m).toNat=0 by omega];rfl
    ·rw[decide_eq_false h0]
     obtain⟨z,hz⟩:∃z,(W5 p.2 m).toNat=z+1:=⟨(W5 p.2 m).toNat-1,by omega⟩
     rw[hz];rfl
  rw[hap,hnl] at hRep
  unfold W5 at hRep hap hnl i2
  obtain⟨A,hA⟩:∃z,z=rD w:=⟨_,rfl⟩
  rw[<- hA] at hRep hw1 hwm ⊢
  obtain⟨n,hn'⟩:∃n,n=p.2:=⟨_,rfl⟩
  rw[<- hn'] at hRep e2 hn i2
  obtain⟨W,hW⟩:∃z,z=w++List.replicate (min (n:Int) m:Int).toNat p.1:=⟨_,rfl⟩
  rw[<- hW] at hRep i2
  clear hap hnl hx hm g1 g2 g3 hbd hmb hW hn'
  repeat' first|refine st ?_|((with_reducible apply A4);conv=>whnf)|refine⟨λ_=>?_,λ_=>?_⟩|fail
  exact⟨i+1,W,rfl,rfl,rfl,by omega,by omega,i2⟩
 |none=>
  have hge:=F2.1 hx
  have hil:(E1.length:Int)<=i:=by omega
  rw[R5 hge] at i2
  have hRw:R=w:=by rw[i2];simp[X2]
  rw[hRw]
  obtain⟨A,hA⟩:∃z,z=rD w:=⟨_,rfl⟩
  rw[<- hA] at hw1 hwm ⊢
  obtain⟨b1,hb1⟩:∃b,b=A.isEmpty:=⟨_,rfl⟩
  rw[<- hb1]
  clear i2 hx g1 g2 g3 hRw hb1 hA
  cases b1
  all_goals skip
  all_goals repeat' first|refine st ?_|((with_reducible apply A4);conv=>whnf)|refine⟨λ_=>?_,λ_=>?_⟩|fail
  all_goals rfl
end Go.Proofs
end
section
namespace Go.Bi
open Go
section
variable {P:Program}{n nb:Nat}{M:D6}{G:Gh}{os:List AO}{w:World}{ρ:D7}{a:Act}
end
end Go.Bi
end
section
namespace Go.Proofs
open Go.Bi
theorem A9J{A:List (List D)}{b:Bool}(h:b=A.isEmpty):B0 (if b then .nil else .sl A) A:=by
 subst h
 cases A with
 |nil=>exact .inl ⟨rfl,rfl⟩
 |cons a r=>exact .inr rfl
theorem C79(dk:D)(l:List Rw)(hl:l.length<=4294967296)(hr:∀r∈l,r.vs.length<=4294967296)(dr:D)(hd:B0 dr (B6 l)) :
  Pure Tryz.prog B9I [O5 dk dr] (O5 dk (.sl (rD (P4 none (D2 (A8 l)))))):=by
 have h:=C7B l hl hr dr hd
 obtain⟨Z,hZ⟩:∃z,z=rD (P4 none (D2 (A8 l))):=⟨_,rfl⟩
 rw[<- hZ] at h ⊢
 refine C9a.go A6 rfl ?_
 repeat' first|refine st ?_|((with_reducible apply A4);conv=>whnf)|refine⟨λ_=>?_,λ_=>?_⟩|fail
 all_goals rfl
theorem C7C(n:Nat)(hn:n<=4096):Pure Tryz.prog B1k [.d (eI n)] (.d (.sl (B2 (List.replicate n C5)))):=by
 have hN:=S2
 refine C8H.go A6 rfl ?_
 repeat' first|refine st ?_|((with_reducible apply A4);conv=>whnf)|refine⟨λ_=>?_,λ_=>?_⟩|fail
 refine M5 A6 D2l D10 (λ(i:Nat) (w:List (List D))=>[.arr 0 w.length,.d (eI i)]) (λi w=>[.arr w 3 0 false]) (λi w=>i<=n/\w=B2 (List.replicate i C5)) (λi w=>n-i) 0 [] rfl rfl rfl rfl (λ_ _ _=>⟨rfl,rfl⟩) rfl ⟨K1 _,rfl⟩ ?_
 repeat' first|refine st ?_|((with_reducible apply A4);conv=>whnf)|refine⟨λ_=>?_,λ_=>?_⟩|fail
 intro i w ⟨i1,i2⟩
 have hwl:w.length=i:=by rw[i2,Q2,A1E]
 have hwm:∀e∈w,e.length=3:=by rw[i2];exact Q3 _
 have hbd:(w.length+1)*32<=140737488355328:=by omega
 have hn2:(n:Int)<=4096:=by omega
 by_cases h:i<n
 ·have hil:(i:Int)<n:=by omega
  have i3:w++[C5.ds]=B2 (List.replicate (i+1) C5):=by rw[i2,List.replicate_succ'];simp[B2]
  clear i2
  repeat' first|refine st ?_|((with_reducible apply A4);conv=>whnf)|refine⟨λ_=>?_,λ_=>?_⟩|fail
  refine⟨i+1,w++[C5.ds],?_,rfl,?_,by omega,by omega,i3⟩
  ·simp
  ·first|rfl|simp
 ·have hil:¬(i:Int)<n:=by omega
  have hin:i=n:=by omega
  rw[<- hin,<- i2]
  clear i2
  repeat' first|refine st ?_|((with_reducible apply A4);conv=>whnf)|refine⟨λ_=>?_,λ_=>?_⟩|fail
  all_goals rfl
theorem B4G(a b:List Int)(hab:a.length+b.length<=4294967296)(da db:D)(hda:B0 da (A5 a))(hdb:B0 db (A5 b)) :
  Pure Tryz.prog B9X [.d da,.d db] (.d (Y2 (A5 (a++b)).isEmpty (A5 (a++b)))):=by
 have l1:=G4 a
 have l2:=G4 b
 have m1:=I0 a
 have m2:=I0 b
 have e:A5 (a++b)=A5 a++A5 b:=by simp[A5]
 rw[e]
 obtain⟨es,hes⟩:∃z,z=A5 a:=⟨_,rfl⟩
 obtain⟨fs,hfs⟩:∃z,z=A5 b:=⟨_,rfl⟩
 rw[<- hes] at hda l1 m1 ⊢
 rw[<- hfs] at hdb l2 m2 ⊢
 clear hes hfs e
 have b1:es.length*8<=140737488355328/\es.length<=9223372036854775807:=by omega
 have b2:(es.length+fs.length)*8<=140737488355328/\es.length+fs.length<=9223372036854775807:=by omega
 rcases hda with ⟨rfl,rfl⟩|rfl<;>rcases hdb with ⟨rfl,rfl⟩|rfl
 all_goals refine C9p.go A6 rfl ?_
 all_goals repeat' first|refine st ?_|((with_reducible apply A4);conv=>whnf)|refine⟨λ_=>?_,λ_=>?_⟩|fail
 all_goals first|rfl|(cases fs<;>rfl)|(cases es<;>rfl)|(cases es<;>cases fs<;>rfl)
theorem C7k(dk dk':D)(a b:List Rw)(hab:a.length+b.length<=4294967296)(har:∀r∈a,r.vs.length<=4294967296)(hbr:∀r∈b,r.vs.length<=4294967296)(da db:D)(hda:B0 da (B6 a))(hdb:B0 db (B6 b)) :
  Pure Tryz.prog B9V [O5 dk da,O5 dk' db] (O5 dk (.sl (rD (D2 (A8 a++A8 b))))):=by
 have hS:=A0D (a++b) (by simp;omega) (λr h=>by
  rcases L9.1 h with h|h
  ·exact har r h
  ·exact hbr r h) (if (B6 (a++b)).isEmpty then .nil else .sl (B6 (a++b))) (A9J rfl)
 rw[show A8 (a++b)=A8 a++A8 b by simp[A8],A9g] at hS
 obtain⟨Z,hZ⟩:∃z,z=rD (D2 (A8 a++A8 b)):=⟨_,rfl⟩
 rw[<- hZ] at hS ⊢
 have l1:=W0 a
 have l2:=W0 b
 have m1:=X8 a
 have m2:=X8 b
 obtain⟨es,hes⟩:∃z,z=B6 a:=⟨_,rfl⟩
 obtain⟨fs,hfs⟩:∃z,z=B6 b:=⟨_,rfl⟩
 rw[<- hes] at hda l1 m1 hS
 rw[<- hfs] at hdb l2 m2 hS
 clear hes hfs hZ har hbr
 have b1:es.length*24<=140737488355328/\es.length<=9223372036854775807:=by omega
 have b2:(es.length+fs.length)*24<=140737488355328/\es.length+fs.length<=9223372036854775807:=by omega
 have hS:Bi.Pure Tryz.prog B1l [.d (w7 (bif fs.isEmpty then es.isEmpty else false) .nil (.sl (es++fs)))] (.d (.sl Z)):=by
  have e:(w7 (bif fs.isEmpty then es.isEmpty else false) .nil (.sl (es++fs)):D)=if (es++fs).isEmpty then .nil else .sl (es++fs):=by cases es<;>cases fs<;>rfl
  rw[e];exact hS
 rcases hda with ⟨rfl,rfl⟩|rfl<;>rcases hdb with ⟨rfl,rfl⟩|rfl
 all_goals refine C9l.go A6 rfl ?_
 all_goals repeat' first|refine st ?_|((with_reducible apply A4);conv=>whnf)|refine⟨λ_=>?_,λ_=>?_⟩|fail
 all_goals rfl
def S1(xs:List Ex)(r:B4):B4:=xs.map (ev r)
theorem C7l(xs:List Ex)(hx:xs.length<=1073741824)(hxb:∀e∈xs,e.bk<=1073741824)(dx:D)(hdx:B0 dx (xL xs))(r:B4)(hr:A3J r)(dr:D)(hdr:B0 dr (B2 r)) :
  Pure Tryz.prog A8G [.d dx,.d dr] (.d (Y2 (B2 (S1 xs r)).isEmpty (B2 (S1 xs r)))):=by
 have hE:=λ(e:Ex) (h:e∈xs)=>B4u r hr.1 hr.2 dr hdr e (hxb e h)
 have l1:=N1 xs
 have m1:=O6 xs
 have g1:=λi e=>@b9 xs i e
 obtain⟨es,hes⟩:∃z,z=xL xs:=⟨_,rfl⟩
 rw[<- hes] at hdx l1 m1 g1
 clear hes
 obtain⟨q,hq⟩:∃q,q=B2 (S1 xs r):=⟨_,rfl⟩
 rw[<- hq]
 refine C9m.go A6 rfl ?_
 repeat' first|refine st ?_|((with_reducible apply A4);conv=>whnf)|refine⟨λ_=>?_,λ_=>?_⟩|fail
 refine T5 5 3 rfl rfl ?_
 refine M5 A6 D2R D1w (λ(i:Nat) (w:List (List D))=>[.arr 0 w.length,.d (eI i)]) (λi w=>[.arr w 3 0 w.isEmpty]) (λi w=>i<=xs.length/\w=B2 (S1 (xs.take i) r)) (λi w=>xs.length-i) 0 [] rfl rfl rfl rfl (λ_ _ _=>⟨rfl,rfl⟩) rfl ⟨by omega,rfl⟩ ?_
 repeat' first|refine st ?_|((with_reducible apply A4);conv=>whnf)|refine⟨λ_=>?_,λ_=>?_⟩|fail
 intro i w ⟨i1,i2⟩
 have hwl:w.length<=i:=by rw[i2,Q2];unfold S1;rw[D3,L6];omega
 have hwm:∀e∈w,e.length=3:=by rw[i2];exact Q3 _
 have hbd:(w.length+1)*32<=140737488355328:=by omega
 cases hi:xs[i]? with
 |some e=>
  have hlt:=(B3.1 hi).1
  have hil:(i:Int)<es.length:=by omega
  have hg:=g1 i e hi
  have hE:=hE e (C3 hi)
  have i3:B2 (S1 (xs.take (i+1)) r)=w++[(ev r e).ds]:=by
   rw[i2,L5,hi];simp[S1,B2]
  obtain⟨v,hv⟩:∃v,v=ev r e:=⟨_,rfl⟩
  rw[<- hv] at hE i3
  clear hv
  obtain⟨xo,xn,xv,xm,xl,xa⟩:=e
  rw[Ex.ds_mk] at hg
  rw[Ex.av_mk] at hE
  have hg:es[((i:Nat):Int).toNat]?=some (U3 xo xn xv xm (ng xl (xL xa))):=hg
  obtain⟨xd,hxd⟩:∃d,d=ng xl (xL xa):=⟨_,rfl⟩
  rw[<- hxd] at hg hE
  clear i2 hi g1 hxd
  repeat' first|refine st ?_|((with_reducible apply A4);conv=>whnf)|refine⟨λ_=>?_,λ_=>?_⟩|fail
  exact⟨i+1,w++[v.ds],by simp,rfl,by simp,by omega,by omega,i3.symm⟩
 |none=>
  have hge:=F2.1 hi
  have hil:(es.length:Int)<=i:=by omega
  rw[H0 hge,<- hq] at i2
  subst i2
  clear hi g1 hq
  repeat' first|refine st ?_|((with_reducible apply A4);conv=>whnf)|refine⟨λ_=>?_,λ_=>?_⟩|fail
  all_goals (cases w<;>rfl)
end Go.Proofs
end
section
namespace Go.Proofs
open Go.Bi
def mx(l:List Nat):Nat:=l.foldl max 0
mutual
def I6:Ex->Nat
 |.mk op n v name nl args=>1+mx (A6W args)
def A6W:List Ex->List Nat
 |[]=>[]
 |e::es=>I6 e::A6W es
end
theorem C2k:∀l,A6W l=l.map I6
 |[]=>by simp[A6W]
 |e::es=>by simp[A6W,C2k es]
theorem X6(op n:Int)(v:Vl)(name:List UInt8)(nl:Bool)(args:List Ex):I6 (.mk op n v name nl args)=1+mx (args.map I6):=by rw[I6,C2k]
theorem C3U{l:List Nat}{B:Nat}(h:∀x∈l,x<=B):mx l<=B:=by
 unfold mx
 have key:∀(l:List Nat) (a:Nat),a<=B->(∀x∈l,x<=B)->l.foldl max a<=B:=by
  intro l
  induction l with
  |nil=>intro a ha _;exact ha
  |cons x l ih=>intro a ha hl;exact ih (max a x) (by have:=hl x (by simp);omega) λy hy=>hl y (by simp[hy])
 exact key l 0 (K1 _) h
theorem D86:∀e:Ex,I6 e<=e.bk:=by
 refine Ex.ind λop n v name nl args ih=>?_
 rw[X6]
 have h1:mx (args.map I6)<=(Ex.mk op n v name nl args).bk-1:=C3U λx hx=>by
  obtain⟨a,ha,rfl⟩:=D9.1 hx
  have h2:=ih a ha
  have h3:=Ex.bk_arg (op:=op) (n:=n) (v:=v) (name:=name) (nl:=nl) ha
  omega
 have:=(Ex.mk op n v name nl args).bk_pos
 omega
theorem D90{α β:Type}(f:β->α->β)(b:β)(l:List α)(i:Nat)(x:α)(h:l[i]?=some x):(l.take (i+1)).foldl f b=f ((l.take i).foldl f b) x:=by
 rw[L5,h];simp
theorem C3V{l:List Nat}{i x:Nat}(h:l[i]?=some x):mx (l.take (i+1))=max (mx (l.take i)) x:=D90 _ _ _ _ _ h
theorem C6r:∀e:Ex,e.bk<=1073741824->∀m:Nat,1<=m->m<=25->Pure Tryz.prog B1B [e.av,.d (eI m)] (.d (eI (min m (I6 e):Nat))):=by
 refine Ex.ind λop n v name nl args ih hbk m hm1 hm2=>?_
 obtain⟨b1,b2,b3,b4⟩:=Ex.bk_bounds hbk
 have ih':∀a∈args,∀m:Nat,1<=m->m<=25->Pure Tryz.prog B1B [a.av,.d (eI m)] (.d (eI (min m (I6 a):Nat))):=λa ha=>ih a ha (b4 a ha)
 clear ih
 rw[Ex.av_mk,X6]
 refine C9L.go A6 rfl ?_
 have hlen:=N1 args
 have hm:=O6 args
 have hd:B0 (ng nl (xL args)) (xL args):=C7
 have hget:∀(i:Nat) (op' n':Int) (v':Vl) (name':List UInt8) (nl':Bool) (args':List Ex),args[i]?=some (.mk op' n' v' name' nl' args')->(xL args)[i]?=some (U3 op' n' v' name' (ng nl' (xL args'))):=λi op' n' v' name' nl' args' h=>by
  rw[<- Ex.ds_mk];exact b9 h
 obtain⟨d,hde⟩:∃d,d=ng nl (xL args):=⟨_,rfl⟩
 rw[<- hde] at hd ⊢
 obtain⟨es,hes⟩:∃es,es=xL args:=⟨_,rfl⟩
 rw[<- hes] at hlen hm hd hget
 by_cases h1:m=1
 ·subst h1
  rw[show min 1 (1+mx (args.map I6))=1 by omega]
  repeat' first|refine st ?_|((with_reducible apply A4);conv=>whnf)|refine⟨λ_=>?_,λ_=>?_⟩|fail
  all_goals rfl
 have h2:¬(m:Int)<=1:=by omega
 repeat' first|refine st ?_|((with_reducible apply A4);conv=>whnf)|refine⟨λ_=>?_,λ_=>?_⟩|fail
 refine M5 A6 D35 D1K (λ(i:Nat) (t:Nat)=>[.d (eI t),.d (eI i)]) (λi t=>[.cells [.d (eI op),.d (eI n),.d (eI v.k),.d (eI v.n),.d (.str v.s),.d (.str name),.d d]]) (λi t=>i<=args.length/\t=min m (1+mx ((args.map I6).take i))) (λi _=>args.length-i) 0 1 rfl rfl rfl rfl (λ_ _ _=>⟨rfl,rfl⟩) rfl ⟨by omega,by simp[mx];omega⟩ ?_
 repeat' first|refine st ?_|((with_reducible apply A4);conv=>whnf)|refine⟨λ_=>?_,λ_=>?_⟩|fail
 intro i t ⟨h4,h5⟩
 cases hx:args[i]? with
 |some x=>
  have hlt:=(B3.1 hx).1
  have hI:=ih' x (C3 hx) (m-1) (by omega) (by omega)
  have hmx:=C3V (l:=args.map I6) (i:=i) (x:=I6 x) (by rw[I7,hx];rfl)
  rw[show((m-1:Nat):Int)=(m:Int)-1 by omega] at hI
  obtain⟨y,hy⟩:∃y,y=I6 x:=⟨_,rfl⟩
  rw[<- hy] at hI hmx
  obtain⟨op',n',v',name',nl',args'⟩:=x
  rw[Ex.av_mk] at hI
  have hg:=hget i _ _ _ _ _ _ hx
  repeat' first|refine st ?_|((with_reducible apply A4);conv=>whnf)|refine⟨λ_=>?_,λ_=>?_⟩|fail
  refine⟨i+1,max t (1+min (m-1) y),?_,rfl,rfl,by omega,by omega,?_⟩
  ·simp only[List.cons.injEq,AV.d.injEq,D.int.injEq,true_and,and_true]
   omega
  ·rw[hmx];omega
 |none=>
  have hge:=F2.1 hx
  rw[H0 (by simpa using hge)] at h5
  repeat' first|refine st ?_|((with_reducible apply A4);conv=>whnf)|refine⟨λ_=>?_,λ_=>?_⟩|fail
  rw[h5]
theorem C6k(e:Ex)(he:e.bk<=1073741824):Pure Tryz.prog C06 [e.av] (.d (eI (min 25 (I6 e):Nat))):=by
 have h:=C6r e he 25 (by omega) (by omega)
 obtain⟨op,n,v,name,nl,args⟩:=e
 rw[Ex.av_mk] at h ⊢
 refine C9z.go A6 rfl ?_
 repeat' first|refine st ?_|((with_reducible apply A4);conv=>whnf)|refine⟨λ_=>?_,λ_=>?_⟩|fail
theorem C6Y:∀e:Ex,e.bk<=1073741824->Pure Tryz.prog B1r [e.av] (.d (eI (I6 e:Nat))):=by
 refine Ex.ind λop n v name nl args ih hbk=>?_
 have hdb:=D86 (.mk op n v name nl args)
 obtain⟨b1,b2,b3,b4⟩:=Ex.bk_bounds hbk
 have ih':∀a∈args,Pure Tryz.prog B1r [a.av] (.d (eI (I6 a:Nat))):=λa ha=>ih a ha (b4 a ha)
 clear ih
 rw[X6] at hdb
 rw[Ex.av_mk,X6]
 refine C91.go A6 rfl ?_
 have hlen:=N1 args
 have hm:=O6 args
 have hd:B0 (ng nl (xL args)) (xL args):=C7
 have hget:∀(i:Nat) (op' n':Int) (v':Vl) (name':List UInt8) (nl':Bool) (args':List Ex),args[i]?=some (.mk op' n' v' name' nl' args')->(xL args)[i]?=some (U3 op' n' v' name' (ng nl' (xL args'))):=λi op' n' v' name' nl' args' h=>by
  rw[<- Ex.ds_mk];exact b9 h
 obtain⟨d,hde⟩:∃d,d=ng nl (xL args):=⟨_,rfl⟩
 rw[<- hde] at hd ⊢
 obtain⟨es,hes⟩:∃es,es=xL args:=⟨_,rfl⟩
 rw[<- hes] at hlen hm hd hget
 repeat' first|refine st ?_|((with_reducible apply A4);conv=>whnf)|refine⟨λ_=>?_,λ_=>?_⟩|fail
 refine M5 A6 D2w D1b (λ(i:Nat) (t:Nat)=>[.d (eI t),.d (eI i)]) (λi t=>[.cells [.d (eI op),.d (eI n),.d (eI v.k),.d (eI v.n),.d (.str v.s),.d (.str name),.d d]]) (λi t=>i<=args.length/\t=mx ((args.map I6).take i)) (λi _=>args.length-i) 0 0 rfl rfl rfl rfl (λ_ _ _=>⟨rfl,rfl⟩) rfl ⟨by omega,rfl⟩ ?_
 repeat' first|refine st ?_|((with_reducible apply A4);conv=>whnf)|refine⟨λ_=>?_,λ_=>?_⟩|fail
 intro i t ⟨h4,h5⟩
 cases hx:args[i]? with
 |some x=>
  have hlt:=(B3.1 hx).1
  have hI:=ih' x (C3 hx)
  have hmx:=C3V (l:=args.map I6) (i:=i) (x:=I6 x) (by rw[I7,hx];rfl)
  obtain⟨y,hy⟩:∃y,y=I6 x:=⟨_,rfl⟩
  rw[<- hy] at hI hmx
  obtain⟨op',n',v',name',nl',args'⟩:=x
  rw[Ex.av_mk] at hI
  have hg:=hget i _ _ _ _ _ _ hx
  repeat' first|refine st ?_|((with_reducible apply A4);conv=>whnf)|refine⟨λ_=>?_,λ_=>?_⟩|fail
  refine⟨i+1,max t y,?_,rfl,rfl,by omega,by omega,?_⟩
  ·simp only[List.cons.injEq,AV.d.injEq,D.int.injEq,true_and,and_true]
   omega
  ·rw[hmx,h5]
 |none=>
  have hge:=F2.1 hx
  rw[H0 (by simpa using hge)] at h5
  repeat' first|refine st ?_|((with_reducible apply A4);conv=>whnf)|refine⟨λ_=>?_,λ_=>?_⟩|fail
  rw[h5]
  simp only[AV.d.injEq,D.int.injEq,true_and]
  omega
end Go.Proofs
end
section
namespace Go.Proofs
open Go.Bi
def b5(k:Int):List Int->Int×Bool
 |[]=>(k,true)
 |x::l=>if x=0 then b5 k l else if k≠0/\k≠x then (0,false) else b5 x l
def Y3(l:List Int):Int×Bool:=b5 0 l
theorem C5m{k:Int}{l:List Int}{i:Nat}{x:Int}(h:l[i]?=some x):b5 k (l.drop i)=if x=0 then b5 k (l.drop (i+1)) else if k≠0/\k≠x then (0,false) else b5 x (l.drop (i+1)):=by
 obtain⟨hlt,he⟩:=B3.1 h
 rw[R4 hlt,he];rfl
theorem B0D(l:List Int)(hl:l.length<=1073741825)(d:D)(hd:B0 d (A5 l)):Pure Tryz.prog C0j [.d d] (.tup [.d (eI (Y3 l).1),.d (.bool (Y3 l).2)]):=by
 refine C9T.go A6 rfl ?_
 have h1:=G4 l
 have hm:=I0 l
 repeat' first|refine st ?_|((with_reducible apply A4);conv=>whnf)|refine⟨λ_=>?_,λ_=>?_⟩|fail
 refine M5 A6 D3a D1P (λ(i:Nat) (k:Int)=>[.d (eI k),.d (eI i)]) (λi k=>[]) (λi k=>i<=l.length/\Y3 l=b5 k (l.drop i)) (λi _=>l.length-i) 0 0 rfl rfl rfl rfl (λ_ _ _=>⟨rfl,rfl⟩) rfl ⟨by omega,rfl⟩ ?_
 repeat' first|refine st ?_|((with_reducible apply A4);conv=>whnf)|refine⟨λ_=>?_,λ_=>?_⟩|fail
 intro i k ⟨h2,h3⟩
 cases hx:l[i]? with
 |some x=>
  have hlt:=(B3.1 hx).1
  have hg:=Q1 hx
  rw[C5m hx] at h3
  by_cases hx0:x=0
  ·rw[if_pos hx0] at h3
   repeat' first|refine st ?_|((with_reducible apply A4);conv=>whnf)|refine⟨λ_=>?_,λ_=>?_⟩|fail
   exact⟨i+1,_,rfl,rfl,rfl,by omega,by omega,h3⟩
  ·rw[if_neg hx0] at h3
   by_cases hk:k≠0/\k≠x
   ·rw[if_pos hk] at h3
    rw[h3]
    obtain⟨hk1,hk2⟩:=hk
    repeat' first|refine st ?_|((with_reducible apply A4);conv=>whnf)|refine⟨λ_=>?_,λ_=>?_⟩|fail
    all_goals rfl
   ·rw[if_neg hk] at h3
    by_cases hk0:k=0
    ·repeat' first|refine st ?_|((with_reducible apply A4);conv=>whnf)|refine⟨λ_=>?_,λ_=>?_⟩|fail
     exact⟨i+1,_,rfl,rfl,rfl,by omega,by omega,h3⟩
    ·have hkx:k=x:=by omega
     repeat' first|refine st ?_|((with_reducible apply A4);conv=>whnf)|refine⟨λ_=>?_,λ_=>?_⟩|fail
     exact⟨i+1,_,rfl,rfl,rfl,by omega,by omega,h3⟩
 |none=>
  have hge:=F2.1 hx
  rw[R5 hge] at h3
  rw[h3]
  repeat' first|refine st ?_|((with_reducible apply A4);conv=>whnf)|refine⟨λ_=>?_,λ_=>?_⟩|fail
  all_goals rfl
theorem B4w(l:List Int)(hl:l.length<=1073741825)(d:D)(hd:B0 d (A5 l)):Pure Tryz.prog B9u [.d d] (.tup [.d (eI (Y3 l).1),.d (.bool (Y3 l).2)]):=by
 refine C8R.go A6 rfl ?_
 have h1:=G4 l
 have hm:=I0 l
 repeat' first|refine st ?_|((with_reducible apply A4);conv=>whnf)|refine⟨λ_=>?_,λ_=>?_⟩|fail
 refine M5 A6 D2q D15 (λ(i:Nat) (k:Int)=>[.d (eI k),.d (eI i)]) (λi k=>[]) (λi k=>i<=l.length/\Y3 l=b5 k (l.drop i)) (λi _=>l.length-i) 0 0 rfl rfl rfl rfl (λ_ _ _=>⟨rfl,rfl⟩) rfl ⟨by omega,rfl⟩ ?_
 repeat' first|refine st ?_|((with_reducible apply A4);conv=>whnf)|refine⟨λ_=>?_,λ_=>?_⟩|fail
 intro i k ⟨h2,h3⟩
 cases hx:l[i]? with
 |some x=>
  have hlt:=(B3.1 hx).1
  have hg:=Q1 hx
  rw[C5m hx] at h3
  by_cases hx0:x=0
  ·rw[if_pos hx0] at h3
   repeat' first|refine st ?_|((with_reducible apply A4);conv=>whnf)|refine⟨λ_=>?_,λ_=>?_⟩|fail
   exact⟨i+1,_,rfl,rfl,rfl,by omega,by omega,h3⟩
  ·rw[if_neg hx0] at h3
   by_cases hk:k≠0/\k≠x
   ·rw[if_pos hk] at h3
    rw[h3]
    obtain⟨hk1,hk2⟩:=hk
    repeat' first|refine st ?_|((with_reducible apply A4);conv=>whnf)|refine⟨λ_=>?_,λ_=>?_⟩|fail
    all_goals rfl
   ·rw[if_neg hk] at h3
    by_cases hk0:k=0
    ·repeat' first|refine st ?_|((with_reducible apply A4);conv=>whnf)|refine⟨λ_=>?_,λ_=>?_⟩|fail
     exact⟨i+1,_,rfl,rfl,rfl,by omega,by omega,h3⟩
    ·have hkx:k=x:=by omega
     repeat' first|refine st ?_|((with_reducible apply A4);conv=>whnf)|refine⟨λ_=>?_,λ_=>?_⟩|fail
     exact⟨i+1,_,rfl,rfl,rfl,by omega,by omega,h3⟩
 |none=>
  have hge:=F2.1 hx
  rw[R5 hge] at h3
  rw[h3]
  repeat' first|refine st ?_|((with_reducible apply A4);conv=>whnf)|refine⟨λ_=>?_,λ_=>?_⟩|fail
  all_goals rfl
def allK(l:List Int)(c:Int):Bool:=l.all λx=>decide (x=c\/x=0)
theorem C5n(c:Int)(hc:c≠0):∀(l:List Int)(k:Int),((b5 k (l++[c])).2&&decide ((b5 k (l++[c])).1=c))=(decide (k=0\/k=c)&&allK l c)
 |[],k=>by
  simp only[A0J,b5,if_neg hc,allK,List.all_nil,Bool.and_true]
  by_cases h:k≠0/\k≠c
  ·rw[if_pos h,decide_eq_false (show ¬(k=0\/k=c) by omega)];rfl
  ·rw[if_neg h,decide_eq_true (show k=0\/k=c by omega)];simp
 |x::l,k=>by
  have ih:=C5n c hc l
  simp only[A4r,b5,allK,A1B] at ih ⊢
  by_cases hx:x=0
  ·rw[if_pos hx,ih k,decide_eq_true (show x=c\/x=0 from .inr hx)];simp
  ·rw[if_neg hx]
   by_cases h:k≠0/\k≠x
   ·rw[if_pos h]
    by_cases hxc:x=c
    ·rw[decide_eq_false (show ¬(k=0\/k=c) by omega)];simp
    ·rw[decide_eq_false (show ¬(x=c\/x=0) by omega)];simp
   ·rw[if_neg h,ih x]
    by_cases hxc:x=c
    ·rw[decide_eq_true (show x=0\/x=c from .inr hxc),decide_eq_true (show x=c\/x=0 from .inl hxc),decide_eq_true (show k=0\/k=c by omega)];simp
    ·rw[decide_eq_false (show ¬(x=0\/x=c) by omega),decide_eq_false (show ¬(x=c\/x=0) by omega)];simp
theorem B45:Pure Tryz.prog A8R [.d .nil] (.d .nil):=by
 refine B0Z.go A6 rfl ?_
 repeat' first|refine st ?_|((with_reducible apply A4);conv=>whnf)|refine⟨λ_=>?_,λ_=>?_⟩|fail
theorem C6e(es:List (List D))(hl:es.length<=1073741825)(hm:∀e∈es,e.length=1):C0 Tryz.prog A8R [.d (.sl es)] [] (λr os=>r=.arr 0 es.length/\os=[.arr es 1 0 false]):=by
 refine B0Z.goO A6 rfl ?_
 have h0:([]:List (List D)).length=0:=rfl
 have h00:(([]:List (List D))++es).length=es.length:=rfl
 have hb:(([]:List (List D)).length+es.length)*8<=140737488355328/\([]:List (List D)).length+es.length<=9223372036854775807:=by rw[h0];omega
 repeat' first|refine st ?_|((with_reducible apply A4);conv=>whnf)|refine⟨λ_=>?_,λ_=>?_⟩|fail
 all_goals (refine⟨rfl,?_⟩;cases es<;>rfl)
theorem D8h(l:List Int)(x:Int):A5 l++[[eI x]]=A5 (l++[x]):=by simp[A5]
theorem A8b(l:List Int)(hl:l.length<=1073741824)(d:D)(hd:B0 d (A5 l))(c:Int)(hc:c≠0):Pure Tryz.prog C09 [.d d,.d (eI c)] (.d (.bool (allK l c))):=by
 refine C9F.go A6 rfl ?_
 have h1:=G4 l
 have hm:=I0 l
 have hU:=B0D (l++[c]) (by simp;omega) (.sl (A5 (l++[c]))) A0y
 have hres:=C5n c hc l 0
 rw[show decide ((0:Int)=0\/(0:Int)=c)=true from rfl,R2] at hres
 rw[<- hres]
 unfold Y3 at hU
 rw[<- D8h] at hU
 obtain⟨x,b⟩:∃x b,b5 0 (l++[c])=(x,b):=⟨_,_,rfl⟩
 rcases hd with ⟨rfl,he⟩|rfl
 ·rw[he] at hU
  repeat' first|refine st ?_|((with_reducible apply A4);conv=>whnf)|((with_reducible first|apply E9|apply E8);(·exact B45))|refine⟨λ_=>?_,λ_=>?_⟩|fail
  all_goals simp[*]
 ·have hC:=C6e (A5 l) (by omega) hm
  have ha:(A5 l++[[eI c]]).length=l.length+1:=by simp[h1]
  repeat' first|refine st ?_|((with_reducible apply A4);conv=>whnf)|((with_reducible first|apply O1|apply O0);(·exact hC);(try rintro _ _ ⟨rfl,rfl⟩))|((with_reducible apply O2);(·exact hC))|refine⟨λ_=>?_,λ_=>?_⟩|fail
  all_goals simp[*]
theorem A8g(l:List Int)(hl:l.length<=1073741825)(d:D)(hd:B0 d (A5 l))(c:Int):Pure Tryz.prog B9w [.d d,.d (eI c)] (.d (.bool (allK l c))):=by
 refine C8W.go A6 rfl ?_
 have h1:=G4 l
 have hm:=I0 l
 repeat' first|refine st ?_|((with_reducible apply A4);conv=>whnf)|refine⟨λ_=>?_,λ_=>?_⟩|fail
 refine J5 A6 D2t D18 (λ(i:Nat)=>[.d (eI i)]) (λi=>[]) (λi=>i<=l.length/\(l.take i).all (λx=>decide (x=c\/x=0))=true) (λi=>l.length-i) 0 rfl rfl rfl rfl (λ_ _=>⟨rfl,rfl⟩) rfl ⟨by omega,rfl⟩ ?_
 repeat' first|refine st ?_|((with_reducible apply A4);conv=>whnf)|refine⟨λ_=>?_,λ_=>?_⟩|fail
 intro i ⟨h2,h3⟩
 cases hx:l[i]? with
 |some x=>
  have hlt:=(B3.1 hx).1
  have hg:=Q1 hx
  by_cases hk:x=c
  ·repeat' first|refine st ?_|((with_reducible apply A4);conv=>whnf)|refine⟨λ_=>?_,λ_=>?_⟩|fail
   refine⟨i+1,rfl,rfl,rfl,by omega,by omega,?_⟩
   rw[A4w hx,h3,decide_eq_true (show x=c\/x=0 from .inl hk)];rfl
  ·by_cases hk0:x=0
   ·repeat' first|refine st ?_|((with_reducible apply A4);conv=>whnf)|refine⟨λ_=>?_,λ_=>?_⟩|fail
    refine⟨i+1,rfl,rfl,rfl,by omega,by omega,?_⟩
    rw[A4w hx,h3,decide_eq_true (show x=c\/x=0 from .inr hk0)];rfl
   ·repeat' first|refine st ?_|((with_reducible apply A4);conv=>whnf)|refine⟨λ_=>?_,λ_=>?_⟩|fail
    rw[allK,A3L hx (decide_eq_false (show ¬(x=c\/x=0) by omega))]
 |none=>
  have hge:=F2.1 hx
  rw[H0 hge] at h3
  repeat' first|refine st ?_|((with_reducible apply A4);conv=>whnf)|refine⟨λ_=>?_,λ_=>?_⟩|fail
  rw[allK,h3]
end Go.Proofs
end
section
namespace Go.Proofs
open Go.Bi
def N0(op:Int)(v:Vl)(l:List Int):Int×Bool:=
 if op=1 then (v.k,true)
 else if op=4\/op=5\/op=6 then (3,allK l 3)
 else if op=7\/op=8\/op=9\/op=10\/op=11\/op=12 then (3,(Y3 l).2)
 else if op=19 then (2,allK l 2)
 else if op=20 then (1,allK l 2)
 else if op=21 then (3,true)
 else if op=22 then ((Y3 (l.drop 1)).1,(Y3 (l.drop 1)).2&&allK (l.take 1) 3)
 else if op=23 then Y3 l
 else if op=24 then (3,allK l 1) else (1,allK l 1)
theorem C2s(l:List Int)(i:Nat):(A5 l).drop i=A5 (l.drop i):=by simp[A5]
theorem C2t(l:List Int)(i:Nat):(A5 l).take i=A5 (l.take i):=by simp[A5]
theorem B4c(op n:Int)(v:Vl)(name:List UInt8)(d0:D)(l:List Int)(hl:l.length<=1073741824)(d:D)(hd:B0 d (A5 l))(h22:op=22->1<=l.length):Pure Tryz.prog C0h [eX op n v name d0,.d d] (.tup [.d (eI (N0 op v l).1),.d (.bool (N0 op v l).2)]):=by
 refine C9R.go A6 rfl ?_
 have h1:=G4 l
 have hm:=I0 l
 by_cases h22':op=22
 ·subst h22'
  have hl1:=h22 rfl
  rcases hd with ⟨rfl,he⟩|rfl
  ·rw[he] at h1;simp at h1;omega
  have hU:=B0D (l.drop 1) (by simp;omega) (.sl (A5 (l.drop 1))) A0y
  have hA:=A8b (l.take 1) (by simp;omega) (.sl (A5 (l.take 1))) A0y 3 (by decide)
  have hcut:((A5 l).drop (1:Int).toNat).take (((A5 l).length:Int).toNat-(1:Int).toNat)=A5 (l.drop 1):=by
   rw[<- C2s,show(1:Int).toNat=1 from rfl,H0]
   simp
  have hcut2:((A5 l).drop ((0:Nat):Int).toNat).take ((1:Int).toNat-((0:Nat):Int).toNat)=A5 (l.take 1):=by
   rw[<- C2t];rfl
  rw[show N0 22 v l=((Y3 (l.drop 1)).1,(Y3 (l.drop 1)).2&&allK (l.take 1) 3) from rfl]
  obtain⟨⟨k,b⟩,hkb⟩:∃kb,Y3 (l.drop 1)=kb:=⟨_,rfl⟩
  rw[hkb] at hU ⊢
  obtain⟨z,hz⟩:∃z,allK (l.take 1) 3=z:=⟨_,rfl⟩
  rw[hz] at hA ⊢
  obtain⟨e1,he1⟩:∃e1,e1=A5 (l.drop 1):=⟨_,rfl⟩
  obtain⟨e2,he2⟩:∃e2,e2=A5 (l.take 1):=⟨_,rfl⟩
  rw[<- he1] at hU hcut
  rw[<- he2] at hA hcut2
  have hel:((A5 l).length:Int)=l.length:=by rw[h1]
  obtain⟨es,hes⟩:∃es,es=A5 l:=⟨_,rfl⟩
  rw[<- hes] at hcut hcut2 hel hm h1 ⊢
  cases b with
  |false=>
   repeat' first|refine st ?_|refine⟨λ_=>?_,λ_=>?_⟩|fail
   all_goals (try rw[hcut])
   repeat' first|refine st ?_|refine⟨λ_=>?_,λ_=>?_⟩|fail
   all_goals rfl
  |true=>
   repeat' first|refine st ?_|refine⟨λ_=>?_,λ_=>?_⟩|fail
   all_goals (try rw[hcut])
   repeat' first|refine st ?_|refine⟨λ_=>?_,λ_=>?_⟩|fail
   all_goals (try rw[hcut2])
   repeat' first|refine st ?_|refine⟨λ_=>?_,λ_=>?_⟩|fail
   all_goals rfl
 have A3:=A8b l hl d hd 3 (by decide)
 have A2:=A8b l hl d hd 2 (by decide)
 have A1:=A8b l hl d hd 1 (by decide)
 have U:=B0D l (by omega) d hd
 repeat' first|refine st ?_|((with_reducible first|apply E9|apply E8);(·first|exact A3|exact A2|exact A1|exact U))|refine⟨λ_=>?_,λ_=>?_⟩|fail
 all_goals first
  |(subst_vars;rfl)
  |(simp only[N0];rw[if_neg (by omega),if_neg (by omega),if_neg (by omega),if_neg (by omega),if_neg (by omega),if_neg (by omega),if_neg (by omega),if_neg (by omega),if_neg (by omega)])
theorem C73(n:Int)(v:Vl)(name:List UInt8)(d0:D)(l ks:List Int)(d:D)(hd:B0 d (A5 l))(dk:D)(hdk:B0 dk (A5 ks))(k:Int)(h0:0<=n)(hk:ks[n.toNat]?=some k):Pure Tryz.prog B1s [eX 2 n v name d0,.d d,.d dk] (.tup [.d (eI k),.d (.bool true)]):=by
 refine B52.go A6 rfl ?_
 have h1:=G4 ks
 have hm:=I0 ks
 have hg:=Q1 hk
 have hlt:=(B3.1 hk).1
 have hn2:n<(A5 ks).length:=by omega
 repeat' first|refine st ?_|refine⟨λ_=>?_,λ_=>?_⟩|fail
 all_goals rfl
theorem C72(op n:Int)(v:Vl)(name:List UInt8)(d0:D)(l:List Int)(hl:l.length<=1073741824)(d:D)(hd:B0 d (A5 l))(dk:D)(h22:op=22->1<=l.length)(hop:op=1\/4<=op/\op<=24)(h2:op≠2):Pure Tryz.prog B1s [eX op n v name d0,.d d,.d dk] (.tup [.d (eI (N0 op v l).1),.d (.bool (N0 op v l).2)]):=by
  refine B52.go A6 rfl ?_
  have h1:=G4 l
  have hm:=I0 l
  by_cases h22':op=22
  · subst h22'
    have hl1:=h22 rfl
    rcases hd with ⟨rfl,he⟩|rfl
    · rw[he] at h1;simp at h1;omega
    have hU:=B4w (l.drop 1) (by simp;omega) (.sl (A5 (l.drop 1))) A0y
    have hA:=A8g (l.take 1) (by simp;omega) (.sl (A5 (l.take 1))) A0y 3
    have hcut:((A5 l).drop (1:Int).toNat).take (((A5 l).length:Int).toNat-(1:Int).toNat)=A5 (l.drop 1):=by
      rw[<- C2s,show(1:Int).toNat=1 from rfl,H0]
      simp
    have hcut2:((A5 l).drop ((0:Nat):Int).toNat).take ((1:Int).toNat-((0:Nat):Int).toNat)=A5 (l.take 1):=by
      rw[<- C2t];rfl
    rw[show N0 22 v l=((Y3 (l.drop 1)).1,(Y3 (l.drop 1)).2&&allK (l.take 1) 3) from rfl]
    obtain⟨⟨k,b⟩,hkb⟩:∃kb,Y3 (l.drop 1)=kb:=⟨_,rfl⟩
    rw[hkb] at hU ⊢
    obtain⟨z,hz⟩:∃z,allK (l.take 1) 3=z:=⟨_,rfl⟩
    rw[hz] at hA ⊢
    obtain⟨e1,he1⟩:∃e1,e1=A5 (l.drop 1):=⟨_,rfl⟩
    obtain⟨e2,he2⟩:∃e2,e2=A5 (l.take 1):=⟨_,rfl⟩
    rw[<- he1] at hU hcut
    rw[<- he2] at hA hcut2
    have hel:((A5 l).length:Int)=l.length:=by rw[h1]
    obtain⟨es,hes⟩:∃es,es=A5 l:=⟨_,rfl⟩
    rw[<- hes] at hcut hcut2 hel hm h1 ⊢
    cases b with
    |false=>
      repeat' first|refine st ?_|refine⟨λ_=>?_,λ_=>?_⟩|fail
      all_goals (try rw[hcut])
      repeat' first|refine st ?_|refine⟨λ_=>?_,λ_=>?_⟩|fail
      all_goals rfl
    |true=>
      repeat' first|refine st ?_|refine⟨λ_=>?_,λ_=>?_⟩|fail
      all_goals (try rw[hcut])
      repeat' first|refine st ?_|refine⟨λ_=>?_,λ_=>?_⟩|fail
      all_goals (try rw[hcut2])
      repeat' first|refine st ?_|refine⟨λ_=>?_,λ_=>?_⟩|fail
      all_goals rfl
  have A3:=A8g l (by omega) d hd 3
  have A2:=A8g l (by omega) d hd 2
  have A1:=A8g l (by omega) d hd 1
  have U:=B4w l (by omega) d hd
  repeat' first|refine st ?_|((with_reducible first|apply E9|apply E8);(·first|exact A3|exact A2|exact A1|exact U))|refine⟨λ_=>?_,λ_=>?_⟩|fail
  all_goals first
    |(subst_vars;rfl)
    | (have : op = 24 := by omega
       subst this;rfl)
end Go.Proofs
end
