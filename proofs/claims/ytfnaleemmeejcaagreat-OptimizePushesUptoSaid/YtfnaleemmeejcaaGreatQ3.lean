/- Texts of this claim, joined. No condition. -/
import Derived.Test.YtfnaleemmeejcaaGreatQ2
import Derived.Test.YtfnaleemmeejcaaGreatBi
import Derived.Shelf.Sort.Plain
import Derived.Shelf.Slices.In.SortNone
import Derived.Shelf.Slices.CompactI
set_option linter.unusedSimpArgs false
set_option linter.unusedVariables false
set_option maxRecDepth 10000
set_option maxHeartbeats 4000000
section
namespace Go.Bi
open Go Go.Proofs Go.Sort Go.Shelf
section
variable {P:Program}{M:D4}{G:Gh}{os:List AO}{w w':World}
theorem OR.live_lt(he:C9 M G os w){id:Nat}{o:AO}(ho:os[id]?=some o)(hl:o.live=true):G.blk id<w.heap.size:=he.lt ⟨o,ho,hl⟩
theorem B37(hsys:w'.os=w.os)(htape:w'.tape=w.tape)(hout:w'.output=w.output)(hsz:w.heap.size<=w'.heap.size)(hh:∀b,b<w.heap.size->w'.heap[b]?=w.heap[b]?):G7 M G os w M G os w' where
 sys:=hsys
 tape:=htape
 output:=hout
 size:=hsz
 frame:=λb hb _=>hh b hb
 grow:=λ_ _ h=>h
 fresh:=λ_ _ h=>.inl h
 own:=λi h=>.inr ⟨i,h,rfl⟩
 keep:=λi o h=>(G7.refl M G os w).keep i o h
theorem D5W(he:C9 M G os w)(hsys:w'.os=w.os)(htape:w'.tape=w.tape)(hout:w'.output=w.output)(hsz:w.heap.size<=w'.heap.size)(hh:∀b,b<w.heap.size->w'.heap[b]?=w.heap[b]?):C9 M G os w' where
 mem:=λa v h=>by
  have h1:=he.mem a v h
  have hlt:a.block<w.heap.size:=by
   unfold World.cell? at h1
   cases hb:w.heap[a.block]? with
   |none=>rw[hb] at h1;cases h1
   |some o=>exact(A01.1 hb).1
  rw[World.cell?_of_block (w:=w) (hh _ hlt)]
  exact h1
 obj:=λi x hx=>by
  have hold:=he.obj i x hx
  by_cases hlv:x.live=true
  ·exact OR.since (B37 hsys htape hout hsz hh) hold rfl rfl (hh _ (OR.live_lt he hx hlv)) (λ_ _=>rfl)
  ·cases x with
   |cells cs=>exact absurd rfl hlv
   |iter s p=>exact absurd rfl hlv
   |hole=>trivial
   |map kvs=>exact absurd rfl hlv
   |mit m n s=>exact absurd rfl hlv
   |arr es sz frz nl=>
    cases nl with
    |false=>exact absurd rfl hlv
    |true=>exact⟨hold.1,hold.2.1,hold.2.2.1,hold.2.2.2.1,λh=>by cases h⟩
   |rarr es sz nl=>
    cases nl with
    |false=>exact absurd rfl hlv
    |true=>exact⟨hold.1,hold.2.1,hold.2.2.1,λh=>by cases h⟩
 inj:=he.inj
 sep:=he.sep
 glb:=A29 (B37 (M:=M) (G:=G) (os:=os) hsys htape hout hsz hh) he.glb
def ints(zs:List Int):List (List D):=zs.map λz=>[.int .i64 z]
theorem A3B(zs:List Int):(ints zs).length=zs.length:=by simp[ints]
theorem D6E(zs:List Int):∀e∈ints zs,e.length=1:=by
 intro e he
 obtain⟨z,_,rfl⟩:=D7.1 he
 rfl
theorem D7y(blk:Nat)(f:Array Value->Array Value)(b:Nat)(h:b≠blk):(mapBlock w blk f).heap[b]?=w.heap[b]?:=by
 unfold mapBlock
 simp only[Array.getElem?_modify]
 rw[if_neg (Ne.symm h)]
theorem C3v(he:C9 M G os w){id:Nat}{zs ys:List Int}(ho:os[id]?=some (.arr (ints zs) 1 0 false))(hlen:ys.length=zs.length)(n:Nat) :
  C9 M G (os.set id (.arr (ints ys) 1 0 false)) (putRow (Value.int .i64) (Sort.ahead w n) (G.blk id) 0 ys.toArray)/\G7 M G os w M G (os.set id (.arr (ints ys) 1 0 false)) (putRow (Value.int .i64) (Sort.ahead w n) (G.blk id) 0 ys.toArray):=by
 obtain⟨h1,h2,h3,h4,h5⟩:=he.obj id _ ho
 obtain⟨ca,t,h6,h7,h8,h9,h10,h11⟩:=h5 rfl
 have hlt:=(B4.1 ho).1
 have hno:∀a v,M a=some v->a.block=G.blk id->False:=λa v ha hb=>by
  obtain⟨es',sz',frz',nl',h12,h13⟩:=he.sep id a v (H6.arr ho) ha hb
  rw[ho] at h12
  cases h12
  omega
 have hk:P4 G G id (os.set id (.arr (ints ys) 1 0 false)) (.arr (ints zs) 1 0 false):=⟨ints ys,0,false,by simp[hlt],by rw[A3B,A3B];omega,λ_=>⟨rfl,rfl,rfl⟩⟩
 have hoth:∀b,b≠G.blk id->(putRow (Value.int .i64) (Sort.ahead w n) (G.blk id) 0 ys.toArray).heap[b]?=w.heap[b]?:=λb hb=>D7y _ _ b hb
 have hs:=A0B he (w':=putRow (Value.int .i64) (Sort.ahead w n) (G.blk id) 0 ys.toArray) (M':=M) ho rfl rfl rfl rfl (by simp) hoth (λ_ _ h=>h) (λ_ _ h=>.inl h) hk
 refine⟨A1B he ho rfl rfl rfl rfl (by simp) hoth (λ_ _ h=>h) (λ_ _ h=>.inl h) hk (λ_ _=>rfl) (λa v ha hb=>(hno a v ha hb).elim) (λa v ha hb=>(hno a v ha hb).elim) ?_,hs⟩
 rw[A3B] at h8
 refine⟨h1,D6E ys,N1 _,λh=>(by cases h),λ_=>⟨putCells (Value.int .i64) 0 ys.toArray ca,t,?_,?_,?_,h9,λi j e x hi hj=>?_,λo ho=>(by omega)⟩⟩
 ·show(mapBlock (Sort.ahead w n) (G.blk id) _).heap[G.blk id]?=_
  unfold mapBlock
  simp only[Array.getElem?_modify,if_true]
  show Option.map _ w.heap[G.blk id]?=_
  rw[h6];rfl
 ·unfold putCells
  rw[Array.size_mapIdx,h7]
 ·rw[A3B];omega
 ·obtain⟨z,hz,rfl⟩:∃z,ys[i]?=some z/\e=[.int .i64 z]:=by
   unfold ints at hi
   rw[J1] at hi
   cases hy:ys[i]? with
   |none=>rw[hy] at hi;cases hi
   |some z=>rw[hy] at hi;cases hi;exact⟨z,rfl,rfl⟩
  have hil:=(B4.1 hz).1
  cases j with
  |succ j=>cases hj
  |zero=>
   cases hj
   refine⟨.int .i64 z,?_,.int _ _⟩
   unfold putCells
   have hic:i*1+0<ca.size:=by rw[h7];omega
   rw[Array.getElem?_mapIdx,O0 hic,A0R,if_pos (by simp;omega)]
   have:ys.toArray[i*1+0-0]! = z:=by
    have e:i*1+0-0=i:=by omega
    rw[e,getElem!_pos _ i (by simpa using hil)]
    simpa using(B4.1 hz).2
   rw[this]
theorem C3w(he:C9 M G os w){id:Nat}{zs:List Int}(ho:os[id]?=some (.arr (ints zs) 1 0 false)):Holds (Value.int .i64) w (G.blk id) 0 zs.toArray:=by
 obtain⟨h1,h2,h3,h4,h5⟩:=he.obj id _ ho
 obtain⟨ca,t,h6,h7,h8,h9,h10,h11⟩:=h5 rfl
 intro j hj
 have hj':j<zs.length:=by simpa using hj
 have hz:(ints zs)[j]?=some [.int .i64 zs[j]]:=by unfold ints;rw[J1,F4 hj'];rfl
 obtain⟨u,hu,hr⟩:=h10 j 0 _ _ hz rfl
 cases hr
 rw[Nat.mul_one,A3d] at hu
 refine⟨?_,?_⟩
 ·have:zs.toArray[j]! = zs[j]:=by rw[getElem!_pos _ j hj];simp
  rw[this,A0Q]
  unfold World.cell?
  rw[h6]
  simpa using hu
 ·unfold World.frozen?
  rw[h6]
  simp
theorem D6v(he:C9 M G os w){id m:Nat}{es:List (List D)}{sz:Nat}(ho:os[id]?=some (.arr es sz 0 false))(hm:m<=es.length) :
  C9 (D4.with M w (G.blk id) (m*sz)) G (os.set id (.arr es sz m false)) w/\
  G7 M G os w (D4.with M w (G.blk id) (m*sz)) G (os.set id (.arr es sz m false)) w/\
  Rd (D4.with M w (G.blk id) (m*sz)) (.sl (es.take m)) (.slice (some ⟨G.blk id,0,none⟩) m (G.cap id)):=by
 obtain⟨h1,h2,h3,h4,h5⟩:=he.obj id _ ho
 obtain⟨ca,t,h6,h7,h8,h9,h10,h11⟩:=h5 rfl
 have hlt:=(B4.1 ho).1
 have hgrow:∀x v,M x=some v->D4.with M w (G.blk id) (m*sz) x=some v:=λx v hx=>by
  unfold D4.with
  split
  ·exact he.mem x v hx
  ·exact hx
 have hnew:∀x v,D4.with M w (G.blk id) (m*sz) x=some v->M x=some v\/x.block=G.blk id:=λx v hx=>by
  unfold D4.with at hx
  split at hx
  ·rename_i hc;exact .inr hc.1
  ·exact .inl hx
 have hk:P4 G G id (os.set id (.arr es sz m false)) (.arr es sz 0 false):=⟨es,m,false,by simp[hlt],D3 _,λ_=>⟨rfl,rfl,rfl⟩⟩
 have hs:=A0B he (w':=w) ho rfl rfl rfl rfl rfl (λ_ _=>rfl) hgrow hnew hk
 have hcl:∀o,o<m*sz->D4.with M w (G.blk id) (m*sz) ⟨G.blk id,o,none⟩=ca[o]?:=λo ho=>by
  unfold D4.with
  rw[if_pos ⟨rfl,rfl,ho⟩]
  simp[World.cell?,h6]
 refine⟨A1B he ho rfl rfl rfl rfl rfl (λ_ _=>rfl) hgrow hnew hk (λx hx=>?_) (λx v hx hb=>?_) (λx v hx hb=>?_) ?_,hs,?_⟩
 ·unfold D4.with
  rw[if_neg (λhc=>hx hc.1)]
 ·unfold D4.with at hx
  split at hx
  ·exact hx
  ·exact he.mem x v hx
 ·refine⟨_,_,_,_,rfl,?_⟩
  unfold D4.with at hx
  split at hx
  ·rename_i hc;exact hc.2.2
  ·obtain⟨es',sz',frz',nl',h12,h13⟩:=he.sep id x v (H6.arr ho) hx hb
   rw[ho] at h12
   cases h12
   omega
 ·refine⟨h1,h2,hm,λh=>(by cases h),λ_=>⟨ca,t,h6,h7,h8,h9,λi j e x hi hj=>?_,hcl⟩⟩
  obtain⟨u,hu,hr⟩:=h10 i j e x hi hj
  exact⟨u,hu,hr.mono hgrow⟩
 ·have hlen:(es.take m).length=m:=by rw[M4];omega
  have key:Rd (D4.with M w (G.blk id) (m*sz)) (.sl (es.take m)) (.slice (some ⟨G.blk id,0,none⟩) (es.take m).length (G.cap id)):=by
   refine Rd.sl (es.take m) (G.blk id) 0 (G.cap id) sz (λi j=>(ca[i*sz+j]?).getD undef) (by omega) (λe hx=>h2 e (A39 hx)) (λi j hi hj=>?_) (λi j e d hi hj=>?_)
   ·rw[hlen] at hi
    rw[A0Q,hcl _ (j4 hi hj)]
    have hsz:i*sz+j<ca.size:=by
     rw[h7]
     exact A3e (j4 hi hj) (i6 _ (by omega))
    simp[hsz]
   ·have hil:=(B4.1 hi).1
    rw[A02,if_pos (by omega)] at hi
    obtain⟨u,hu,hr⟩:=h10 i j e d hi hj
    simp only[hu,A04]
    exact hr.mono hgrow
  rwa [hlen] at key
theorem D9A{ρ:Ren}(L:Lays.n189 P ρ)(he:Enters P (ρ.f 189))(zs:List Int)(nl:Bool)(hz:zs.length<4611686018427387904) :
  B9 P (ρ.f 189) [.arr 0 (ints zs).length] [.arr (ints zs) 1 0 nl] (λr os'=>r=.tup []/\os'=[.arr (ints (zs.mergeSort λx y=>decide (x<=y))) 1 0 nl]):=by
 refine⟨he,λM G w vs hE hl hv=>?_⟩
 obtain⟨v,rfl⟩:∃v,vs=#[v]:=by
  obtain⟨l⟩:=vs
  match l,hl with
  |[x],_=>exact⟨x,rfl⟩
 have hval:=hv 0 _ v rfl rfl
 obtain⟨h0,es,sz,frz,nl',h1,h2,h3⟩:=hval
 cases h1
 have hv:=h3 rfl
 subst hv
 unfold Gh.slv
 cases nl with
 |true=>
  have hnil:ints zs=[]:=(hE.obj 0 _ rfl).2.2.2.1 rfl
  have hzs:zs=[]:=by unfold ints at hnil;simpa using hnil
  subst hzs
  rw[if_pos rfl]
  refine(Any.slices_Sort_int_none L none 0 w).mono ?_
  rintro e w' ⟨rfl,rfl⟩
  exact⟨_,rfl,M,G,.tup [],_,hE,G7.refl ..,⟨#[],rfl,rfl,by simp⟩,rfl,by simp⟩
 |false=>
  rw[if_neg (by decide),A3B]
  have hlt:=OR.live_lt hE (id:=0) rfl rfl
  refine(Any.slices_Sort_int L (G.blk 0) 0 (G.cap 0) zs w (C3w hE (id:=0) rfl) hlt hz).mono ?_
  rintro e w' ⟨rfl,n,xs,rfl⟩
  obtain⟨e1,s1⟩:=C3v hE (id:=0) (ys:=zs.mergeSort λx y=>decide (x<=y)) rfl (by simp) n
  have hh:∀b,b<(putRow (Value.int .i64) (Sort.ahead w n) (G.blk 0) 0 (zs.mergeSort λx y=>decide (x<=y)).toArray).heap.size->(grow (putRow (Value.int .i64) (Sort.ahead w n) (G.blk 0) 0 (zs.mergeSort λx y=>decide (x<=y)).toArray) xs).heap[b]?=(putRow (Value.int .i64) (Sort.ahead w n) (G.blk 0) 0 (zs.mergeSort λx y=>decide (x<=y)).toArray).heap[b]?:=λb hb=>by
   unfold grow
   exact A2t hb
  refine⟨_,rfl,M,G,.tup [],_,D5W e1 rfl rfl rfl (by simp[grow]) hh,s1.trans (B37 rfl rfl rfl (by simp[grow]) hh),⟨#[],rfl,rfl,by simp⟩,rfl,rfl⟩
theorem C0W(zs:List Int):(Lib.compact zs).length<=zs.length:=by
 unfold Lib.compact Lib.compactUpTo
 rw[D8]
 exact K4 (A0K _ _) (by simp)
theorem D5w{ρ:Ren}(L:Lays2.n20 P ρ)(he:Enters P (ρ.f 20))(zs:List Int)(nl:Bool)(hz:zs.length<=9223372036854775807) :
  B9 P (ρ.f 20) [.arr 0 (ints zs).length] [.arr (ints zs) 1 0 nl] (λr os'=>r=.d (if nl then .nil else .sl (ints (Lib.compact zs)))/\os'=[.arr (ints (Lib.compact zs++List.replicate (zs.length-(Lib.compact zs).length) 0)) 1 (if nl then 0 else (Lib.compact zs).length) nl]):=by
 refine⟨he,λM G w vs hE hl hv=>?_⟩
 obtain⟨v,rfl⟩:∃v,vs=#[v]:=by
  obtain⟨l⟩:=vs
  match l,hl with
  |[x],_=>exact⟨x,rfl⟩
 have hval:=hv 0 _ v rfl rfl
 obtain⟨h0,es,sz,frz,nl',h1,h2,h3⟩:=hval
 cases h1
 have hv:=h3 rfl
 subst hv
 unfold Gh.slv
 cases nl with
 |true=>
  have hnil:ints zs=[]:=(hE.obj 0 _ rfl).2.2.2.1 rfl
  have hzs:zs=[]:=by unfold ints at hnil;simpa using hnil
  subst hzs
  rw[if_pos rfl]
  refine(Any.slices_Compact_int_empty L none 0 w).mono ?_
  rintro e w' ⟨rfl,rfl⟩
  exact⟨_,rfl,M,G,.d .nil,_,hE,G7.refl ..,Rd.nil,rfl,rfl⟩
 |false=>
  rw[if_neg (by decide),A3B]
  obtain⟨h1,h2,h3,h4,h5⟩:=hE.obj 0 _ rfl
  obtain⟨ca,t,h6,h7,h8,h9,h10,h11⟩:=h5 rfl
  rw[A3B] at h8
  refine(Any.slices_Compact_int L (G.blk 0) 0 (G.cap 0) zs w (C3w hE (id:=0) rfl) hz h8).mono ?_
  rintro e w' ⟨rfl,n,rfl⟩
  have hcl:=C0W zs
  have hlen:(Lib.compact zs++List.replicate (zs.length-(Lib.compact zs).length) 0).length=zs.length:=by simp;omega
  obtain⟨e1,s1⟩:=C3v hE (id:=0) (ys:=Lib.compact zs++List.replicate (zs.length-(Lib.compact zs).length) 0) rfl hlen n
  obtain⟨e2,s2,r2⟩:=D6v e1 (id:=0) (m:=(Lib.compact zs).length) rfl (by rw[A3B,hlen];exact hcl)
  refine⟨_,rfl,_,G,.d (.sl (ints (Lib.compact zs))),_,e2,s1.trans s2,?_,rfl,rfl⟩
  have ht:(ints (Lib.compact zs++List.replicate (zs.length-(Lib.compact zs).length) 0)).take (Lib.compact zs).length=ints (Lib.compact zs):=by
   unfold ints
   rw[<- List.map_take,List.take_left]
  rw[ht] at r2
  exact r2
end
theorem C4j{n nb:Nat}{ρ:D5}{os:List AO}(t:Nat){id len sz frz:Nat}{nl:Bool}{es:List (List D)}(ht:ρ t=.arr id len)(ho:os[id]?=some (.arr es sz frz nl))(hl:len=es.length) :
  A05 n nb ρ os (upd t (.d (if nl then .nil else .sl es)) ρ) (os.set id (.arr es sz es.length nl)):=by
 intro c M G w a hR
 have hv:=hR.tmps t
 rw[ht] at hv
 obtain⟨M1,h1,h2,h3⟩:=A6U hR.env (c:=.arr id len) (x:=if nl then .nil else .sl es) (os1:=os.set id (.arr es sz es.length nl)) (by unfold A0Y;dsimp only;rw[ho];dsimp only;rw[if_pos hl]) hv
 exact⟨M1,G,{
  env:=h1,since:=hR.since.trans h2,size:=hR.size,defers:=hR.defers,base:=hR.base
  tmps:=λs=>by
   have hs:=(hR.tmps s).since h2
   unfold upd
   split
   ·rename_i h
    subst h
    exact h3
   ·exact hs}⟩
theorem C4F{P:Program}{n nb:Nat}{cd:IC}{N:Sl->List AO->Prop}{E0:Nat->Sl->List AO->Prop}{R:Sl->List AO->Prop}{L:Sl}{os:List AO}(t:Nat){id len sz frz:Nat}{nl:Bool}{es:List (List D)}(ht:E8 L t=.arr id len)(ho:os[id]?=some (.arr es sz frz nl))(hl:len=es.length)
  (k:Go (s8 P n nb cd N E0 R ((t,.d (if nl then .nil else .sl es))::L) (os.set id (.arr es sz es.length nl)))):s8 P n nb cd N E0 R L os:=by
 have hw:=C4j (n:=n) (nb:=nb) (ρ:=E8 L) (os:=os) t ht ho hl
 rw[A9l] at hw
 refine⟨λcode hc c M G w a hR=>?_⟩
 obtain⟨M',G',hR'⟩:=hw c M G w a hR
 exact k.h code hc c M' G' w a hR'
end Go.Bi
end
section
namespace Go.Proofs
open Go.Bi
theorem B4a(es:List (List D))(hm:∀e∈es,e.length=1)(nl:Bool)(rd:D)(k:Int)(hk:es.length+k.toNat<=4294967296) :
  B9 Tryz.prog B95 [.arr 0 es.length,.d rd,.d (eI k)] [.arr es 1 0 nl] (λr os=>r=.arr 0 (es++List.replicate k.toNat [rd]).length/\os=[.arr (es++List.replicate k.toNat [rd]) 1 0 (nl&&decide (k<=0))]):=by
 refine C82.goO A6 rfl ?_
 repeat' first|refine st ?_|((with_reducible apply A4);conv=>whnf)|refine⟨λ_=>?_,λ_=>?_⟩|fail
 refine L6 A6 D15 C9O (λ(i:Nat) (w:List (List D))=>[.arr 0 w.length,.d (eI i)]) (λi w=>[.arr w 1 0 (nl&&decide (i=0))]) (λi w=>i<=k.toNat/\w=es++List.replicate i [rd]) (λi w=>k.toNat-i) 0 es rfl rfl rfl (by cases nl<;>rfl) (λ_ _ _=>⟨rfl,rfl⟩) rfl ⟨N1 _,by simp⟩ ?_
 repeat' first|refine st ?_|((with_reducible apply A4);conv=>whnf)|refine⟨λ_=>?_,λ_=>?_⟩|fail
 intro i w ⟨i1,i2⟩
 have hwl:w.length=es.length+i:=by rw[i2];simp
 have hwm:∀e∈w,e.length=1:=by
  rw[i2]
  intro e he
  rcases K8.1 he with he|he
  ·exact hm e he
  ·rw[(A8b.1 he).2];rfl
 have hbd:(w.length+1)*24<=140737488355328:=by omega
 by_cases h:i<k.toNat
 ·have hil:(i:Int)<k:=by omega
  have i3:w++[[rd]]=es++List.replicate (i+1) [rd]:=by rw[i2,List.replicate_succ',S6]
  clear i2
  repeat' first|refine st ?_|((with_reducible apply A4);conv=>whnf)|refine⟨λ_=>?_,λ_=>?_⟩|fail
  refine⟨i+1,w++[[rd]],?_,rfl,?_,by omega,by omega,i3⟩
  ·simp
  ·simp
 ·have hil:k<=i:=by omega
  have hik:i=k.toNat:=by omega
  have i3:es++List.replicate k.toNat [rd]=w:=by rw[i2,hik]
  have hz:decide (i=0)=decide (k<=0):=by
   by_cases h0:k<=0
   ·rw[decide_eq_true h0,decide_eq_true (by omega)]
   ·rw[decide_eq_false h0,decide_eq_false (by omega)]
  rw[i3,hz]
  clear i2
  repeat' first|refine st ?_|((with_reducible apply A4);conv=>whnf)|refine⟨λ_=>?_,λ_=>?_⟩|fail
  all_goals exact⟨rfl,rfl⟩
theorem B39{b:Bool}{es:List (List D)}(h:b=true->es=[]):A9 (X8 b es) es:=by
 unfold X8
 cases b with
 |true=>exact .inl ⟨rfl,h rfl⟩
 |false=>exact .inr rfl
theorem B3l{v w:Vl}:b6 v w=0↔v=w:=by
 obtain⟨a,b,s⟩:=v
 obtain⟨c,d,t⟩:=w
 have h3:=(B1G s t).2.2.1
 unfold b6 or3
 constructor
 ·intro h
  by_cases h1:W9 a c=0
  ·by_cases h2:W9 b d=0
   ·have h4:w7 s t=0:=by
     simp[h1,h2] at h;exact h
    rw[A1x.1 h1,A1x.1 h2,h3.1 h4]
   ·simp[h1,h2] at h
  ·simp[h1] at h
 ·intro h
  cases h
  have h1:W9 a a=0:=A1x.2 rfl
  have h2:W9 b b=0:=A1x.2 rfl
  have h4:w7 s s=0:=h3.2 rfl
  simp[h1,h2,h4]
theorem B1H:∀{a b:B5},K5 a b=0↔a=b
 |[],[]=>by simp[K5]
 |[],w::s=>by simp[K5]
 |v::r,[]=>by simp[K5]
 |v::r,w::s=>by
  have ih:=@B1H r s
  rw[K5]
  by_cases h:b6 v w=0
  ·rw[if_pos h,ih,B3l.1 h];simp
  ·rw[if_neg h]
   constructor
   ·intro g;exact absurd g h
   ·intro g;cases g;exact absurd (B3l.2 rfl) h
def X0(w:List (B5×Nat))(x:B5):List (B5×Nat):=match w.getLast? with
 |some p=>if K5 p.1 x=0 then w.dropLast++[(p.1,p.2+1)] else w++[(x,1)]
 |none=>[(x,1)]
def O3(l:List B5):List (B5×Nat):=l.foldl X0 []
abbrev cR(w:List (B5×Nat)):List (List D):=rD (w.map Prod.fst)
abbrev cN(w:List (B5×Nat)):List (List D):=A5 (w.map λp=>(p.2:Int))
theorem B1I(u:List (B5×Nat))(p x:B5)(n:Nat):X0 (u++[(p,n)]) x=if K5 p x=0 then u++[(p,n+1)] else u++[(p,n)]++[(x,1)]:=by
 unfold X0
 rw[List.getLast?_append]
 simp
theorem D6s{β:Type}{f:β->B5->β}{l:List B5}{i:Nat}{x:B5}(b:β)(h:l[i]?=some x):(l.take (i+1)).foldl f b=f ((l.take i).foldl f b) x:=by
 rw[L8,h,A64];rfl
theorem A8L(B:List (List D))(y:List D):(((B++[y]).length:Int)-1).toNat=B.length:=by
 rw[H8];simp
theorem D5p(w:List (B5×Nat))(x:B5):(cN w++[[D.int .i64 0]]).set ((((cN w++[[D.int .i64 0]]).length:Int)-1).toNat) [D.int .i64 (0+1)]=cN (w++[(x,1)]):=by
 rw[A8L,List.set_append_right _ _ (D3 _),Nat.sub_self]
 simp[cN,A5]
theorem D5o(u:List (B5×Nat))(p:B5)(n:Nat):(cN (u++[(p,n)])).set (((cN (u++[(p,n)])).length:Int)-1).toNat [D.int .i64 ((n:Int)+1)]=cN (u++[(p,n+1)]):=by
 have e:∀m:Nat,cN (u++[(p,m)])=cN u++[[eI m]]:=λm=>by simp[cN,A5]
 rw[e,e,A8L,List.set_append_right _ _ (D3 _),Nat.sub_self]
 simp
theorem B47(l:List Rw)(hl:l.length<=4294967296)(hr:∀r∈l,r.vs.length<=4294967296)(d:D)(hd:A9 d (B7 l)) :
  ∃d1 d2:D,A9 d1 (cR (O3 (D1 (A8 l))))/\A9 d2 (cN (O3 (D1 (A8 l))))/\Pure Tryz.prog B92 [.d d] (.tup [.d d1,.d d2]):=by
 have hO:=A0p l hl hr d hd
 have hvl:(A8 l).length=l.length:=by unfold A8;rw[D8]
 have hol:=A14 _ (A8 l) (D3 _)
 have hor:∀r∈D1 (A8 l),r.length<=4294967296:=λr h=>by
  obtain⟨x,hx,rfl⟩:=D7.1 (A1I _ _ (D3 _) r h)
  exact hr x hx
 obtain⟨Z,hZ⟩:∃z,z=D1 (A8 l):=⟨_,rfl⟩
 rw[<- hZ] at hO hol hor ⊢
 have l1:=p9 Z
 have m1:=r5 Z
 have g1:=λi v=>@A2V Z i v
 obtain⟨es,hes⟩:∃z,z=rD Z:=⟨_,rfl⟩
 rw[<- hes] at hO l1 m1 g1
 clear hes hZ hd hr
 obtain⟨q,hq⟩:∃q,q=O3 Z:=⟨_,rfl⟩
 rw[<- hq]
 refine⟨X8 (cR q).isEmpty (cR q),X8 (cN q).isEmpty (cN q),B39 λe=>A0r.1 e,B39 λe=>A0r.1 e,?_⟩
 refine C7X.go A6 rfl ?_
 repeat' first|refine st ?_|((with_reducible apply A4);conv=>whnf)|refine⟨λ_=>?_,λ_=>?_⟩|fail
 refine U7 5 1 rfl rfl ?_
 refine U7 6 1 rfl rfl ?_
 refine L6 A6 D0Z C9I (λ(i:Nat) (w:List (B5×Nat))=>[.arr 0 (cR w).length,.arr 1 (cN w).length,.d (eI i)]) (λi w=>[.arr (cR w) 1 0 (cR w).isEmpty,.arr (cN w) 1 0 (cN w).isEmpty]) (λi w=>i<=Z.length/\w=(Z.take i).foldl X0 []/\((i=0/\w=[])\/∃p u n,0<i/\Z[i-1]?=some p/\w=u++[(p,n)])/\w.length<=i/\(∀p∈w,p.2<=i)) (λi w=>Z.length-i) 0 [] rfl rfl rfl rfl (λ_ _ _=>⟨rfl,rfl⟩) rfl ⟨by omega,rfl,.inl ⟨rfl,rfl⟩,D3 _,λp hp=>absurd hp (by simp)⟩ ?_
 repeat' first|refine st ?_|((with_reducible apply A4);conv=>whnf)|refine⟨λ_=>?_,λ_=>?_⟩|fail
 intro i w ⟨i1,i2,i3,i4,i5⟩
 have hw1:(cR w).length=w.length:=by rw[p9,D8]
 have hw2:(cN w).length=w.length:=by rw[F9,D8]
 have hwm1:∀e∈cR w,e.length=1:=r5 _
 have hwm2:∀e∈cN w,e.length=1:=I1 _
 cases hx:Z[i]? with
 |some x=>
  have hlt:=(B4.1 hx).1
  have hil:(i:Int)<es.length:=by omega
  have e1:es[((i:Nat):Int).toNat]?=some [.sl (B6 x)]:=g1 i x hx
  have hft:=D6s (f:=X0) [] hx
  rw[<- i2] at hft
  have happ:∀u:List (B5×Nat),cR (u++[(x,1)])=cR u++[[.sl (B6 x)]]:=λu=>by simp[cR,rD]
  have hbd1:((cR w).length+1)*24<=140737488355328:=by omega
  have hbd2:((cN w).length+1)*8<=140737488355328:=by omega
  have hnw:=D5p w x
  have hap:=happ w
  have hn1:(cR w++[[D.sl (B6 x)]]).isEmpty=false:=by simp
  have hn2:(cN (w++[(x,1)])).isEmpty=false:=by simp[cN,A5]
  have hBl:((cN w++[[D.int .i64 0]]).length:Int)=(cN w).length+1:=by simp
  have hBg:(cN w++[[D.int .i64 0]])[(((cN w++[[D.int .i64 0]]).length:Int)-1).toNat]?=some [D.int .i64 0]:=by rw[A8L];simp
  have hnext:∀p∈w++[(x,1)],p.2<=i+1:=λp hp=>by
   rcases K8.1 hp with hp|hp
   ·exact Nat.le_succ_of_le (i5 p hp)
   ·rw[M7.1 hp];exact Nat.le_add_left 1 i
  rcases i3 with ⟨h0,hwn⟩|⟨p,u,n,h0,hp,hwu⟩
  ·have hft:(Z.take (i+1)).foldl X0 []=w++[(x,1)]:=by rw[hft,hwn];rfl
   have hlast:(i+1=0/\w++[(x,1)]=[])\/∃p u n,0<i+1/\Z[i+1-1]?=some p/\w++[(x,1)]=u++[(p,n)]:=.inr ⟨x,w,1,Nat.succ_pos _,hx,rfl⟩
   obtain⟨A,hA⟩:∃z,z=cR w:=⟨_,rfl⟩
   obtain⟨B,hB⟩:∃z,z=cN w:=⟨_,rfl⟩
   rw[<- hA] at hw1 hwm1 hbd1 hap hn1 ⊢
   rw[<- hB] at hw2 hwm2 hbd2 hnw hBl hBg ⊢
   have hi0:(i:Int)=0:=by omega
   clear i2 hx g1 hA hB happ hwn
   repeat' first|refine st ?_|((with_reducible apply A4);conv=>whnf)|refine⟨λ_=>?_,λ_=>?_⟩|fail
   exact⟨i+1,w++[(x,1)],by rw[hap,<- hnw];simp,rfl,by rw[hap,<- hnw];simp,by omega,by omega,hft.symm,hlast,by simp;omega,hnext⟩
  ·have hi0:¬(i:Int)=0:=by omega
   have e2:es[((i:Int)-1).toNat]?=some [.sl (B6 p)]:=by rw[show((i:Int)-1).toNat=i-1 by omega];exact g1 (i-1) p hp
   have hE:=A5Y p x (hor p (C3 hp)) (hor x (C3 hx)) (.sl (B6 p)) (.sl (B6 x)) (.inr rfl) (.inr rfl)
   have hni:n<=i:=i5 (p,n) (by rw[hwu];simp)
   have hwl:u.length+1=w.length:=by rw[hwu];simp
   have hft2:(Z.take (i+1)).foldl X0 []=X0 (u++[(p,n)]) x:=by rw[hft,hwu]
   rw[B1I] at hft2
   have hmore:=D5o u p n
   have hsame:cR (u++[(p,n+1)])=cR w:=by rw[hwu];simp[cR,rD]
   have hBn:(cN w)[(((cN w).length:Int)-1).toNat]?=some [eI n]:=by
    have e:cN w=cN u++[[eI n]]:=by rw[hwu];simp[cN,A5]
    rw[e,A8L];simp
   have hB0:(cN w).isEmpty=false:=by rw[hwu];simp[cN,A5]
   have hB1:(cN (u++[(p,n+1)])).isEmpty=false:=by simp[cN,A5]
   have hnext2:∀z∈u++[(p,n+1)],z.2<=i+1:=λz hz=>by
    rcases K8.1 hz with hz|hz
    ·exact Nat.le_succ_of_le (i5 z (by rw[hwu];simp[hz]))
    ·rw[M7.1 hz];exact Nat.add_le_add_right hni 1
   have hpos:0<w.length:=by omega
   by_cases hc:K5 p x=0
   ·rw[decide_eq_true hc] at hE
    rw[if_pos hc] at hft2
    have hpx:p=x:=B1H.1 hc
    have hlast:(i+1=0/\u++[(p,n+1)]=[])\/∃p' u' n',0<i+1/\Z[i+1-1]?=some p'/\u++[(p,n+1)]=u'++[(p',n')]:=.inr ⟨p,u,n+1,Nat.succ_pos _,by rw[hpx];exact hx,rfl⟩
    rw[<- hwu] at hmore
    obtain⟨A,hA⟩:∃z,z=cR w:=⟨_,rfl⟩
    obtain⟨B,hB⟩:∃z,z=cN w:=⟨_,rfl⟩
    rw[<- hA] at hw1 hwm1 hbd1 hsame ⊢
    rw[<- hB] at hw2 hwm2 hbd2 hmore hBn hB0 ⊢
    clear i2 hx g1 hA hB happ hft hnw hap hn1 hn2 hBl hBg hnext hpx hp
    repeat' first|refine st ?_|((with_reducible apply A4);conv=>whnf)|refine⟨λ_=>?_,λ_=>?_⟩|fail
    exact⟨i+1,u++[(p,n+1)],by rw[hsame,<- hmore];simp,rfl,by rw[hsame,<- hmore,hB0];simp;(cases B with|nil=>cases hB0|cons a r=>simp),by omega,by omega,hft2.symm,hlast,by simp;omega,hnext2⟩
   ·rw[decide_eq_false hc] at hE
    rw[if_neg hc,<- hwu] at hft2
    have hlast:(i+1=0/\w++[(x,1)]=[])\/∃p u n,0<i+1/\Z[i+1-1]?=some p/\w++[(x,1)]=u++[(p,n)]:=.inr ⟨x,w,1,Nat.succ_pos _,hx,rfl⟩
    obtain⟨A,hA⟩:∃z,z=cR w:=⟨_,rfl⟩
    obtain⟨B,hB⟩:∃z,z=cN w:=⟨_,rfl⟩
    rw[<- hA] at hw1 hwm1 hbd1 hap hn1 ⊢
    rw[<- hB] at hw2 hwm2 hbd2 hnw hBl hBg ⊢
    clear i2 hx g1 hA hB happ hft hmore hsame hBn hB0 hB1 hnext2 hp hwu
    repeat' first|refine st ?_|((with_reducible apply A4);conv=>whnf)|refine⟨λ_=>?_,λ_=>?_⟩|fail
    exact⟨i+1,w++[(x,1)],by rw[hap,<- hnw];simp,rfl,by rw[hap,<- hnw];simp,by omega,by omega,hft2.symm,hlast,by simp;omega,hnext⟩
 |none=>
  have hge:=E9.1 hx
  have hil:(es.length:Int)<=i:=by omega
  rw[H4 hge] at i2
  have hqw:q=w:=by rw[hq,i2];rfl
  rw[hqw]
  obtain⟨A,hA⟩:∃z,z=cR w:=⟨_,rfl⟩
  obtain⟨B,hB⟩:∃z,z=cN w:=⟨_,rfl⟩
  rw[<- hA] at hw1 hwm1 ⊢
  rw[<- hB] at hw2 hwm2 ⊢
  obtain⟨b1,hb1⟩:∃b,b=A.isEmpty:=⟨_,rfl⟩
  obtain⟨b2,hb2⟩:∃b,b=B.isEmpty:=⟨_,rfl⟩
  rw[<- hb1,<- hb2]
  clear i2 i3 hx g1 hA hB hq hqw hb1 hb2
  cases b1<;>cases b2
  all_goals skip
  all_goals repeat' first|refine st ?_|((with_reducible apply A4);conv=>whnf)|refine⟨λ_=>?_,λ_=>?_⟩|fail
  all_goals rfl
abbrev t6(x:B5)(o:List (B5×Nat)):List (B5×Nat):=o.dropWhile λp=>decide (K5 p.1 x<0)
def hdR(x:B5):List (B5×Nat)->Nat
 |p::_=>if K5 p.1 x=0 then p.2 else 0
 |[]=>0
def U5:List B5->List (B5×Nat)->List Nat
 |[],_=>[]
 |x::r,o=>hdR x (t6 x o)::U5 r (t6 x o)
theorem A9p:∀(l:List B5)(o:List (B5×Nat)),(U5 l o).length=l.length
 |[],_=>rfl
 |x::r,o=>by rw[U5,H9,A9p r,H9]
abbrev X1(l:List Nat):List (List D):=A5 (l.map Int.ofNat)
theorem D5K{x:B5}{o:List (B5×Nat)}{k:Nat}{p:B5×Nat}(h:o[k]?=some p):t6 x (o.drop k)=if K5 p.1 x<0 then t6 x (o.drop (k+1)) else o.drop k:=by
 obtain⟨h1,h2⟩:=B4.1 h
 rw[S1 h1,h2]
 show List.dropWhile _ (p::_)=_
 rw[A62]
 by_cases hc:K5 p.1 x<0
 ·rw[if_pos (decide_eq_true hc),if_pos hc]
 ·rw[if_neg (by rw[decide_eq_false hc];decide),if_neg hc]
theorem D5m{w:List (B5×Nat)}{x:B5}{m:Nat}(h1:w.length<=m)(h2:∀p∈w,p.2<=m):(X0 w x).length<=m+1/\(∀p∈X0 w x,p.2<=m+1)/\∀p∈X0 w x,p.1=x\/∃p'∈w,p'.1=p.1:=by
 unfold X0
 cases hw:w.getLast? with
 |none=>
  refine⟨by simp,λp hp=>?_,λp hp=>?_⟩
  ·rw[M7.1 hp];exact Nat.le_add_left 1 m
  ·rw[M7.1 hp];exact .inl rfl
 |some l=>
  have hl:=List.mem_of_getLast? hw
  dsimp only
  split
  ·refine⟨by rw[H8,List.length_dropLast];simp;omega,λp hp=>?_,λp hp=>?_⟩
   ·rcases K8.1 hp with hp|hp
    ·exact Nat.le_succ_of_le (h2 p (List.dropLast_subset w hp))
    ·rw[M7.1 hp];exact Nat.add_le_add_right (h2 l hl) 1
   ·rcases K8.1 hp with hp|hp
    ·exact .inr ⟨p,List.dropLast_subset w hp,rfl⟩
    ·rw[M7.1 hp];exact .inr ⟨l,hl,rfl⟩
  ·refine⟨by simp;omega,λp hp=>?_,λp hp=>?_⟩
   ·rcases K8.1 hp with hp|hp
    ·exact Nat.le_succ_of_le (h2 p hp)
    ·rw[M7.1 hp];exact Nat.le_add_left 1 m
   ·rcases K8.1 hp with hp|hp
    ·exact .inr ⟨p,hp,rfl⟩
    ·rw[M7.1 hp];exact .inl rfl
theorem C0R:∀(l:List B5)(w:List (B5×Nat))(m:Nat),w.length<=m->(∀p∈w,p.2<=m)->(l.foldl X0 w).length<=m+l.length/\(∀p∈l.foldl X0 w,p.2<=m+l.length)/\∀p∈l.foldl X0 w,p.1∈l\/∃p'∈w,p'.1=p.1
 |[],w,m,h1,h2=>⟨h1,h2,λp hp=>.inr ⟨p,hp,rfl⟩⟩
 |x::r,w,m,h1,h2=>by
  obtain⟨a1,a2,a3⟩:=D5m (x:=x) h1 h2
  obtain⟨b1,b2,b3⟩:=C0R r (X0 w x) (m+1) a1 a2
  rw[s6,H9]
  refine⟨by omega,λp hp=>by have:=b2 p hp;omega,λp hp=>?_⟩
  rcases b3 p hp with h|⟨p',hp',he⟩
  ·exact .inl (I2 _ h)
  ·rcases a3 p' hp' with h|⟨p2,hp2,he2⟩
   ·exact .inl (by rw[<- he,h];simp)
   ·exact .inr ⟨p2,hp2,he2.trans he⟩
theorem A3o(l:List Rw)(hl:l.length<=4294967296)(hr:∀r∈l,r.vs.length<=4294967296):(O3 (D1 (A8 l))).length<=4294967296/\∀p∈O3 (D1 (A8 l)),p.1.length<=4294967296/\p.2<=4294967296:=by
 obtain⟨a1,a2,a3⟩:=C0R (D1 (A8 l)) [] 0 (D3 _) (λp hp=>absurd hp (by simp))
 have hol:=A14 _ (A8 l) (D3 _)
 have hvl:(A8 l).length=l.length:=by unfold A8;rw[D8]
 refine⟨by unfold O3;omega,λp hp=>⟨?_,by have:=a2 p hp;omega⟩⟩
 rcases a3 p hp with h|⟨p',hp',_⟩
 ·obtain⟨x,hx,hxe⟩:=D7.1 (A1I _ _ (D3 _) _ h)
  rw[<- hxe];exact hr x hx
 ·exact absurd hp' (by simp)
theorem B49(a b:List Rw)(ha:a.length<=4294967296)(hb:b.length<=4294967296)(har:∀r∈a,r.vs.length<=4294967296)(hbr:∀r∈b,r.vs.length<=4294967296)(da db:D)(hda:A9 da (B7 a))(hdb:A9 db (B7 b)) :
  ∃d1 d2 d3:D,A9 d1 (cR (O3 (D1 (A8 a))))/\A9 d2 (cN (O3 (D1 (A8 a))))/\A9 d3 (X1 (U5 ((O3 (D1 (A8 a))).map Prod.fst) (O3 (D1 (A8 b)))))/\
   Pure Tryz.prog B94 [.d da,.d db] (.tup [.d d1,.d d2,.d d3]):=by
 obtain⟨d1,d2,k1,k2,hA⟩:=B47 a ha har da hda
 obtain⟨d4,d5,k4,k5,hB⟩:=B47 b hb hbr db hdb
 have hal:=(A3o a ha har).1
 have hbl:=(A3o b hb hbr).1
 have har':=λp hp=>((A3o a ha har).2 p hp).1
 have hbr':=λp hp=>((A3o b hb hbr).2 p hp).1
 obtain⟨P,hP⟩:∃z,z=O3 (D1 (A8 a)):=⟨_,rfl⟩
 obtain⟨O,hO⟩:∃z,z=O3 (D1 (A8 b)):=⟨_,rfl⟩
 rw[<- hP] at k1 k2 hal har' ⊢
 rw[<- hO] at k4 k5 hbl hbr' ⊢
 clear hP hO hda hdb
 obtain⟨q,hq⟩:∃z,z=U5 (P.map Prod.fst) O:=⟨_,rfl⟩
 rw[<- hq]
 have hql:q.length=P.length:=by rw[hq,A9p,D8]
 refine⟨d1,d2,X8 (X1 q).isEmpty (X1 q),k1,k2,B39 λe=>A0r.1 e,?_⟩
 have l1:(cR P).length=P.length:=by rw[p9,D8]
 have l4:(cR O).length=O.length:=by rw[p9,D8]
 have l5:(cN O).length=O.length:=by rw[F9,D8]
 have m1:∀e∈cR P,e.length=1:=r5 _
 have m4:∀e∈cR O,e.length=1:=r5 _
 have m5:∀e∈cN O,e.length=1:=I1 _
 have g1:∀(i:Nat) p,P[i]?=some p->(cR P)[i]?=some [.sl (B6 p.1)]:=λi p h=>A2V (by rw[J1,h];rfl)
 have g4:∀(i:Nat) p,O[i]?=some p->(cR O)[i]?=some [.sl (B6 p.1)]:=λi p h=>A2V (by rw[J1,h];rfl)
 have g5:∀(i:Nat) p,O[i]?=some p->(cN O)[i]?=some [eI (p.2:Nat)]:=λi p h=>N2 (by rw[J1,h];rfl)
 obtain⟨E1,hE1⟩:∃z,z=cR P:=⟨_,rfl⟩
 obtain⟨E4,hE4⟩:∃z,z=cR O:=⟨_,rfl⟩
 obtain⟨E5,hE5⟩:∃z,z=cN O:=⟨_,rfl⟩
 rw[<- hE1] at k1 l1 m1 g1
 rw[<- hE4] at k4 l4 m4 g4
 rw[<- hE5] at k5 l5 m5 g5
 clear hE1 hE4 hE5 k2
 refine C81.go A6 rfl ?_
 repeat' first|refine st ?_|((with_reducible apply A4);conv=>whnf)|refine⟨λ_=>?_,λ_=>?_⟩|fail
 refine U7 11 1 rfl rfl ?_
 refine A7P A6 D14 C9N (λ(i k:Nat) (w:List Nat)=>[.arr 0 (X1 w).length,.d (eI k),.d (eI i)]) (λi k w=>[.arr (X1 w) 1 0 (X1 w).isEmpty]) (λi k w=>i<=P.length/\k<=O.length/\w.length=i/\q=w++U5 ((P.drop i).map Prod.fst) (O.drop k)) (λi k w=>P.length-i) 0 0 [] rfl rfl rfl rfl (λ_ _ _ _=>⟨rfl,rfl⟩) rfl ⟨by omega,by omega,rfl,hq⟩ ?_
 repeat' first|refine st ?_|((with_reducible apply A4);conv=>whnf)|refine⟨λ_=>?_,λ_=>?_⟩|fail
 intro i k w ⟨i1,i2,i3,i4⟩
 clear hq
 have hw1:(X1 w).length=w.length:=by rw[F9,D8]
 have hwm:∀e∈X1 w,e.length=1:=I1 _
 have hbd:((X1 w).length+1)*8<=140737488355328:=by omega
 have happ:=λn:Nat=>show X1 (w++[n])=X1 w++[[eI (n:Nat)]] by simp[X1,A5]
 have hne:=λn:Nat=>show(X1 (w++[n])).isEmpty=false by simp[X1,A5]
 obtain⟨A,hA'⟩:∃z,z=X1 w:=⟨_,rfl⟩
 rw[<- hA'] at hw1 hwm hbd ⊢
 cases hx:P[i]? with
 |some p=>
  have hlt:=(B4.1 hx).1
  have hil:(i:Int)<E1.length:=by omega
  have e1:E1[((i:Nat):Int).toNat]?=some [.sl (B6 p.1)]:=g1 i p hx
  have dx:(P.drop i).map Prod.fst=p.1::(P.drop (i+1)).map Prod.fst:=by rw[S1 hlt,(B4.1 hx).2];rfl
  rw[dx,U5] at i4
  have hpr:=har' p (C3 hx)
  repeat' first|refine st ?_|((with_reducible apply A4);conv=>whnf)|refine⟨λ_=>?_,λ_=>?_⟩|fail
  refine K6 A6 D13 C9M (λ(j:Nat)=>[.d (eI j)]) (λj=>[.arr A 1 0 A.isEmpty]) (λj=>j<=O.length/\t6 p.1 (O.drop k)=t6 p.1 (O.drop j)) (λj=>O.length-j) k rfl rfl rfl rfl (λ_ _=>⟨rfl,rfl⟩) rfl ⟨i2,rfl⟩ ?_
  repeat' first|refine st ?_|((with_reducible apply A4);conv=>whnf)|refine⟨λ_=>?_,λ_=>?_⟩|fail
  intro j ⟨j1,j2⟩
  cases hy:O[j]? with
  |some o=>
   have hlt2:=(B4.1 hy).1
   have hjl:(j:Int)<E4.length:=by omega
   have hjl5:(j:Int)<E5.length:=by omega
   have e4:E4[((j:Nat):Int).toNat]?=some [.sl (B6 o.1)]:=g4 j o hy
   have e5:E5[((j:Nat):Int).toNat]?=some [eI (o.2:Nat)]:=g5 j o hy
   have hC:=A7Z o.1 p.1 (hbr' o (C3 hy)) hpr (.sl (B6 o.1)) (.sl (B6 p.1)) (.inr rfl) (.inr rfl)
   have hEq:=A5Y o.1 p.1 (hbr' o (C3 hy)) hpr (.sl (B6 o.1)) (.sl (B6 p.1)) (.inr rfl) (.inr rfl)
   have hdw:=D5K (x:=p.1) hy
   have hdo:O.drop j=o::O.drop (j+1):=by rw[S1 hlt2,(B4.1 hy).2]
   obtain⟨c,hc⟩:∃c,c=K5 o.1 p.1:=⟨_,rfl⟩
   rw[<- hc] at hC hEq hdw
   by_cases hc0:c<0
   ·rw[if_pos hc0] at hdw
    clear hx hy g1 g4 g5 happ hne i4 har' hbr' hEq
    repeat' first|refine st ?_|((with_reducible apply A4);conv=>whnf)|refine⟨λ_=>?_,λ_=>?_⟩|fail
    exact⟨j+1,rfl,rfl,rfl,by omega,by omega,j2.trans hdw⟩
   ·rw[if_neg hc0] at hdw
    rw[j2,hdw] at i4
    by_cases hc1:c=0
    ·rw[decide_eq_true hc1] at hEq
     have i5:q=(w++[o.2])++U5 ((P.drop (i+1)).map Prod.fst) (O.drop j):=by
      rw[i4,hdo]
      show w++(hdR p.1 (o::O.drop (j+1))::_)=_
      rw[hdR,if_pos (hc.symm.trans hc1),S6];rfl
     have happ:=happ o.2
     have hne:=hne o.2
     rw[<- hA'] at happ
     clear hx hy g1 g4 g5 i4 har' hbr' hdo
     repeat' first|refine st ?_|((with_reducible apply A4);conv=>whnf)|refine⟨λ_=>?_,λ_=>?_⟩|fail
     exact⟨i+1,j,w++[o.2],by rw[happ];simp,rfl,by rw[hne,happ];simp,by omega,by omega,by omega,by simp;omega,i5⟩
    ·rw[decide_eq_false hc1] at hEq
     have i5:q=(w++[0])++U5 ((P.drop (i+1)).map Prod.fst) (O.drop j):=by
      rw[i4,hdo]
      show w++(hdR p.1 (o::O.drop (j+1))::_)=_
      rw[hdR,if_neg (λh=>hc1 (hc.trans h)),S6];rfl
     have happ:=happ 0
     have hne:=hne 0
     rw[<- hA'] at happ
     clear hx hy g1 g4 g5 i4 har' hbr' hdo
     repeat' first|refine st ?_|((with_reducible apply A4);conv=>whnf)|refine⟨λ_=>?_,λ_=>?_⟩|fail
     exact⟨i+1,j,w++[0],by rw[happ];simp,rfl,by rw[hne,happ];simp,by omega,by omega,by omega,by simp;omega,i5⟩
  |none=>
   have hge:=E9.1 hy
   have hjl:(E4.length:Int)<=j:=by omega
   rw[j2,R1 hge] at i4
   have i5:q=(w++[0])++U5 ((P.drop (i+1)).map Prod.fst) (O.drop j):=by
    rw[i4,R1 hge,S6];rfl
   have happ:=happ 0
   have hne:=hne 0
   rw[<- hA'] at happ
   clear hx hy g1 g4 g5 i4 har' hbr'
   repeat' first|refine st ?_|((with_reducible apply A4);conv=>whnf)|refine⟨λ_=>?_,λ_=>?_⟩|fail
   exact⟨i+1,j,w++[0],by rw[happ];simp,rfl,by rw[hne,happ];simp,by omega,by omega,by omega,by simp;omega,i5⟩
 |none=>
  have hge:=E9.1 hx
  have hil:(E1.length:Int)<=i:=by omega
  rw[R1 hge] at i4
  have hqw:q=w:=by rw[i4];simp[U5]
  rw[hqw,<- hA']
  obtain⟨b1,hb1⟩:∃b,b=A.isEmpty:=⟨_,rfl⟩
  rw[<- hb1]
  clear i4 hx g1 g4 g5 hqw hb1 happ hne
  cases b1
  all_goals skip
  all_goals repeat' first|refine st ?_|((with_reducible apply A4);conv=>whnf)|refine⟨λ_=>?_,λ_=>?_⟩|fail
  all_goals rfl
def Z0(w:List (B5×Nat)):Nat:=(w.map Prod.snd).sum
theorem D9x(w:List (B5×Nat))(x:B5):Z0 (X0 w x)=Z0 w+1:=by
 unfold X0
 cases hw:w.getLast? with
 |none=>
  have:w=[]:=by cases w with
   |nil=>rfl
   |cons a r=>simp at hw
  rw[this];rfl
 |some l=>
  obtain⟨ys,hys⟩:=List.getLast?_eq_some_iff.1 hw
  have he:w.dropLast++[l]=w:=by rw[hys];simp
  dsimp only
  split
  ·have:Z0 w=Z0 (w.dropLast++[l]):=by rw[he]
   rw[this];simp[Z0];omega
  ·simp[Z0]
theorem B3a:∀(l:List B5)(w:List (B5×Nat)),Z0 (l.foldl X0 w)=Z0 w+l.length
 |[],w=>rfl
 |x::r,w=>by rw[s6,B3a r,D9x,H9];omega
theorem C3K(l:List Rw):Z0 (O3 (D1 (A8 l)))=l.length:=by
 unfold O3
 rw[B3a,A14 _ _ (D3 _)]
 unfold A8
 rw[D8]
 simp[Z0]
def W2(f:Nat->Nat->Int):List (B5×Nat)->List Nat->List B5
 |p::r,m::ms=>List.replicate (f p.2 m).toNat p.1++W2 f r ms
 |_,_=>[]
theorem A9y(f:Nat->Nat->Int)(hf:∀n m,(f n m).toNat<=n):∀(w:List (B5×Nat))(ms:List Nat),(W2 f w ms).length<=Z0 w
 |[],ms=>by simp[W2]
 |p::r,[]=>by simp[W2]
 |p::r,m::ms=>by
  have h1:=A9y f hf r ms
  have h2:=hf p.2 m
  simp only[W2,H8,A38,Z0,H5,List.sum_cons] at *
  omega
theorem C3n{f:Nat->Nat->Int}{w:List (B5×Nat)}{ms:List Nat}{i:Nat}{p:B5×Nat}{m:Nat}(h:w[i]?=some p)(g:ms[i]?=some m):W2 f (w.drop i) (ms.drop i)=List.replicate (f p.2 m).toNat p.1++W2 f (w.drop (i+1)) (ms.drop (i+1)):=by
 obtain⟨h1,h2⟩:=B4.1 h
 obtain⟨g1,g2⟩:=B4.1 g
 rw[S1 h1,S1 g1,h2,g2]
 rfl
theorem A9t(n:Nat)(r:B5):rD (List.replicate n r)=List.replicate n [.sl (B6 r)]:=by simp[rD]
def X5(n m:Nat):Int:=(n:Int)-m
def V3(n m:Nat):Int:=min (n:Int) m
abbrev I6(f:Nat->Nat->Int)(a b:List B5):List B5:=W2 f (O3 (D1 a)) (U5 ((O3 (D1 a)).map Prod.fst) (O3 (D1 b)))
theorem C5L(dk dk':D)(a b:List Rw)(ha:a.length<=4294967296)(hb:b.length<=4294967296)(har:∀r∈a,r.vs.length<=4294967296)(hbr:∀r∈b,r.vs.length<=4294967296)(da db:D)(hda:A9 da (B7 a))(hdb:A9 db (B7 b)) :
  Pure Tryz.prog B8P [O6 dk da,O6 dk' db] (O6 dk (X8 (rD (I6 X5 (A8 a) (A8 b))).isEmpty (rD (I6 X5 (A8 a) (A8 b))))):=by
 obtain⟨d1,d2,d3,k1,k2,k3,hP⟩:=B49 a b ha hb har hbr da db hda hdb
 have hbd:=A3o a ha har
 have hRl:(I6 X5 (A8 a) (A8 b)).length<=4294967296:=K4 (A9y X5 (λn m=>by unfold X5;omega) _ _) (by rw[C3K];exact ha)
 obtain⟨R,hR⟩:∃z,z=I6 X5 (A8 a) (A8 b):=⟨_,rfl⟩
 rw[<- hR] at hRl ⊢
 unfold I6 at hR
 have hql:=A9p ((O3 (D1 (A8 a))).map Prod.fst) (O3 (D1 (A8 b)))
 obtain⟨Q,hQ⟩:∃z,z=U5 ((O3 (D1 (A8 a))).map Prod.fst) (O3 (D1 (A8 b))):=⟨_,rfl⟩
 rw[<- hQ] at hR k3 hql
 have hmb:∀m∈Q,m<=4294967296:=by
  rw[hQ]
  have hob:=(A3o b hb hbr).2
  have key:∀(l:List B5) (o:List (B5×Nat)),(∀p∈o,p.2<=4294967296)->∀m∈U5 l o,m<=4294967296:=by
   intro l
   induction l with
   |nil=>intro o _ m hm;cases hm
   |cons x r ih=>
    intro o ho m hm
    have hd:∀p∈t6 x o,p.2<=4294967296:=λp hp=>ho p ((A4L _).subset hp)
    rw[U5] at hm
    rcases H2.1 hm with rfl|hm
    ·cases hh:t6 x o with
     |nil=>exact N1 _
     |cons p s=>
      rw[hdR]
      split
      ·exact hd p (by rw[hh];simp)
      ·exact N1 _
    ·exact ih _ hd m hm
  exact key _ _ λp hp=>(hob p hp).2
 obtain⟨P,hPP⟩:∃z,z=O3 (D1 (A8 a)):=⟨_,rfl⟩
 rw[<- hPP] at hR k1 k2 hql hbd
 rw[D8] at hql
 clear hPP hQ hda hdb
 have l1:(cR P).length=P.length:=by rw[p9,D8]
 have l2:(cN P).length=P.length:=by rw[F9,D8]
 have l3:(X1 Q).length=P.length:=by rw[F9,D8,hql]
 have m1:∀e∈cR P,e.length=1:=r5 _
 have m2:∀e∈cN P,e.length=1:=I1 _
 have m3:∀e∈X1 Q,e.length=1:=I1 _
 have g1:∀(i:Nat) p,P[i]?=some p->(cR P)[i]?=some [.sl (B6 p.1)]:=λi p h=>A2V (by rw[J1,h];rfl)
 have g2:∀(i:Nat) p,P[i]?=some p->(cN P)[i]?=some [eI (p.2:Nat)]:=λi p h=>N2 (by rw[J1,h];rfl)
 have g3:∀(i:Nat) m,Q[i]?=some m->(X1 Q)[i]?=some [eI (m:Nat)]:=λi m h=>N2 (by rw[J1,h];rfl)
 obtain⟨E1,hE1⟩:∃z,z=cR P:=⟨_,rfl⟩
 obtain⟨E2,hE2⟩:∃z,z=cN P:=⟨_,rfl⟩
 obtain⟨E3,hE3⟩:∃z,z=X1 Q:=⟨_,rfl⟩
 rw[<- hE1] at k1 l1 m1 g1
 rw[<- hE2] at k2 l2 m2 g2
 rw[<- hE3] at k3 l3 m3 g3
 clear hE1 hE2 hE3
 have hPl:=hbd.1
 refine C7L.go A6 rfl ?_
 repeat' first|refine st ?_|((with_reducible apply A4);conv=>whnf)|refine⟨λ_=>?_,λ_=>?_⟩|fail
 refine A1U 3 1 1 rfl rfl rfl ?_
 refine L6 A6 D0K C9t (λ(i:Nat) (w:List B5)=>[.d (eI i)]) (λi w=>[.cells [.d dk,.d da],.cells [.d dk',.d db],.cells [.d .nil,.d .nil],.cells [.d dk,.arr 4 (rD w).length],.arr (rD w) 1 0 (rD w).isEmpty]) (λi w=>i<=P.length/\R=w++W2 X5 (P.drop i) (Q.drop i)) (λi w=>P.length-i) 0 [] rfl rfl rfl rfl (λ_ _ _=>⟨rfl,rfl⟩) rfl ⟨by omega,hR⟩ ?_
 repeat' first|refine st ?_|((with_reducible apply A4);conv=>whnf)|refine⟨λ_=>?_,λ_=>?_⟩|fail
 intro i w ⟨i1,i2⟩
 clear hR
 have hwm:=r5 w
 have hw1:=p9 w
 cases hx:P[i]? with
 |some p=>
  have hlt:=(B4.1 hx).1
  have hil:(i:Int)<E1.length:=by omega
  have hil2:(i:Int)<E2.length:=by omega
  have hil3:(i:Int)<E3.length:=by omega
  obtain⟨m,hm⟩:∃m,Q[i]?=some m:=⟨_,F4 (by omega)⟩
  have e1:E1[((i:Nat):Int).toNat]?=some [.sl (B6 p.1)]:=g1 i p hx
  have e2:E2[((i:Nat):Int).toNat]?=some [eI (p.2:Nat)]:=g2 i p hx
  have e3:E3[((i:Nat):Int).toNat]?=some [eI (m:Nat)]:=g3 i m hm
  have hn:=(hbd.2 p (C3 hx)).2
  have hmm:=hmb m (C3 hm)
  rw[C3n hx hm,<- S6] at i2
  have hlen:(rD w).length+(X5 p.2 m).toNat<=4294967296:=by
   have:=congrArg List.length i2
   rw[H8,H8,A38] at this
   omega
  have hRep:=B4a (rD w) hwm (rD w).isEmpty (.sl (B6 p.1)) (X5 p.2 m) hlen
  have hap:rD w++List.replicate (X5 p.2 m).toNat [.sl (B6 p.1)]=rD (w++List.replicate (X5 p.2 m).toNat p.1):=by rw[A2i,A9t]
  have hnl:((rD w).isEmpty&&decide (X5 p.2 m<=0))=(rD (w++List.replicate (X5 p.2 m).toNat p.1)).isEmpty:=by
   rw[A2i,A9t]
   cases rD w with
   |cons z zs=>rfl
   |nil=>
    by_cases h0:X5 p.2 m<=0
    ·rw[decide_eq_true h0,show(X5 p.2 m).toNat=0 by omega];rfl
    ·rw[decide_eq_false h0]
     obtain⟨z,hz⟩:∃z,(X5 p.2 m).toNat=z+1:=⟨(X5 p.2 m).toNat-1,by omega⟩
     rw[hz];rfl
  rw[hap,hnl] at hRep
  unfold X5 at hRep hap hnl i2
  obtain⟨A,hA⟩:∃z,z=rD w:=⟨_,rfl⟩
  rw[<- hA] at hRep hw1 hwm ⊢
  obtain⟨n,hn'⟩:∃n,n=p.2:=⟨_,rfl⟩
  rw[<- hn'] at hRep e2 hn i2
  obtain⟨W,hW⟩:∃z,z=w++List.replicate ((n:Int)-m:Int).toNat p.1:=⟨_,rfl⟩
  rw[<- hW] at hRep i2
  clear hap hnl hx hm g1 g2 g3 hbd hmb hW hn'
  repeat' first|refine st ?_|((with_reducible apply A4);conv=>whnf)|refine⟨λ_=>?_,λ_=>?_⟩|fail
  exact⟨i+1,W,rfl,rfl,rfl,by omega,by omega,i2⟩
 |none=>
  have hge:=E9.1 hx
  have hil:(E1.length:Int)<=i:=by omega
  rw[R1 hge] at i2
  have hRw:R=w:=by rw[i2];simp[W2]
  rw[hRw]
  obtain⟨A,hA⟩:∃z,z=rD w:=⟨_,rfl⟩
  rw[<- hA] at hw1 hwm ⊢
  obtain⟨b1,hb1⟩:∃b,b=A.isEmpty:=⟨_,rfl⟩
  rw[<- hb1]
  clear i2 hx g1 g2 g3 hRw hb1 hA
  cases b1
  all_goals skip
  all_goals repeat' first|refine st ?_|((with_reducible apply A4);conv=>whnf)|refine⟨λ_=>?_,λ_=>?_⟩|fail
  all_goals rfl
theorem C5O(dk dk':D)(a b:List Rw)(ha:a.length<=4294967296)(hb:b.length<=4294967296)(har:∀r∈a,r.vs.length<=4294967296)(hbr:∀r∈b,r.vs.length<=4294967296)(da db:D)(hda:A9 da (B7 a))(hdb:A9 db (B7 b)) :
  Pure Tryz.prog B8T [O6 dk da,O6 dk' db] (O6 dk (X8 (rD (I6 V3 (A8 a) (A8 b))).isEmpty (rD (I6 V3 (A8 a) (A8 b))))):=by
 obtain⟨d1,d2,d3,k1,k2,k3,hP⟩:=B49 a b ha hb har hbr da db hda hdb
 have hbd:=A3o a ha har
 have hRl:(I6 V3 (A8 a) (A8 b)).length<=4294967296:=K4 (A9y V3 (λn m=>by unfold V3;omega) _ _) (by rw[C3K];exact ha)
 obtain⟨R,hR⟩:∃z,z=I6 V3 (A8 a) (A8 b):=⟨_,rfl⟩
 rw[<- hR] at hRl ⊢
 unfold I6 at hR
 have hql:=A9p ((O3 (D1 (A8 a))).map Prod.fst) (O3 (D1 (A8 b)))
 obtain⟨Q,hQ⟩:∃z,z=U5 ((O3 (D1 (A8 a))).map Prod.fst) (O3 (D1 (A8 b))):=⟨_,rfl⟩
 rw[<- hQ] at hR k3 hql
 have hmb:∀m∈Q,m<=4294967296:=by
  rw[hQ]
  have hob:=(A3o b hb hbr).2
  have key:∀(l:List B5) (o:List (B5×Nat)),(∀p∈o,p.2<=4294967296)->∀m∈U5 l o,m<=4294967296:=by
   intro l
   induction l with
   |nil=>intro o _ m hm;cases hm
   |cons x r ih=>
    intro o ho m hm
    have hd:∀p∈t6 x o,p.2<=4294967296:=λp hp=>ho p ((A4L _).subset hp)
    rw[U5] at hm
    rcases H2.1 hm with rfl|hm
    ·cases hh:t6 x o with
     |nil=>exact N1 _
     |cons p s=>
      rw[hdR]
      split
      ·exact hd p (by rw[hh];simp)
      ·exact N1 _
    ·exact ih _ hd m hm
  exact key _ _ λp hp=>(hob p hp).2
 obtain⟨P,hPP⟩:∃z,z=O3 (D1 (A8 a)):=⟨_,rfl⟩
 rw[<- hPP] at hR k1 k2 hql hbd
 rw[D8] at hql
 clear hPP hQ hda hdb
 have l1:(cR P).length=P.length:=by rw[p9,D8]
 have l2:(cN P).length=P.length:=by rw[F9,D8]
 have l3:(X1 Q).length=P.length:=by rw[F9,D8,hql]
 have m1:∀e∈cR P,e.length=1:=r5 _
 have m2:∀e∈cN P,e.length=1:=I1 _
 have m3:∀e∈X1 Q,e.length=1:=I1 _
 have g1:∀(i:Nat) p,P[i]?=some p->(cR P)[i]?=some [.sl (B6 p.1)]:=λi p h=>A2V (by rw[J1,h];rfl)
 have g2:∀(i:Nat) p,P[i]?=some p->(cN P)[i]?=some [eI (p.2:Nat)]:=λi p h=>N2 (by rw[J1,h];rfl)
 have g3:∀(i:Nat) m,Q[i]?=some m->(X1 Q)[i]?=some [eI (m:Nat)]:=λi m h=>N2 (by rw[J1,h];rfl)
 obtain⟨E1,hE1⟩:∃z,z=cR P:=⟨_,rfl⟩
 obtain⟨E2,hE2⟩:∃z,z=cN P:=⟨_,rfl⟩
 obtain⟨E3,hE3⟩:∃z,z=X1 Q:=⟨_,rfl⟩
 rw[<- hE1] at k1 l1 m1 g1
 rw[<- hE2] at k2 l2 m2 g2
 rw[<- hE3] at k3 l3 m3 g3
 clear hE1 hE2 hE3
 have hPl:=hbd.1
 refine C7P.go A6 rfl ?_
 repeat' first|refine st ?_|((with_reducible apply A4);conv=>whnf)|refine⟨λ_=>?_,λ_=>?_⟩|fail
 refine A1U 3 1 1 rfl rfl rfl ?_
 refine L6 A6 D0Q C9z (λ(i:Nat) (w:List B5)=>[.d (eI i)]) (λi w=>[.cells [.d dk,.d da],.cells [.d dk',.d db],.cells [.d .nil,.d .nil],.cells [.d dk,.arr 4 (rD w).length],.arr (rD w) 1 0 (rD w).isEmpty]) (λi w=>i<=P.length/\R=w++W2 V3 (P.drop i) (Q.drop i)) (λi w=>P.length-i) 0 [] rfl rfl rfl rfl (λ_ _ _=>⟨rfl,rfl⟩) rfl ⟨by omega,hR⟩ ?_
 repeat' first|refine st ?_|((with_reducible apply A4);conv=>whnf)|refine⟨λ_=>?_,λ_=>?_⟩|fail
 intro i w ⟨i1,i2⟩
 clear hR
 have hwm:=r5 w
 have hw1:=p9 w
 cases hx:P[i]? with
 |some p=>
  have hlt:=(B4.1 hx).1
  have hil:(i:Int)<E1.length:=by omega
  have hil2:(i:Int)<E2.length:=by omega
  have hil3:(i:Int)<E3.length:=by omega
  obtain⟨m,hm⟩:∃m,Q[i]?=some m:=⟨_,F4 (by omega)⟩
  have e1:E1[((i:Nat):Int).toNat]?=some [.sl (B6 p.1)]:=g1 i p hx
  have e2:E2[((i:Nat):Int).toNat]?=some [eI (p.2:Nat)]:=g2 i p hx
  have e3:E3[((i:Nat):Int).toNat]?=some [eI (m:Nat)]:=g3 i m hm
  have hn:=(hbd.2 p (C3 hx)).2
  have hmm:=hmb m (C3 hm)
  rw[C3n hx hm,<- S6] at i2
  have hlen:(rD w).length+(V3 p.2 m).toNat<=4294967296:=by
   have:=congrArg List.length i2
   rw[H8,H8,A38] at this
   omega
  have hRep:=B4a (rD w) hwm (rD w).isEmpty (.sl (B6 p.1)) (V3 p.2 m) hlen
  have hap:rD w++List.replicate (V3 p.2 m).toNat [.sl (B6 p.1)]=rD (w++List.replicate (V3 p.2 m).toNat p.1):=by rw[A2i,A9t]
  have hnl:((rD w).isEmpty&&decide (V3 p.2 m<=0))=(rD (w++List.replicate (V3 p.2 m).toNat p.1)).isEmpty:=by
   rw[A2i,A9t]
   cases rD w with
   |cons z zs=>rfl
   |nil=>
    by_cases h0:V3 p.2 m<=0
    ·rw[decide_eq_true h0,show(V3 p.2 m).toNat=0 by omega];rfl
    ·rw[decide_eq_false h0]
     obtain⟨z,hz⟩:∃z,(V3 p.2 m).toNat=z+1:=⟨(V3 p.2 m).toNat-1,by omega⟩
     rw[hz];rfl
  rw[hap,hnl] at hRep
  unfold V3 at hRep hap hnl i2
  obtain⟨A,hA⟩:∃z,z=rD w:=⟨_,rfl⟩
  rw[<- hA] at hRep hw1 hwm ⊢
  obtain⟨n,hn'⟩:∃n,n=p.2:=⟨_,rfl⟩
  rw[<- hn'] at hRep e2 hn i2
  obtain⟨W,hW⟩:∃z,z=w++List.replicate (min (n:Int) m:Int).toNat p.1:=⟨_,rfl⟩
  rw[<- hW] at hRep i2
  clear hap hnl hx hm g1 g2 g3 hbd hmb hW hn'
  repeat' first|refine st ?_|((with_reducible apply A4);conv=>whnf)|refine⟨λ_=>?_,λ_=>?_⟩|fail
  exact⟨i+1,W,rfl,rfl,rfl,by omega,by omega,i2⟩
 |none=>
  have hge:=E9.1 hx
  have hil:(E1.length:Int)<=i:=by omega
  rw[R1 hge] at i2
  have hRw:R=w:=by rw[i2];simp[W2]
  rw[hRw]
  obtain⟨A,hA⟩:∃z,z=rD w:=⟨_,rfl⟩
  rw[<- hA] at hw1 hwm ⊢
  obtain⟨b1,hb1⟩:∃b,b=A.isEmpty:=⟨_,rfl⟩
  rw[<- hb1]
  clear i2 hx g1 g2 g3 hRw hb1 hA
  cases b1
  all_goals skip
  all_goals repeat' first|refine st ?_|((with_reducible apply A4);conv=>whnf)|refine⟨λ_=>?_,λ_=>?_⟩|fail
  all_goals rfl
end Go.Proofs
end
section
namespace Go.Bi
open Go
section
variable {P:Program}{n nb:Nat}{M:D4}{G:Gh}{os:List AO}{w:World}{ρ:D5}{a:Act}
end
end Go.Bi
end
section
namespace Go.Proofs
open Go.Bi
theorem A9k{A:List (List D)}{b:Bool}(h:b=A.isEmpty):A9 (if b then .nil else .sl A) A:=by
 subst h
 cases A with
 |nil=>exact .inl ⟨rfl,rfl⟩
 |cons a r=>exact .inr rfl
theorem C5J(dk:D)(l:List Rw)(hl:l.length<=4294967296)(hr:∀r∈l,r.vs.length<=4294967296)(dr:D)(hd:A9 dr (B7 l)) :
  Pure Tryz.prog B8O [O6 dk dr] (O6 dk (.sl (rD (S3 none (D1 (A8 l)))))):=by
 have h:=C6f l hl hr dr hd
 obtain⟨Z,hZ⟩:∃z,z=rD (S3 none (D1 (A8 l))):=⟨_,rfl⟩
 rw[<- hZ] at h ⊢
 refine C7K.go A6 rfl ?_
 repeat' first|refine st ?_|((with_reducible apply A4);conv=>whnf)|refine⟨λ_=>?_,λ_=>?_⟩|fail
 all_goals rfl
theorem C6g(n:Nat)(hn:n<=4096):Pure Tryz.prog B0T [.d (eI n)] (.d (.sl (B6 (List.replicate n E6)))):=by
 have hN:=S0
 refine C7h.go A6 rfl ?_
 repeat' first|refine st ?_|((with_reducible apply A4);conv=>whnf)|refine⟨λ_=>?_,λ_=>?_⟩|fail
 refine L6 A6 D0q C99 (λ(i:Nat) (w:List (List D))=>[.arr 0 w.length,.d (eI i)]) (λi w=>[.arr w 3 0 false]) (λi w=>i<=n/\w=B6 (List.replicate i E6)) (λi w=>n-i) 0 [] rfl rfl rfl rfl (λ_ _ _=>⟨rfl,rfl⟩) rfl ⟨N1 _,rfl⟩ ?_
 repeat' first|refine st ?_|((with_reducible apply A4);conv=>whnf)|refine⟨λ_=>?_,λ_=>?_⟩|fail
 intro i w ⟨i1,i2⟩
 have hwl:w.length=i:=by rw[i2,X3,A38]
 have hwm:∀e∈w,e.length=3:=by rw[i2];exact T7 _
 have hbd:(w.length+1)*32<=140737488355328:=by omega
 have hn2:(n:Int)<=4096:=by omega
 by_cases h:i<n
 ·have hil:(i:Int)<n:=by omega
  have i3:w++[E6.ds]=B6 (List.replicate (i+1) E6):=by rw[i2,List.replicate_succ'];simp[B6]
  clear i2
  repeat' first|refine st ?_|((with_reducible apply A4);conv=>whnf)|refine⟨λ_=>?_,λ_=>?_⟩|fail
  refine⟨i+1,w++[E6.ds],?_,rfl,?_,by omega,by omega,i3⟩
  ·simp
  ·first|rfl|simp
 ·have hil:¬(i:Int)<n:=by omega
  have hin:i=n:=by omega
  rw[<- hin,<- i2]
  clear i2
  repeat' first|refine st ?_|((with_reducible apply A4);conv=>whnf)|refine⟨λ_=>?_,λ_=>?_⟩|fail
  all_goals rfl
theorem B48(a b:List Int)(hab:a.length+b.length<=4294967296)(da db:D)(hda:A9 da (A5 a))(hdb:A9 db (A5 b)) :
  Pure Tryz.prog B93 [.d da,.d db] (.d (X8 (A5 (a++b)).isEmpty (A5 (a++b)))):=by
 have l1:=F9 a
 have l2:=F9 b
 have m1:=I1 a
 have m2:=I1 b
 have e:A5 (a++b)=A5 a++A5 b:=by simp[A5]
 rw[e]
 obtain⟨es,hes⟩:∃z,z=A5 a:=⟨_,rfl⟩
 obtain⟨fs,hfs⟩:∃z,z=A5 b:=⟨_,rfl⟩
 rw[<- hes] at hda l1 m1 ⊢
 rw[<- hfs] at hdb l2 m2 ⊢
 clear hes hfs e
 have b1:es.length*8<=140737488355328/\es.length<=9223372036854775807:=by omega
 have b2:(es.length+fs.length)*8<=140737488355328/\es.length+fs.length<=9223372036854775807:=by omega
 rcases hda with ⟨rfl,rfl⟩|rfl<;>rcases hdb with ⟨rfl,rfl⟩|rfl
 all_goals refine C7Z.go A6 rfl ?_
 all_goals repeat' first|refine st ?_|((with_reducible apply A4);conv=>whnf)|refine⟨λ_=>?_,λ_=>?_⟩|fail
 all_goals first|rfl|(cases fs<;>rfl)|(cases es<;>rfl)|(cases es<;>cases fs<;>rfl)
theorem C5U(dk dk':D)(a b:List Rw)(hab:a.length+b.length<=4294967296)(har:∀r∈a,r.vs.length<=4294967296)(hbr:∀r∈b,r.vs.length<=4294967296)(da db:D)(hda:A9 da (B7 a))(hdb:A9 db (B7 b)) :
  Pure Tryz.prog B91 [O6 dk da,O6 dk' db] (O6 dk (.sl (rD (D1 (A8 a++A8 b))))):=by
 have hS:=A0p (a++b) (by simp;omega) (λr h=>by
  rcases K8.1 h with h|h
  ·exact har r h
  ·exact hbr r h) (if (B7 (a++b)).isEmpty then .nil else .sl (B7 (a++b))) (A9k rfl)
 rw[show A8 (a++b)=A8 a++A8 b by simp[A8],A8R] at hS
 obtain⟨Z,hZ⟩:∃z,z=rD (D1 (A8 a++A8 b)):=⟨_,rfl⟩
 rw[<- hZ] at hS ⊢
 have l1:=U8 a
 have l2:=U8 b
 have m1:=X2 a
 have m2:=X2 b
 obtain⟨es,hes⟩:∃z,z=B7 a:=⟨_,rfl⟩
 obtain⟨fs,hfs⟩:∃z,z=B7 b:=⟨_,rfl⟩
 rw[<- hes] at hda l1 m1 hS
 rw[<- hfs] at hdb l2 m2 hS
 clear hes hfs hZ har hbr
 have b1:es.length*24<=140737488355328/\es.length<=9223372036854775807:=by omega
 have b2:(es.length+fs.length)*24<=140737488355328/\es.length+fs.length<=9223372036854775807:=by omega
 have hS:Bi.Pure Tryz.prog B0U [.d (u7 (bif fs.isEmpty then es.isEmpty else false) .nil (.sl (es++fs)))] (.d (.sl Z)):=by
  have e:(u7 (bif fs.isEmpty then es.isEmpty else false) .nil (.sl (es++fs)):D)=if (es++fs).isEmpty then .nil else .sl (es++fs):=by cases es<;>cases fs<;>rfl
  rw[e];exact hS
 rcases hda with ⟨rfl,rfl⟩|rfl<;>rcases hdb with ⟨rfl,rfl⟩|rfl
 all_goals refine C7V.go A6 rfl ?_
 all_goals repeat' first|refine st ?_|((with_reducible apply A4);conv=>whnf)|refine⟨λ_=>?_,λ_=>?_⟩|fail
 all_goals rfl
def R9(xs:List Ex)(r:B5):B5:=xs.map (ev r)
theorem C5V(xs:List Ex)(hx:xs.length<=1073741824)(hxb:∀e∈xs,e.bk<=1073741824)(dx:D)(hdx:A9 dx (xL xs))(r:B5)(hr:A3i r)(dr:D)(hdr:A9 dr (B6 r)) :
  Pure Tryz.prog A8i [.d dx,.d dr] (.d (X8 (B6 (R9 xs r)).isEmpty (B6 (R9 xs r)))):=by
 have hE:=λ(e:Ex) (h:e∈xs)=>B3W r hr.1 hr.2 dr hdr e (hxb e h)
 have l1:=P0 xs
 have m1:=P2 xs
 have g1:=λi e=>@Y1 xs i e
 obtain⟨es,hes⟩:∃z,z=xL xs:=⟨_,rfl⟩
 rw[<- hes] at hdx l1 m1 g1
 clear hes
 obtain⟨q,hq⟩:∃q,q=B6 (R9 xs r):=⟨_,rfl⟩
 rw[<- hq]
 refine C7W.go A6 rfl ?_
 repeat' first|refine st ?_|((with_reducible apply A4);conv=>whnf)|refine⟨λ_=>?_,λ_=>?_⟩|fail
 refine U7 5 3 rfl rfl ?_
 refine L6 A6 D0Y C9H (λ(i:Nat) (w:List (List D))=>[.arr 0 w.length,.d (eI i)]) (λi w=>[.arr w 3 0 w.isEmpty]) (λi w=>i<=xs.length/\w=B6 (R9 (xs.take i) r)) (λi w=>xs.length-i) 0 [] rfl rfl rfl rfl (λ_ _ _=>⟨rfl,rfl⟩) rfl ⟨by omega,rfl⟩ ?_
 repeat' first|refine st ?_|((with_reducible apply A4);conv=>whnf)|refine⟨λ_=>?_,λ_=>?_⟩|fail
 intro i w ⟨i1,i2⟩
 have hwl:w.length<=i:=by rw[i2,X3];unfold R9;rw[D8,M4];omega
 have hwm:∀e∈w,e.length=3:=by rw[i2];exact T7 _
 have hbd:(w.length+1)*32<=140737488355328:=by omega
 cases hi:xs[i]? with
 |some e=>
  have hlt:=(B4.1 hi).1
  have hil:(i:Int)<es.length:=by omega
  have hg:=g1 i e hi
  have hE:=hE e (C3 hi)
  have i3:B6 (R9 (xs.take (i+1)) r)=w++[(ev r e).ds]:=by
   rw[i2,L8,hi];simp[R9,B6]
  obtain⟨v,hv⟩:∃v,v=ev r e:=⟨_,rfl⟩
  rw[<- hv] at hE i3
  clear hv
  obtain⟨xo,xn,xv,xm,xl,xa⟩:=e
  rw[Ex.ds_mk] at hg
  rw[Ex.av_mk] at hE
  have hg:es[((i:Nat):Int).toNat]?=some (T5 xo xn xv xm (ng xl (xL xa))):=hg
  obtain⟨xd,hxd⟩:∃d,d=ng xl (xL xa):=⟨_,rfl⟩
  rw[<- hxd] at hg hE
  clear i2 hi g1 hxd
  repeat' first|refine st ?_|((with_reducible apply A4);conv=>whnf)|refine⟨λ_=>?_,λ_=>?_⟩|fail
  exact⟨i+1,w++[v.ds],by simp,rfl,by simp,by omega,by omega,i3.symm⟩
 |none=>
  have hge:=E9.1 hi
  have hil:(es.length:Int)<=i:=by omega
  rw[H4 hge,<- hq] at i2
  subst i2
  clear hi g1 hq
  repeat' first|refine st ?_|((with_reducible apply A4);conv=>whnf)|refine⟨λ_=>?_,λ_=>?_⟩|fail
  all_goals (cases w<;>rfl)
end Go.Proofs
end
section
namespace Go.Proofs
open Go.Bi
def mx(l:List Nat):Nat:=l.foldl max 0
mutual
def G5:Ex->Nat
 |.mk op n v name nl args=>1+mx (A6F args)
def A6F:List Ex->List Nat
 |[]=>[]
 |e::es=>G5 e::A6F es
end
theorem C11:∀l,A6F l=l.map G5
 |[]=>by simp[A6F]
 |e::es=>by simp[A6F,C11 es]
theorem U4(op n:Int)(v:Vl)(name:List UInt8)(nl:Bool)(args:List Ex):G5 (.mk op n v name nl args)=1+mx (args.map G5):=by rw[G5,C11]
theorem C2B{l:List Nat}{B:Nat}(h:∀x∈l,x<=B):mx l<=B:=by
 unfold mx
 have key:∀(l:List Nat) (a:Nat),a<=B->(∀x∈l,x<=B)->l.foldl max a<=B:=by
  intro l
  induction l with
  |nil=>intro a ha _;exact ha
  |cons x l ih=>intro a ha hl;exact ih (max a x) (by have:=hl x (by simp);omega) λy hy=>hl y (by simp[hy])
 exact key l 0 (N1 _) h
theorem D5C:∀e:Ex,G5 e<=e.bk:=by
 refine Ex.ind λop n v name nl args ih=>?_
 rw[U4]
 have h1:mx (args.map G5)<=(Ex.mk op n v name nl args).bk-1:=C2B λx hx=>by
  obtain⟨a,ha,rfl⟩:=D7.1 hx
  have h2:=ih a ha
  have h3:=Ex.bk_arg (op:=op) (n:=n) (v:=v) (name:=name) (nl:=nl) ha
  omega
 have:=(Ex.mk op n v name nl args).bk_pos
 omega
theorem D6t{α β:Type}(f:β->α->β)(b:β)(l:List α)(i:Nat)(x:α)(h:l[i]?=some x):(l.take (i+1)).foldl f b=f ((l.take i).foldl f b) x:=by
 rw[L8,h];simp
theorem C2C{l:List Nat}{i x:Nat}(h:l[i]?=some x):mx (l.take (i+1))=max (mx (l.take i)) x:=D6t _ _ _ _ _ h
theorem C51:∀e:Ex,e.bk<=1073741824->∀m:Nat,1<=m->m<=25->Pure Tryz.prog B19 [e.av,.d (eI m)] (.d (eI (min m (G5 e):Nat))):=by
 refine Ex.ind λop n v name nl args ih hbk m hm1 hm2=>?_
 obtain⟨b1,b2,b3,b4⟩:=Ex.bk_bounds hbk
 have ih':∀a∈args,∀m:Nat,1<=m->m<=25->Pure Tryz.prog B19 [a.av,.d (eI m)] (.d (eI (min m (G5 a):Nat))):=λa ha=>ih a ha (b4 a ha)
 clear ih
 rw[Ex.av_mk,U4]
 refine C8g.go A6 rfl ?_
 have hlen:=P0 args
 have hm:=P2 args
 have hd:A9 (ng nl (xL args)) (xL args):=C7
 have hget:∀(i:Nat) (op' n':Int) (v':Vl) (name':List UInt8) (nl':Bool) (args':List Ex),args[i]?=some (.mk op' n' v' name' nl' args')->(xL args)[i]?=some (T5 op' n' v' name' (ng nl' (xL args'))):=λi op' n' v' name' nl' args' h=>by
  rw[<- Ex.ds_mk];exact Y1 h
 obtain⟨d,hde⟩:∃d,d=ng nl (xL args):=⟨_,rfl⟩
 rw[<- hde] at hd ⊢
 obtain⟨es,hes⟩:∃es,es=xL args:=⟨_,rfl⟩
 rw[<- hes] at hlen hm hd hget
 by_cases h1:m=1
 ·subst h1
  rw[show min 1 (1+mx (args.map G5))=1 by omega]
  repeat' first|refine st ?_|((with_reducible apply A4);conv=>whnf)|refine⟨λ_=>?_,λ_=>?_⟩|fail
  all_goals rfl
 have h2:¬(m:Int)<=1:=by omega
 repeat' first|refine st ?_|((with_reducible apply A4);conv=>whnf)|refine⟨λ_=>?_,λ_=>?_⟩|fail
 refine L6 A6 D1b C9U (λ(i:Nat) (t:Nat)=>[.d (eI t),.d (eI i)]) (λi t=>[.cells [.d (eI op),.d (eI n),.d (eI v.k),.d (eI v.n),.d (.str v.s),.d (.str name),.d d]]) (λi t=>i<=args.length/\t=min m (1+mx ((args.map G5).take i))) (λi _=>args.length-i) 0 1 rfl rfl rfl rfl (λ_ _ _=>⟨rfl,rfl⟩) rfl ⟨by omega,by simp[mx];omega⟩ ?_
 repeat' first|refine st ?_|((with_reducible apply A4);conv=>whnf)|refine⟨λ_=>?_,λ_=>?_⟩|fail
 intro i t ⟨h4,h5⟩
 cases hx:args[i]? with
 |some x=>
  have hlt:=(B4.1 hx).1
  have hI:=ih' x (C3 hx) (m-1) (by omega) (by omega)
  have hmx:=C2C (l:=args.map G5) (i:=i) (x:=G5 x) (by rw[J1,hx];rfl)
  rw[show((m-1:Nat):Int)=(m:Int)-1 by omega] at hI
  obtain⟨y,hy⟩:∃y,y=G5 x:=⟨_,rfl⟩
  rw[<- hy] at hI hmx
  obtain⟨op',n',v',name',nl',args'⟩:=x
  rw[Ex.av_mk] at hI
  have hg:=hget i _ _ _ _ _ _ hx
  repeat' first|refine st ?_|((with_reducible apply A4);conv=>whnf)|refine⟨λ_=>?_,λ_=>?_⟩|fail
  refine⟨i+1,max t (1+min (m-1) y),?_,rfl,rfl,by omega,by omega,?_⟩
  ·simp only[List.cons.injEq,AV.d.injEq,D.int.injEq,true_and,and_true]
   omega
  ·rw[hmx];omega
 |none=>
  have hge:=E9.1 hx
  rw[H4 (by simpa using hge)] at h5
  repeat' first|refine st ?_|((with_reducible apply A4);conv=>whnf)|refine⟨λ_=>?_,λ_=>?_⟩|fail
  rw[h5]
theorem C4Z(e:Ex)(he:e.bk<=1073741824):Pure Tryz.prog B9c [e.av] (.d (eI (min 25 (G5 e):Nat))):=by
 have h:=C51 e he 25 (by omega) (by omega)
 obtain⟨op,n,v,name,nl,args⟩:=e
 rw[Ex.av_mk] at h ⊢
 refine C89.go A6 rfl ?_
 repeat' first|refine st ?_|((with_reducible apply A4);conv=>whnf)|refine⟨λ_=>?_,λ_=>?_⟩|fail
theorem B40:∀e:Ex,e.bk<=1073741824->Pure Tryz.prog B10 [e.av] (.d (eI (G5 e:Nat))):=by
 refine Ex.ind λop n v name nl args ih hbk=>?_
 have hdb:=D5C (.mk op n v name nl args)
 obtain⟨b1,b2,b3,b4⟩:=Ex.bk_bounds hbk
 have ih':∀a∈args,Pure Tryz.prog B10 [a.av] (.d (eI (G5 a:Nat))):=λa ha=>ih a ha (b4 a ha)
 clear ih
 rw[U4] at hdb
 rw[Ex.av_mk,U4]
 refine C7C.go A6 rfl ?_
 have hlen:=P0 args
 have hm:=P2 args
 have hd:A9 (ng nl (xL args)) (xL args):=C7
 have hget:∀(i:Nat) (op' n':Int) (v':Vl) (name':List UInt8) (nl':Bool) (args':List Ex),args[i]?=some (.mk op' n' v' name' nl' args')->(xL args)[i]?=some (T5 op' n' v' name' (ng nl' (xL args'))):=λi op' n' v' name' nl' args' h=>by
  rw[<- Ex.ds_mk];exact Y1 h
 obtain⟨d,hde⟩:∃d,d=ng nl (xL args):=⟨_,rfl⟩
 rw[<- hde] at hd ⊢
 obtain⟨es,hes⟩:∃es,es=xL args:=⟨_,rfl⟩
 rw[<- hes] at hlen hm hd hget
 repeat' first|refine st ?_|((with_reducible apply A4);conv=>whnf)|refine⟨λ_=>?_,λ_=>?_⟩|fail
 refine L6 A6 D0A C9j (λ(i:Nat) (t:Nat)=>[.d (eI t),.d (eI i)]) (λi t=>[.cells [.d (eI op),.d (eI n),.d (eI v.k),.d (eI v.n),.d (.str v.s),.d (.str name),.d d]]) (λi t=>i<=args.length/\t=mx ((args.map G5).take i)) (λi _=>args.length-i) 0 0 rfl rfl rfl rfl (λ_ _ _=>⟨rfl,rfl⟩) rfl ⟨by omega,rfl⟩ ?_
 repeat' first|refine st ?_|((with_reducible apply A4);conv=>whnf)|refine⟨λ_=>?_,λ_=>?_⟩|fail
 intro i t ⟨h4,h5⟩
 cases hx:args[i]? with
 |some x=>
  have hlt:=(B4.1 hx).1
  have hI:=ih' x (C3 hx)
  have hmx:=C2C (l:=args.map G5) (i:=i) (x:=G5 x) (by rw[J1,hx];rfl)
  obtain⟨y,hy⟩:∃y,y=G5 x:=⟨_,rfl⟩
  rw[<- hy] at hI hmx
  obtain⟨op',n',v',name',nl',args'⟩:=x
  rw[Ex.av_mk] at hI
  have hg:=hget i _ _ _ _ _ _ hx
  repeat' first|refine st ?_|((with_reducible apply A4);conv=>whnf)|refine⟨λ_=>?_,λ_=>?_⟩|fail
  refine⟨i+1,max t y,?_,rfl,rfl,by omega,by omega,?_⟩
  ·simp only[List.cons.injEq,AV.d.injEq,D.int.injEq,true_and,and_true]
   omega
  ·rw[hmx,h5]
 |none=>
  have hge:=E9.1 hx
  rw[H4 (by simpa using hge)] at h5
  repeat' first|refine st ?_|((with_reducible apply A4);conv=>whnf)|refine⟨λ_=>?_,λ_=>?_⟩|fail
  rw[h5]
  simp only[AV.d.injEq,D.int.injEq,true_and]
  omega
theorem B3V(e:Ex)(he:e.bk<=1073741824):Pure Tryz.prog A69 [e.av] (.d (eI (min 25 (G5 e):Nat))):=by
 have h:=B40 e he
 obtain⟨op,n,v,name,nl,args⟩:=e
 rw[Ex.av_mk] at h ⊢
 refine C7q.go A6 rfl ?_
 repeat' first|refine st ?_|((with_reducible apply A4);conv=>whnf)|refine⟨λ_=>?_,λ_=>?_⟩|fail
 all_goals (simp only[AV.d.injEq,D.int.injEq,true_and];omega)
end Go.Proofs
end
section
namespace Go.Proofs
open Go.Bi
def Z1(k:Int):List Int->Int×Bool
 |[]=>(k,true)
 |x::l=>if x=0 then Z1 k l else if k≠0/\k≠x then (0,false) else Z1 x l
def X9(l:List Int):Int×Bool:=Z1 0 l
theorem C46{k:Int}{l:List Int}{i:Nat}{x:Int}(h:l[i]?=some x):Z1 k (l.drop i)=if x=0 then Z1 k (l.drop (i+1)) else if k≠0/\k≠x then (0,false) else Z1 x (l.drop (i+1)):=by
 obtain⟨hlt,he⟩:=B4.1 h
 rw[S1 hlt,he];rfl
theorem B0d(l:List Int)(hl:l.length<=1073741825)(d:D)(hd:A9 d (A5 l)):Pure Tryz.prog B9k [.d d] (.tup [.d (eI (X9 l).1),.d (.bool (X9 l).2)]):=by
 refine C8n.go A6 rfl ?_
 have h1:=F9 l
 have hm:=I1 l
 repeat' first|refine st ?_|((with_reducible apply A4);conv=>whnf)|refine⟨λ_=>?_,λ_=>?_⟩|fail
 refine L6 A6 D1d C9W (λ(i:Nat) (k:Int)=>[.d (eI k),.d (eI i)]) (λi k=>[]) (λi k=>i<=l.length/\X9 l=Z1 k (l.drop i)) (λi _=>l.length-i) 0 0 rfl rfl rfl rfl (λ_ _ _=>⟨rfl,rfl⟩) rfl ⟨by omega,rfl⟩ ?_
 repeat' first|refine st ?_|((with_reducible apply A4);conv=>whnf)|refine⟨λ_=>?_,λ_=>?_⟩|fail
 intro i k ⟨h2,h3⟩
 cases hx:l[i]? with
 |some x=>
  have hlt:=(B4.1 hx).1
  have hg:=N2 hx
  rw[C46 hx] at h3
  by_cases hx0:x=0
  ·rw[if_pos hx0] at h3
   repeat' first|refine st ?_|((with_reducible apply A4);conv=>whnf)|refine⟨λ_=>?_,λ_=>?_⟩|fail
   exact⟨i+1,_,rfl,rfl,rfl,by omega,by omega,h3⟩
  ·rw[if_neg hx0] at h3
   by_cases hk:k≠0/\k≠x
   ·rw[if_pos hk] at h3
    rw[h3]
    obtain⟨hk1,hk2⟩:=hk
    repeat' first|refine st ?_|((with_reducible apply A4);conv=>whnf)|refine⟨λ_=>?_,λ_=>?_⟩|fail
    all_goals rfl
   ·rw[if_neg hk] at h3
    by_cases hk0:k=0
    ·repeat' first|refine st ?_|((with_reducible apply A4);conv=>whnf)|refine⟨λ_=>?_,λ_=>?_⟩|fail
     exact⟨i+1,_,rfl,rfl,rfl,by omega,by omega,h3⟩
    ·have hkx:k=x:=by omega
     repeat' first|refine st ?_|((with_reducible apply A4);conv=>whnf)|refine⟨λ_=>?_,λ_=>?_⟩|fail
     exact⟨i+1,_,rfl,rfl,rfl,by omega,by omega,h3⟩
 |none=>
  have hge:=E9.1 hx
  rw[R1 hge] at h3
  rw[h3]
  repeat' first|refine st ?_|((with_reducible apply A4);conv=>whnf)|refine⟨λ_=>?_,λ_=>?_⟩|fail
  all_goals rfl
theorem B3X(l:List Int)(hl:l.length<=1073741825)(d:D)(hd:A9 d (A5 l)):Pure Tryz.prog B8y [.d d] (.tup [.d (eI (X9 l).1),.d (.bool (X9 l).2)]):=by
 refine C7t.go A6 rfl ?_
 have h1:=F9 l
 have hm:=I1 l
 repeat' first|refine st ?_|((with_reducible apply A4);conv=>whnf)|refine⟨λ_=>?_,λ_=>?_⟩|fail
 refine L6 A6 D0v C9e (λ(i:Nat) (k:Int)=>[.d (eI k),.d (eI i)]) (λi k=>[]) (λi k=>i<=l.length/\X9 l=Z1 k (l.drop i)) (λi _=>l.length-i) 0 0 rfl rfl rfl rfl (λ_ _ _=>⟨rfl,rfl⟩) rfl ⟨by omega,rfl⟩ ?_
 repeat' first|refine st ?_|((with_reducible apply A4);conv=>whnf)|refine⟨λ_=>?_,λ_=>?_⟩|fail
 intro i k ⟨h2,h3⟩
 cases hx:l[i]? with
 |some x=>
  have hlt:=(B4.1 hx).1
  have hg:=N2 hx
  rw[C46 hx] at h3
  by_cases hx0:x=0
  ·rw[if_pos hx0] at h3
   repeat' first|refine st ?_|((with_reducible apply A4);conv=>whnf)|refine⟨λ_=>?_,λ_=>?_⟩|fail
   exact⟨i+1,_,rfl,rfl,rfl,by omega,by omega,h3⟩
  ·rw[if_neg hx0] at h3
   by_cases hk:k≠0/\k≠x
   ·rw[if_pos hk] at h3
    rw[h3]
    obtain⟨hk1,hk2⟩:=hk
    repeat' first|refine st ?_|((with_reducible apply A4);conv=>whnf)|refine⟨λ_=>?_,λ_=>?_⟩|fail
    all_goals rfl
   ·rw[if_neg hk] at h3
    by_cases hk0:k=0
    ·repeat' first|refine st ?_|((with_reducible apply A4);conv=>whnf)|refine⟨λ_=>?_,λ_=>?_⟩|fail
     exact⟨i+1,_,rfl,rfl,rfl,by omega,by omega,h3⟩
    ·have hkx:k=x:=by omega
     repeat' first|refine st ?_|((with_reducible apply A4);conv=>whnf)|refine⟨λ_=>?_,λ_=>?_⟩|fail
     exact⟨i+1,_,rfl,rfl,rfl,by omega,by omega,h3⟩
 |none=>
  have hge:=E9.1 hx
  rw[R1 hge] at h3
  rw[h3]
  repeat' first|refine st ?_|((with_reducible apply A4);conv=>whnf)|refine⟨λ_=>?_,λ_=>?_⟩|fail
  all_goals rfl
def allK(l:List Int)(c:Int):Bool:=l.all λx=>decide (x=c\/x=0)
theorem C47(c:Int)(hc:c≠0):∀(l:List Int)(k:Int),((Z1 k (l++[c])).2&&decide ((Z1 k (l++[c])).1=c))=(decide (k=0\/k=c)&&allK l c)
 |[],k=>by
  simp only[A0M,Z1,if_neg hc,allK,List.all_nil,Bool.and_true]
  by_cases h:k≠0/\k≠c
  ·rw[if_pos h,decide_eq_false (show ¬(k=0\/k=c) by omega)];rfl
  ·rw[if_neg h,decide_eq_true (show k=0\/k=c by omega)];simp
 |x::l,k=>by
  have ih:=C47 c hc l
  simp only[A4K,Z1,allK,A1l] at ih ⊢
  by_cases hx:x=0
  ·rw[if_pos hx,ih k,decide_eq_true (show x=c\/x=0 from .inr hx)];simp
  ·rw[if_neg hx]
   by_cases h:k≠0/\k≠x
   ·rw[if_pos h]
    by_cases hxc:x=c
    ·rw[decide_eq_false (show ¬(k=0\/k=c) by omega)];simp
    ·rw[decide_eq_false (show ¬(x=c\/x=0) by omega)];simp
   ·rw[if_neg h,ih x]
    by_cases hxc:x=c
    ·rw[decide_eq_true (show x=0\/x=c from .inr hxc),decide_eq_true (show x=c\/x=0 from .inl hxc),decide_eq_true (show k=0\/k=c by omega)];simp
    ·rw[decide_eq_false (show ¬(x=0\/x=c) by omega),decide_eq_false (show ¬(x=c\/x=0) by omega)];simp
theorem B3E:Pure Tryz.prog A8s [.d .nil] (.d .nil):=by
 refine B0A.go A6 rfl ?_
 repeat' first|refine st ?_|((with_reducible apply A4);conv=>whnf)|refine⟨λ_=>?_,λ_=>?_⟩|fail
theorem C4W(es:List (List D))(hl:es.length<=1073741825)(hm:∀e∈es,e.length=1):B9 Tryz.prog A8s [.d (.sl es)] [] (λr os=>r=.arr 0 es.length/\os=[.arr es 1 0 false]):=by
 refine B0A.goO A6 rfl ?_
 have h0:([]:List (List D)).length=0:=rfl
 have h00:(([]:List (List D))++es).length=es.length:=rfl
 have hb:(([]:List (List D)).length+es.length)*8<=140737488355328/\([]:List (List D)).length+es.length<=9223372036854775807:=by rw[h0];omega
 repeat' first|refine st ?_|((with_reducible apply A4);conv=>whnf)|refine⟨λ_=>?_,λ_=>?_⟩|fail
 all_goals (refine⟨rfl,?_⟩;cases es<;>rfl)
theorem D5M(l:List Int)(x:Int):A5 l++[[eI x]]=A5 (l++[x]):=by simp[A5]
theorem A7S(l:List Int)(hl:l.length<=1073741824)(d:D)(hd:A9 d (A5 l))(c:Int)(hc:c≠0):Pure Tryz.prog B9e [.d d,.d (eI c)] (.d (.bool (allK l c))):=by
 refine C8d.go A6 rfl ?_
 have h1:=F9 l
 have hm:=I1 l
 have hU:=B0d (l++[c]) (by simp;omega) (.sl (A5 (l++[c]))) u4
 have hres:=C47 c hc l 0
 rw[show decide ((0:Int)=0\/(0:Int)=c)=true from rfl,Q4] at hres
 rw[<- hres]
 unfold X9 at hU
 rw[<- D5M] at hU
 obtain⟨x,b⟩:∃x b,Z1 0 (l++[c])=(x,b):=⟨_,_,rfl⟩
 rcases hd with ⟨rfl,he⟩|rfl
 ·rw[he] at hU
  repeat' first|refine st ?_|((with_reducible apply A4);conv=>whnf)|((with_reducible first|apply I9|apply I5);(·exact B3E))|refine⟨λ_=>?_,λ_=>?_⟩|fail
  all_goals simp[*]
 ·have hC:=C4W (A5 l) (by omega) hm
  have ha:(A5 l++[[eI c]]).length=l.length+1:=by simp[h1]
  repeat' first|refine st ?_|((with_reducible apply A4);conv=>whnf)|((with_reducible first|apply O8|apply O7);(·exact hC);(try rintro _ _ ⟨rfl,rfl⟩))|((with_reducible apply O9);(·exact hC))|refine⟨λ_=>?_,λ_=>?_⟩|fail
  all_goals simp[*]
theorem A7W(l:List Int)(hl:l.length<=1073741825)(d:D)(hd:A9 d (A5 l))(c:Int):Pure Tryz.prog B8A [.d d,.d (eI c)] (.d (.bool (allK l c))):=by
 refine C7x.go A6 rfl ?_
 have h1:=F9 l
 have hm:=I1 l
 repeat' first|refine st ?_|((with_reducible apply A4);conv=>whnf)|refine⟨λ_=>?_,λ_=>?_⟩|fail
 refine K6 A6 D0x C9g (λ(i:Nat)=>[.d (eI i)]) (λi=>[]) (λi=>i<=l.length/\(l.take i).all (λx=>decide (x=c\/x=0))=true) (λi=>l.length-i) 0 rfl rfl rfl rfl (λ_ _=>⟨rfl,rfl⟩) rfl ⟨by omega,rfl⟩ ?_
 repeat' first|refine st ?_|((with_reducible apply A4);conv=>whnf)|refine⟨λ_=>?_,λ_=>?_⟩|fail
 intro i ⟨h2,h3⟩
 cases hx:l[i]? with
 |some x=>
  have hlt:=(B4.1 hx).1
  have hg:=N2 hx
  by_cases hk:x=c
  ·repeat' first|refine st ?_|((with_reducible apply A4);conv=>whnf)|refine⟨λ_=>?_,λ_=>?_⟩|fail
   refine⟨i+1,rfl,rfl,rfl,by omega,by omega,?_⟩
   rw[A6i hx,h3,decide_eq_true (show x=c\/x=0 from .inl hk)];rfl
  ·by_cases hk0:x=0
   ·repeat' first|refine st ?_|((with_reducible apply A4);conv=>whnf)|refine⟨λ_=>?_,λ_=>?_⟩|fail
    refine⟨i+1,rfl,rfl,rfl,by omega,by omega,?_⟩
    rw[A6i hx,h3,decide_eq_true (show x=c\/x=0 from .inr hk0)];rfl
   ·repeat' first|refine st ?_|((with_reducible apply A4);conv=>whnf)|refine⟨λ_=>?_,λ_=>?_⟩|fail
    rw[allK,A4Z hx (decide_eq_false (show ¬(x=c\/x=0) by omega))]
 |none=>
  have hge:=E9.1 hx
  rw[H4 hge] at h3
  repeat' first|refine st ?_|((with_reducible apply A4);conv=>whnf)|refine⟨λ_=>?_,λ_=>?_⟩|fail
  rw[allK,h3]
end Go.Proofs
end
section
namespace Go.Proofs
open Go.Bi
def N8(op:Int)(v:Vl)(l:List Int):Int×Bool:=
 if op=1 then (v.k,true)
 else if op=4\/op=5\/op=6 then (3,allK l 3)
 else if op=7\/op=8\/op=9\/op=10\/op=11\/op=12 then (3,(X9 l).2)
 else if op=19 then (2,allK l 2)
 else if op=20 then (1,allK l 2)
 else if op=21 then (3,true)
 else if op=22 then ((X9 (l.drop 1)).1,(X9 (l.drop 1)).2&&allK (l.take 1) 3)
 else if op=23 then X9 l
 else if op=24 then (3,allK l 1) else (1,allK l 1)
theorem C19(l:List Int)(i:Nat):(A5 l).drop i=A5 (l.drop i):=by simp[A5]
theorem C1a(l:List Int)(i:Nat):(A5 l).take i=A5 (l.take i):=by simp[A5]
theorem B3K(op n:Int)(v:Vl)(name:List UInt8)(d0:D)(l:List Int)(hl:l.length<=1073741824)(d:D)(hd:A9 d (A5 l))(h22:op=22->1<=l.length):Pure Tryz.prog B9j [eX op n v name d0,.d d] (.tup [.d (eI (N8 op v l).1),.d (.bool (N8 op v l).2)]):=by
 refine C8m.go A6 rfl ?_
 have h1:=F9 l
 have hm:=I1 l
 by_cases h22':op=22
 ·subst h22'
  have hl1:=h22 rfl
  rcases hd with ⟨rfl,he⟩|rfl
  ·rw[he] at h1;simp at h1;omega
  have hU:=B0d (l.drop 1) (by simp;omega) (.sl (A5 (l.drop 1))) u4
  have hA:=A7S (l.take 1) (by simp;omega) (.sl (A5 (l.take 1))) u4 3 (by decide)
  have hcut:((A5 l).drop (1:Int).toNat).take (((A5 l).length:Int).toNat-(1:Int).toNat)=A5 (l.drop 1):=by
   rw[<- C19,show(1:Int).toNat=1 from rfl,H4]
   simp
  have hcut2:((A5 l).drop ((0:Nat):Int).toNat).take ((1:Int).toNat-((0:Nat):Int).toNat)=A5 (l.take 1):=by
   rw[<- C1a];rfl
  rw[show N8 22 v l=((X9 (l.drop 1)).1,(X9 (l.drop 1)).2&&allK (l.take 1) 3) from rfl]
  obtain⟨⟨k,b⟩,hkb⟩:∃kb,X9 (l.drop 1)=kb:=⟨_,rfl⟩
  rw[hkb] at hU ⊢
  obtain⟨z,hz⟩:∃z,allK (l.take 1) 3=z:=⟨_,rfl⟩
  rw[hz] at hA ⊢
  obtain⟨e1,he1⟩:∃e1,e1=A5 (l.drop 1):=⟨_,rfl⟩
  obtain⟨e2,he2⟩:∃e2,e2=A5 (l.take 1):=⟨_,rfl⟩
  rw[<- he1] at hU hcut
  rw[<- he2] at hA hcut2
  have hel:((A5 l).length:Int)=l.length:=by rw[h1]
  obtain⟨es,hes⟩:∃es,es=A5 l:=⟨_,rfl⟩
  rw[<- hes] at hcut hcut2 hel hm h1 ⊢
  cases b with
  |false=>
   repeat' first|refine st ?_|refine⟨λ_=>?_,λ_=>?_⟩|fail
   all_goals (try rw[hcut])
   repeat' first|refine st ?_|refine⟨λ_=>?_,λ_=>?_⟩|fail
   all_goals rfl
  |true=>
   repeat' first|refine st ?_|refine⟨λ_=>?_,λ_=>?_⟩|fail
   all_goals (try rw[hcut])
   repeat' first|refine st ?_|refine⟨λ_=>?_,λ_=>?_⟩|fail
   all_goals (try rw[hcut2])
   repeat' first|refine st ?_|refine⟨λ_=>?_,λ_=>?_⟩|fail
   all_goals rfl
 have A3:=A7S l hl d hd 3 (by decide)
 have A2:=A7S l hl d hd 2 (by decide)
 have A1:=A7S l hl d hd 1 (by decide)
 have U:=B0d l (by omega) d hd
 repeat' first|refine st ?_|((with_reducible first|apply I9|apply I5);(·first|exact A3|exact A2|exact A1|exact U))|refine⟨λ_=>?_,λ_=>?_⟩|fail
 all_goals first
  |(subst_vars;rfl)
  |(simp only[N8];rw[if_neg (by omega),if_neg (by omega),if_neg (by omega),if_neg (by omega),if_neg (by omega),if_neg (by omega),if_neg (by omega),if_neg (by omega),if_neg (by omega)])
theorem C5C(n:Int)(v:Vl)(name:List UInt8)(d0:D)(l ks:List Int)(d:D)(hd:A9 d (A5 l))(dk:D)(hdk:A9 dk (A5 ks))(k:Int)(h0:0<=n)(hk:ks[n.toNat]?=some k):Pure Tryz.prog B11 [eX 2 n v name d0,.d d,.d dk] (.tup [.d (eI k),.d (.bool true)]):=by
 refine B4o.go A6 rfl ?_
 have h1:=F9 ks
 have hm:=I1 ks
 have hg:=N2 hk
 have hlt:=(B4.1 hk).1
 have hn2:n<(A5 ks).length:=by omega
 repeat' first|refine st ?_|refine⟨λ_=>?_,λ_=>?_⟩|fail
 all_goals rfl
theorem C5B(op n:Int)(v:Vl)(name:List UInt8)(d0:D)(l:List Int)(hl:l.length<=1073741824)(d:D)(hd:A9 d (A5 l))(dk:D)(h22:op=22->1<=l.length)(hop:op=1\/4<=op/\op<=24)(h2:op≠2):Pure Tryz.prog B11 [eX op n v name d0,.d d,.d dk] (.tup [.d (eI (N8 op v l).1),.d (.bool (N8 op v l).2)]):=by
  refine B4o.go A6 rfl ?_
  have h1:=F9 l
  have hm:=I1 l
  by_cases h22':op=22
  · subst h22'
    have hl1:=h22 rfl
    rcases hd with ⟨rfl,he⟩|rfl
    · rw[he] at h1;simp at h1;omega
    have hU:=B3X (l.drop 1) (by simp;omega) (.sl (A5 (l.drop 1))) u4
    have hA:=A7W (l.take 1) (by simp;omega) (.sl (A5 (l.take 1))) u4 3
    have hcut:((A5 l).drop (1:Int).toNat).take (((A5 l).length:Int).toNat-(1:Int).toNat)=A5 (l.drop 1):=by
      rw[<- C19,show(1:Int).toNat=1 from rfl,H4]
      simp
    have hcut2:((A5 l).drop ((0:Nat):Int).toNat).take ((1:Int).toNat-((0:Nat):Int).toNat)=A5 (l.take 1):=by
      rw[<- C1a];rfl
    rw[show N8 22 v l=((X9 (l.drop 1)).1,(X9 (l.drop 1)).2&&allK (l.take 1) 3) from rfl]
    obtain⟨⟨k,b⟩,hkb⟩:∃kb,X9 (l.drop 1)=kb:=⟨_,rfl⟩
    rw[hkb] at hU ⊢
    obtain⟨z,hz⟩:∃z,allK (l.take 1) 3=z:=⟨_,rfl⟩
    rw[hz] at hA ⊢
    obtain⟨e1,he1⟩:∃e1,e1=A5 (l.drop 1):=⟨_,rfl⟩
    obtain⟨e2,he2⟩:∃e2,e2=A5 (l.take 1):=⟨_,rfl⟩
    rw[<- he1] at hU hcut
    rw[<- he2] at hA hcut2
    have hel:((A5 l).length:Int)=l.length:=by rw[h1]
    obtain⟨es,hes⟩:∃es,es=A5 l:=⟨_,rfl⟩
    rw[<- hes] at hcut hcut2 hel hm h1 ⊢
    cases b with
    |false=>
      repeat' first|refine st ?_|refine⟨λ_=>?_,λ_=>?_⟩|fail
      all_goals (try rw[hcut])
      repeat' first|refine st ?_|refine⟨λ_=>?_,λ_=>?_⟩|fail
      all_goals rfl
    |true=>
      repeat' first|refine st ?_|refine⟨λ_=>?_,λ_=>?_⟩|fail
      all_goals (try rw[hcut])
      repeat' first|refine st ?_|refine⟨λ_=>?_,λ_=>?_⟩|fail
      all_goals (try rw[hcut2])
      repeat' first|refine st ?_|refine⟨λ_=>?_,λ_=>?_⟩|fail
      all_goals rfl
  have A3:=A7W l (by omega) d hd 3
  have A2:=A7W l (by omega) d hd 2
  have A1:=A7W l (by omega) d hd 1
  have U:=B3X l (by omega) d hd
  repeat' first|refine st ?_|((with_reducible first|apply I9|apply I5);(·first|exact A3|exact A2|exact A1|exact U))|refine⟨λ_=>?_,λ_=>?_⟩|fail
  all_goals first
    |(subst_vars;rfl)
    | (have : op = 24 := by omega
       subst this;rfl)
end Go.Proofs
end
