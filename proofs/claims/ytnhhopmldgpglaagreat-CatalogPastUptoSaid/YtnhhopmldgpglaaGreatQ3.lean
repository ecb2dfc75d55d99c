/- Texts of this claim, joined. No condition. -/
import Derived.Test.YtnhhopmldgpglaaGreatQ2
import Derived.Test.YtnhhopmldgpglaaGreatBi
import Derived.Shelf.Sort.Plain
import Derived.Shelf.Slices.In.SortNone
import Derived.Shelf.Slices.CompactI
import Derived.Ground.Names2Prog
import Derived.Test.YtnhhopmldgpglaaGreatProg
set_option linter.unusedSimpArgs false
set_option linter.unusedVariables false
set_option maxRecDepth 10000
set_option maxHeartbeats 4000000
section
namespace Go.Bi
open Go Go.Proofs Go.Sort Go.Shelf
section
variable {P:Program}{M:C5}{G:Gh}{os:List AO}{w w':World}
theorem OR.live_lt(he:C3 M G os w){id:Nat}{o:AO}(ho:os[id]?=some o)(hl:o.live=true):G.blk id<w.heap.size:=he.lt ⟨o,ho,hl⟩
theorem A7R(hsys:w'.os=w.os)(htape:w'.tape=w.tape)(hout:w'.output=w.output)(hsz:w.heap.size<=w'.heap.size)(hh:∀b,b<w.heap.size->w'.heap[b]?=w.heap[b]?):E3 M G os w M G os w' where
 sys:=hsys
 tape:=htape
 output:=hout
 size:=hsz
 frame:=λb hb _=>hh b hb
 grow:=λ_ _ h=>h
 fresh:=λ_ _ h=>.inl h
 own:=λi h=>.inr ⟨i,h,rfl⟩
 keep:=λi o h=>(E3.refl M G os w).keep i o h
theorem B6K(he:C3 M G os w)(hsys:w'.os=w.os)(htape:w'.tape=w.tape)(hout:w'.output=w.output)(hsz:w.heap.size<=w'.heap.size)(hh:∀b,b<w.heap.size->w'.heap[b]?=w.heap[b]?):C3 M G os w' where
 mem:=λa v h=>by
  have h1:=he.mem a v h
  have hlt:a.block<w.heap.size:=by
   unfold World.cell? at h1
   cases hb:w.heap[a.block]? with
   |none=>rw[hb] at h1;cases h1
   |some o=>exact(s4.1 hb).1
  rw[World.cell?_of_block (w:=w) (hh _ hlt)]
  exact h1
 obj:=λi x hx=>by
  have hold:=he.obj i x hx
  by_cases hlv:x.live=true
  ·exact OR.since (A7R hsys htape hout hsz hh) hold rfl rfl (hh _ (OR.live_lt he hx hlv)) (λ_ _=>rfl)
  ·cases x with
   |cells cs=>exact absurd rfl hlv
   |iter s p=>exact absurd rfl hlv
   |hole=>trivial
   |map kvs=>exact absurd rfl hlv
   |mit m n s=>exact absurd rfl hlv
   |arr es sz frz nl=>
    cases nl with
    |false=>exact absurd rfl hlv
    |true=>exact⟨hold.1,hold.2.1,hold.2.2.1,hold.2.2.2.1,λh=>by cases h⟩
   |rarr es sz nl=>
    cases nl with
    |false=>exact absurd rfl hlv
    |true=>exact⟨hold.1,hold.2.1,hold.2.2.1,λh=>by cases h⟩
 inj:=he.inj
 sep:=he.sep
 glb:=A0O (A7R (M:=M) (G:=G) (os:=os) hsys htape hout hsz hh) he.glb
def ints(zs:List Int):List (List D):=zs.map λz=>[.int .i64 z]
theorem A2p(zs:List Int):(ints zs).length=zs.length:=by simp[ints]
theorem D0O(zs:List Int):∀e∈ints zs,e.length=1:=by
 intro e he
 obtain⟨z,_,rfl⟩:=F2.1 he
 rfl
theorem B80(blk:Nat)(f:Array Value->Array Value)(b:Nat)(h:b≠blk):(mapBlock w blk f).heap[b]?=w.heap[b]?:=by
 unfold mapBlock
 simp only[A4j]
 rw[if_neg (Ne.symm h)]
theorem B8Z(he:C3 M G os w){id:Nat}{zs ys:List Int}(ho:os[id]?=some (.arr (ints zs) 1 0 false))(hlen:ys.length=zs.length)(n:Nat) :
  C3 M G (os.set id (.arr (ints ys) 1 0 false)) (putRow (Value.int .i64) (Sort.ahead w n) (G.blk id) 0 ys.toArray)/\E3 M G os w M G (os.set id (.arr (ints ys) 1 0 false)) (putRow (Value.int .i64) (Sort.ahead w n) (G.blk id) 0 ys.toArray):=by
 obtain⟨h1,h2,h3,h4,h5⟩:=he.obj id _ ho
 obtain⟨ca,t,h6,h7,h8,h9,h10,h11⟩:=h5 rfl
 have hlt:=(B2.1 ho).1
 have hno:∀a v,M a=some v->a.block=G.blk id->False:=λa v ha hb=>by
  obtain⟨es',sz',frz',nl',h12,h13⟩:=he.sep id a v (E6.arr ho) ha hb
  rw[ho] at h12
  cases h12
  omega
 have hk:M5 G G id (os.set id (.arr (ints ys) 1 0 false)) (.arr (ints zs) 1 0 false):=⟨ints ys,0,false,by simp[hlt],by rw[A2p,A2p];omega,λ_=>⟨rfl,rfl,rfl⟩⟩
 have hoth:∀b,b≠G.blk id->(putRow (Value.int .i64) (Sort.ahead w n) (G.blk id) 0 ys.toArray).heap[b]?=w.heap[b]?:=λb hb=>B80 _ _ b hb
 have hs:=l8 he (w':=putRow (Value.int .i64) (Sort.ahead w n) (G.blk id) 0 ys.toArray) (M':=M) ho rfl rfl rfl rfl (by simp) hoth (λ_ _ h=>h) (λ_ _ h=>.inl h) hk
 refine⟨u5 he ho rfl rfl rfl rfl (by simp) hoth (λ_ _ h=>h) (λ_ _ h=>.inl h) hk (λ_ _=>rfl) (λa v ha hb=>(hno a v ha hb).elim) (λa v ha hb=>(hno a v ha hb).elim) ?_,hs⟩
 rw[A2p] at h8
 refine⟨h1,D0O ys,S9 _,λh=>(by cases h),λ_=>⟨putCells (Value.int .i64) 0 ys.toArray ca,t,?_,?_,?_,h9,λi j e x hi hj=>?_,λo ho=>(by omega)⟩⟩
 ·show(mapBlock (Sort.ahead w n) (G.blk id) _).heap[G.blk id]?=_
  unfold mapBlock
  simp only[A4j,if_true]
  show Option.map _ w.heap[G.blk id]?=_
  rw[h6];rfl
 ·unfold putCells
  rw[Array.size_mapIdx,h7]
 ·rw[A2p];omega
 ·obtain⟨z,hz,rfl⟩:∃z,ys[i]?=some z/\e=[.int .i64 z]:=by
   unfold ints at hi
   rw[G4] at hi
   cases hy:ys[i]? with
   |none=>rw[hy] at hi;cases hi
   |some z=>rw[hy] at hi;cases hi;exact⟨z,rfl,rfl⟩
  have hil:=(B2.1 hz).1
  cases j with
  |succ j=>cases hj
  |zero=>
   cases hj
   refine⟨.int .i64 z,?_,.int _ _⟩
   unfold putCells
   have hic:i*1+0<ca.size:=by rw[h7];omega
   rw[Array.getElem?_mapIdx,K5 hic,A0A,if_pos (by simp;omega)]
   have:ys.toArray[i*1+0-0]! = z:=by
    have e:i*1+0-0=i:=by omega
    rw[e,getElem!_pos _ i (by simpa using hil)]
    simpa using(B2.1 hz).2
   rw[this]
theorem B90(he:C3 M G os w){id:Nat}{zs:List Int}(ho:os[id]?=some (.arr (ints zs) 1 0 false)):Holds (Value.int .i64) w (G.blk id) 0 zs.toArray:=by
 obtain⟨h1,h2,h3,h4,h5⟩:=he.obj id _ ho
 obtain⟨ca,t,h6,h7,h8,h9,h10,h11⟩:=h5 rfl
 intro j hj
 have hj':j<zs.length:=by simpa using hj
 have hz:(ints zs)[j]?=some [.int .i64 zs[j]]:=by unfold ints;rw[G4,C9 hj'];rfl
 obtain⟨u,hu,hr⟩:=h10 j 0 _ _ hz rfl
 cases hr
 rw[Nat.mul_one,A10] at hu
 refine⟨?_,?_⟩
 ·have:zs.toArray[j]! = zs[j]:=by rw[getElem!_pos _ j hj];simp
  rw[this,x8]
  unfold World.cell?
  rw[h6]
  simpa using hu
 ·unfold World.frozen?
  rw[h6]
  simp
theorem B7p(he:C3 M G os w){id m:Nat}{es:List (List D)}{sz:Nat}(ho:os[id]?=some (.arr es sz 0 false))(hm:m<=es.length) :
  C3 (C5.with M w (G.blk id) (m*sz)) G (os.set id (.arr es sz m false)) w/\
  E3 M G os w (C5.with M w (G.blk id) (m*sz)) G (os.set id (.arr es sz m false)) w/\
  Rd (C5.with M w (G.blk id) (m*sz)) (.sl (es.take m)) (.slice (some ⟨G.blk id,0,none⟩) m (G.cap id)):=by
 obtain⟨h1,h2,h3,h4,h5⟩:=he.obj id _ ho
 obtain⟨ca,t,h6,h7,h8,h9,h10,h11⟩:=h5 rfl
 have hlt:=(B2.1 ho).1
 have hgrow:∀x v,M x=some v->C5.with M w (G.blk id) (m*sz) x=some v:=λx v hx=>by
  unfold C5.with
  split
  ·exact he.mem x v hx
  ·exact hx
 have hnew:∀x v,C5.with M w (G.blk id) (m*sz) x=some v->M x=some v\/x.block=G.blk id:=λx v hx=>by
  unfold C5.with at hx
  split at hx
  ·rename_i hc;exact .inr hc.1
  ·exact .inl hx
 have hk:M5 G G id (os.set id (.arr es sz m false)) (.arr es sz 0 false):=⟨es,m,false,by simp[hlt],M9 _,λ_=>⟨rfl,rfl,rfl⟩⟩
 have hs:=l8 he (w':=w) ho rfl rfl rfl rfl rfl (λ_ _=>rfl) hgrow hnew hk
 have hcl:∀o,o<m*sz->C5.with M w (G.blk id) (m*sz) ⟨G.blk id,o,none⟩=ca[o]?:=λo ho=>by
  unfold C5.with
  rw[if_pos ⟨rfl,rfl,ho⟩]
  simp[World.cell?,h6]
 refine⟨u5 he ho rfl rfl rfl rfl rfl (λ_ _=>rfl) hgrow hnew hk (λx hx=>?_) (λx v hx hb=>?_) (λx v hx hb=>?_) ?_,hs,?_⟩
 ·unfold C5.with
  rw[if_neg (λhc=>hx hc.1)]
 ·unfold C5.with at hx
  split at hx
  ·exact hx
  ·exact he.mem x v hx
 ·refine⟨_,_,_,_,rfl,?_⟩
  unfold C5.with at hx
  split at hx
  ·rename_i hc;exact hc.2.2
  ·obtain⟨es',sz',frz',nl',h12,h13⟩:=he.sep id x v (E6.arr ho) hx hb
   rw[ho] at h12
   cases h12
   omega
 ·refine⟨h1,h2,hm,λh=>(by cases h),λ_=>⟨ca,t,h6,h7,h8,h9,λi j e x hi hj=>?_,hcl⟩⟩
  obtain⟨u,hu,hr⟩:=h10 i j e x hi hj
  exact⟨u,hu,hr.mono hgrow⟩
 ·have hlen:(es.take m).length=m:=by rw[N6];omega
  have key:Rd (C5.with M w (G.blk id) (m*sz)) (.sl (es.take m)) (.slice (some ⟨G.blk id,0,none⟩) (es.take m).length (G.cap id)):=by
   refine Rd.sl (es.take m) (G.blk id) 0 (G.cap id) sz (λi j=>(ca[i*sz+j]?).getD undef) (by omega) (λe hx=>h2 e (A1F hx)) (λi j hi hj=>?_) (λi j e d hi hj=>?_)
   ·rw[hlen] at hi
    rw[x8,hcl _ (W9 hi hj)]
    have hsz:i*sz+j<ca.size:=by
     rw[h7]
     exact A1J (W9 hi hj) (X9 _ (by omega))
    simp[hsz]
   ·have hil:=(B2.1 hi).1
    rw[Y3,if_pos (by omega)] at hi
    obtain⟨u,hu,hr⟩:=h10 i j e d hi hj
    simp only[hu,j7]
    exact hr.mono hgrow
  rwa [hlen] at key
theorem D36{ρ:Ren}(L:Lays.n189 P ρ)(he:Enters P (ρ.f 189))(zs:List Int)(nl:Bool)(hz:zs.length<4611686018427387904) :
  B4 P (ρ.f 189) [.arr 0 (ints zs).length] [.arr (ints zs) 1 0 nl] (λr os'=>r=.tup []/\os'=[.arr (ints (zs.mergeSort λx y=>decide (x<=y))) 1 0 nl]):=by
 refine⟨he,λM G w vs hE hl hv=>?_⟩
 obtain⟨v,rfl⟩:∃v,vs=#[v]:=by
  obtain⟨l⟩:=vs
  match l,hl with
  |[x],_=>exact⟨x,rfl⟩
 have hval:=hv 0 _ v rfl rfl
 obtain⟨h0,es,sz,frz,nl',h1,h2,h3⟩:=hval
 cases h1
 have hv:=h3 rfl
 subst hv
 unfold Gh.slv
 cases nl with
 |true=>
  have hnil:ints zs=[]:=(hE.obj 0 _ rfl).2.2.2.1 rfl
  have hzs:zs=[]:=by unfold ints at hnil;simpa using hnil
  subst hzs
  rw[if_pos rfl]
  refine(Any.slices_Sort_int_none L none 0 w).mono ?_
  rintro e w' ⟨rfl,rfl⟩
  exact⟨_,rfl,M,G,.tup [],_,hE,E3.refl ..,⟨#[],rfl,rfl,by simp⟩,rfl,by simp⟩
 |false=>
  rw[if_neg (by decide),A2p]
  have hlt:=OR.live_lt hE (id:=0) rfl rfl
  refine(Any.slices_Sort_int L (G.blk 0) 0 (G.cap 0) zs w (B90 hE (id:=0) rfl) hlt hz).mono ?_
  rintro e w' ⟨rfl,n,xs,rfl⟩
  obtain⟨e1,s1⟩:=B8Z hE (id:=0) (ys:=zs.mergeSort λx y=>decide (x<=y)) rfl (by simp) n
  have hh:∀b,b<(putRow (Value.int .i64) (Sort.ahead w n) (G.blk 0) 0 (zs.mergeSort λx y=>decide (x<=y)).toArray).heap.size->(grow (putRow (Value.int .i64) (Sort.ahead w n) (G.blk 0) 0 (zs.mergeSort λx y=>decide (x<=y)).toArray) xs).heap[b]?=(putRow (Value.int .i64) (Sort.ahead w n) (G.blk 0) 0 (zs.mergeSort λx y=>decide (x<=y)).toArray).heap[b]?:=λb hb=>by
   unfold grow
   exact A23 hb
  refine⟨_,rfl,M,G,.tup [],_,B6K e1 rfl rfl rfl (by simp[grow]) hh,s1.trans (A7R rfl rfl rfl (by simp[grow]) hh),⟨#[],rfl,rfl,by simp⟩,rfl,rfl⟩
theorem B6w(zs:List Int):(Lib.compact zs).length<=zs.length:=by
 unfold Lib.compact Lib.compactUpTo
 rw[D0]
 exact N7 (j4 _ _) (by simp)
theorem C9q{ρ:Ren}(L:Lays2.n20 P ρ)(he:Enters P (ρ.f 20))(zs:List Int)(nl:Bool)(hz:zs.length<=9223372036854775807) :
  B4 P (ρ.f 20) [.arr 0 (ints zs).length] [.arr (ints zs) 1 0 nl] (λr os'=>r=.d (if nl then .nil else .sl (ints (Lib.compact zs)))/\os'=[.arr (ints (Lib.compact zs++List.replicate (zs.length-(Lib.compact zs).length) 0)) 1 (if nl then 0 else (Lib.compact zs).length) nl]):=by
 refine⟨he,λM G w vs hE hl hv=>?_⟩
 obtain⟨v,rfl⟩:∃v,vs=#[v]:=by
  obtain⟨l⟩:=vs
  match l,hl with
  |[x],_=>exact⟨x,rfl⟩
 have hval:=hv 0 _ v rfl rfl
 obtain⟨h0,es,sz,frz,nl',h1,h2,h3⟩:=hval
 cases h1
 have hv:=h3 rfl
 subst hv
 unfold Gh.slv
 cases nl with
 |true=>
  have hnil:ints zs=[]:=(hE.obj 0 _ rfl).2.2.2.1 rfl
  have hzs:zs=[]:=by unfold ints at hnil;simpa using hnil
  subst hzs
  rw[if_pos rfl]
  refine(Any.slices_Compact_int_empty L none 0 w).mono ?_
  rintro e w' ⟨rfl,rfl⟩
  exact⟨_,rfl,M,G,.d .nil,_,hE,E3.refl ..,Rd.nil,rfl,rfl⟩
 |false=>
  rw[if_neg (by decide),A2p]
  obtain⟨h1,h2,h3,h4,h5⟩:=hE.obj 0 _ rfl
  obtain⟨ca,t,h6,h7,h8,h9,h10,h11⟩:=h5 rfl
  rw[A2p] at h8
  refine(Any.slices_Compact_int L (G.blk 0) 0 (G.cap 0) zs w (B90 hE (id:=0) rfl) hz h8).mono ?_
  rintro e w' ⟨rfl,n,rfl⟩
  have hcl:=B6w zs
  have hlen:(Lib.compact zs++List.replicate (zs.length-(Lib.compact zs).length) 0).length=zs.length:=by simp;omega
  obtain⟨e1,s1⟩:=B8Z hE (id:=0) (ys:=Lib.compact zs++List.replicate (zs.length-(Lib.compact zs).length) 0) rfl hlen n
  obtain⟨e2,s2,r2⟩:=B7p e1 (id:=0) (m:=(Lib.compact zs).length) rfl (by rw[A2p,hlen];exact hcl)
  refine⟨_,rfl,_,G,.d (.sl (ints (Lib.compact zs))),_,e2,s1.trans s2,?_,rfl,rfl⟩
  have ht:(ints (Lib.compact zs++List.replicate (zs.length-(Lib.compact zs).length) 0)).take (Lib.compact zs).length=ints (Lib.compact zs):=by
   unfold ints
   rw[<- List.map_take,List.take_left]
  rw[ht] at r2
  exact r2
end
theorem D3t{n nb:Nat}{ρ:C7}{os:List AO}(t:Nat){id len sz frz:Nat}{nl:Bool}{es:List (List D)}(ht:ρ t=.arr id len)(ho:os[id]?=some (.arr es sz frz nl))(hl:len=es.length) :
  j8 n nb ρ os (upd t (.d (if nl then .nil else .sl es)) ρ) (os.set id (.arr es sz es.length nl)):=by
 intro c M G w a hR
 have hv:=hR.tmps t
 rw[ht] at hv
 obtain⟨M1,h1,h2,h3⟩:=A5x hR.env (c:=.arr id len) (x:=if nl then .nil else .sl es) (os1:=os.set id (.arr es sz es.length nl)) (by unfold A0L;dsimp only;rw[ho];dsimp only;rw[if_pos hl]) hv
 exact⟨M1,G,{
  env:=h1,since:=hR.since.trans h2,size:=hR.size,defers:=hR.defers,base:=hR.base
  tmps:=λs=>by
   have hs:=(hR.tmps s).since h2
   unfold upd
   split
   ·rename_i h
    subst h
    exact h3
   ·exact hs}⟩
theorem A2D{P:Program}{n nb:Nat}{cd:IC}{N:Sl->List AO->Prop}{E0:Nat->Sl->List AO->Prop}{R:Sl->List AO->Prop}{L:Sl}{os:List AO}(t:Nat){id len sz frz:Nat}{nl:Bool}{es:List (List D)}(ht:D5 L t=.arr id len)(ho:os[id]?=some (.arr es sz frz nl))(hl:len=es.length)
  (k:Go (j6 P n nb cd N E0 R ((t,.d (if nl then .nil else .sl es))::L) (os.set id (.arr es sz es.length nl)))):j6 P n nb cd N E0 R L os:=by
 have hw:=D3t (n:=n) (nb:=nb) (ρ:=D5 L) (os:=os) t ht ho hl
 rw[B0a] at hw
 refine⟨λcode hc c M G w a hR=>?_⟩
 obtain⟨M',G',hR'⟩:=hw c M G w a hR
 exact k.h code hc c M' G' w a hR'
end Go.Bi
end
section
namespace Go.Proofs
open Go.Shelf
def Tryz.lays189_ren:Go.Shelf.Ren:=⟨fun|189=>151|125=>69|257=>164|128=>107|129=>108|294=>169|295=>170|296=>171|297=>172|298=>173|299=>174|216=>175|300=>176|301=>177|328=>178|329=>136|330=>137|331=>179|332=>180|215=>181|343=>182|n=>n,fun|28=>24|3=>3|46=>97|0=>0|51=>126|53=>128|4=>4|183=>118|182=>117|131=>123|5=>5|9=>9|218=>147|222=>151|228=>162|229=>153|n=>n,fun|n=>n⟩
theorem Tryz.lays189:Go.Proofs.Lays.n189 Tryz.prog Tryz.lays189_ren:={
 mixed:=by kernel_rfl
 f125:=Tryz.func69.trans (congrArg some (by kernel_rfl))
 f128:=Tryz.func107.trans (congrArg some (by kernel_rfl))
 f129:=Tryz.func108.trans (congrArg some (by kernel_rfl))
 f189:=Tryz.func151.trans (congrArg some (by kernel_rfl))
 f215:=Tryz.func181.trans (congrArg some (by kernel_rfl))
 f216:=Tryz.func175.trans (congrArg some (by kernel_rfl))
 f257:=Tryz.func164.trans (congrArg some (by kernel_rfl))
 f294:=Tryz.func169.trans (congrArg some (by kernel_rfl))
 f295:=Tryz.func170.trans (congrArg some (by kernel_rfl))
 f296:=Tryz.func171.trans (congrArg some (by kernel_rfl))
 f297:=Tryz.func172.trans (congrArg some (by kernel_rfl))
 f298:=Tryz.func173.trans (congrArg some (by kernel_rfl))
 f299:=Tryz.func174.trans (congrArg some (by kernel_rfl))
 f300:=Tryz.func176.trans (congrArg some (by kernel_rfl))
 f301:=Tryz.func177.trans (congrArg some (by kernel_rfl))
 f328:=Tryz.func178.trans (congrArg some (by kernel_rfl))
 f329:=Tryz.func136.trans (congrArg some (by kernel_rfl))
 f330:=Tryz.func137.trans (congrArg some (by kernel_rfl))
 f331:=Tryz.func179.trans (congrArg some (by kernel_rfl))
 f332:=Tryz.func180.trans (congrArg some (by kernel_rfl))
 f343:=Tryz.func182.trans (congrArg some (by kernel_rfl))
 t0:=Tryz.underlying0
 a0:=Tryz.isAgg0
 z0:=Tryz.sizeOf0
 v0:=Tryz.zeroValue0
 t3:=Tryz.underlying3
 a3:=Tryz.isAgg3
 z3:=Tryz.sizeOf3
 v3:=Tryz.zeroValue3
 t4:=Tryz.underlying4
 a4:=Tryz.isAgg4
 z4:=Tryz.sizeOf4
 v4:=Tryz.zeroValue4
 t5:=Tryz.underlying5
 a5:=Tryz.isAgg5
 z5:=Tryz.sizeOf5
 v5:=Tryz.zeroValue5
 t9:=Tryz.underlying9
 a9:=Tryz.isAgg9
 z9:=Tryz.sizeOf9
 v9:=Tryz.zeroValue9
 t28:=Tryz.underlying24
 a28:=Tryz.isAgg24
 z28:=Tryz.sizeOf24
 v28:=Tryz.zeroValue24
 t46:=Tryz.underlying97
 a46:=Tryz.isAgg97
 z46:=Tryz.sizeOf97
 v46:=Tryz.zeroValue97
 t51:=Tryz.underlying126
 a51:=Tryz.isAgg126
 z51:=Tryz.sizeOf126
 v51:=Tryz.zeroValue126
 t53:=Tryz.underlying128
 a53:=Tryz.isAgg128
 z53:=Tryz.sizeOf128
 v53:=Tryz.zeroValue128
 t131:=Tryz.underlying123
 a131:=Tryz.isAgg123
 z131:=Tryz.sizeOf123
 v131:=Tryz.zeroValue123
 t182:=Tryz.underlying117
 a182:=Tryz.isAgg117
 z182:=Tryz.sizeOf117
 v182:=Tryz.zeroValue117
 t183:=Tryz.underlying118
 a183:=Tryz.isAgg118
 z183:=Tryz.sizeOf118
 v183:=Tryz.zeroValue118
 t218:=Tryz.underlying147
 a218:=Tryz.isAgg147
 z218:=Tryz.sizeOf147
 v218:=Tryz.zeroValue147
 t222:=Tryz.underlying151
 a222:=Tryz.isAgg151
 z222:=Tryz.sizeOf151
 v222:=Tryz.zeroValue151
 t228:=Tryz.underlying162
 a228:=Tryz.isAgg162
 z228:=Tryz.sizeOf162
 v228:=Tryz.zeroValue162
 t229:=Tryz.underlying153
 a229:=Tryz.isAgg153
 z229:=Tryz.sizeOf153
 v229:=Tryz.zeroValue153}
def Tryz.lays190_ren:Go.Shelf.Ren:=⟨fun|190=>43|125=>69|258=>68|128=>107|129=>108|302=>98|303=>99|304=>100|305=>101|306=>102|307=>103|308=>104|309=>105|310=>106|333=>135|329=>136|330=>137|334=>138|335=>139|336=>140|344=>156|n=>n,fun|31=>47|9=>9|3=>3|46=>97|0=>0|51=>126|53=>128|4=>4|183=>118|182=>117|131=>123|5=>5|218=>147|222=>151|228=>162|229=>153|n=>n,fun|n=>n⟩
theorem Tryz.lays190:Go.Proofs.Lays.n190 Tryz.prog Tryz.lays190_ren:={
 mixed:=by kernel_rfl
 f125:=Tryz.func69.trans (congrArg some (by kernel_rfl))
 f128:=Tryz.func107.trans (congrArg some (by kernel_rfl))
 f129:=Tryz.func108.trans (congrArg some (by kernel_rfl))
 f190:=Tryz.func43.trans (congrArg some (by kernel_rfl))
 f258:=Tryz.func68.trans (congrArg some (by kernel_rfl))
 f302:=Tryz.func98.trans (congrArg some (by kernel_rfl))
 f303:=Tryz.func99.trans (congrArg some (by kernel_rfl))
 f304:=Tryz.func100.trans (congrArg some (by kernel_rfl))
 f305:=Tryz.func101.trans (congrArg some (by kernel_rfl))
 f306:=Tryz.func102.trans (congrArg some (by kernel_rfl))
 f307:=Tryz.func103.trans (congrArg some (by kernel_rfl))
 f308:=Tryz.func104.trans (congrArg some (by kernel_rfl))
 f309:=Tryz.func105.trans (congrArg some (by kernel_rfl))
 f310:=Tryz.func106.trans (congrArg some (by kernel_rfl))
 f329:=Tryz.func136.trans (congrArg some (by kernel_rfl))
 f330:=Tryz.func137.trans (congrArg some (by kernel_rfl))
 f333:=Tryz.func135.trans (congrArg some (by kernel_rfl))
 f334:=Tryz.func138.trans (congrArg some (by kernel_rfl))
 f335:=Tryz.func139.trans (congrArg some (by kernel_rfl))
 f336:=Tryz.func140.trans (congrArg some (by kernel_rfl))
 f344:=Tryz.func156.trans (congrArg some (by kernel_rfl))
 t0:=Tryz.underlying0
 a0:=Tryz.isAgg0
 z0:=Tryz.sizeOf0
 v0:=Tryz.zeroValue0
 t3:=Tryz.underlying3
 a3:=Tryz.isAgg3
 z3:=Tryz.sizeOf3
 v3:=Tryz.zeroValue3
 t4:=Tryz.underlying4
 a4:=Tryz.isAgg4
 z4:=Tryz.sizeOf4
 v4:=Tryz.zeroValue4
 t5:=Tryz.underlying5
 a5:=Tryz.isAgg5
 z5:=Tryz.sizeOf5
 v5:=Tryz.zeroValue5
 t9:=Tryz.underlying9
 a9:=Tryz.isAgg9
 z9:=Tryz.sizeOf9
 v9:=Tryz.zeroValue9
 t31:=Tryz.underlying47
 a31:=Tryz.isAgg47
 z31:=Tryz.sizeOf47
 v31:=Tryz.zeroValue47
 t46:=Tryz.underlying97
 a46:=Tryz.isAgg97
 z46:=Tryz.sizeOf97
 v46:=Tryz.zeroValue97
 t51:=Tryz.underlying126
 a51:=Tryz.isAgg126
 z51:=Tryz.sizeOf126
 v51:=Tryz.zeroValue126
 t53:=Tryz.underlying128
 a53:=Tryz.isAgg128
 z53:=Tryz.sizeOf128
 v53:=Tryz.zeroValue128
 t131:=Tryz.underlying123
 a131:=Tryz.isAgg123
 z131:=Tryz.sizeOf123
 v131:=Tryz.zeroValue123
 t182:=Tryz.underlying117
 a182:=Tryz.isAgg117
 z182:=Tryz.sizeOf117
 v182:=Tryz.zeroValue117
 t183:=Tryz.underlying118
 a183:=Tryz.isAgg118
 z183:=Tryz.sizeOf118
 v183:=Tryz.zeroValue118
 t218:=Tryz.underlying147
 a218:=Tryz.isAgg147
 z218:=Tryz.sizeOf147
 v218:=Tryz.zeroValue147
 t222:=Tryz.underlying151
 a222:=Tryz.isAgg151
 z222:=Tryz.sizeOf151
 v222:=Tryz.zeroValue151
 t228:=Tryz.underlying162
 a228:=Tryz.isAgg162
 z228:=Tryz.sizeOf162
 v228:=Tryz.zeroValue162
 t229:=Tryz.underlying153
 a229:=Tryz.isAgg153
 z229:=Tryz.sizeOf153
 v229:=Tryz.zeroValue153}
def Tryz.laysNm220_ren:Go.Shelf.Ren:=⟨fun|20=>152|n=>n,fun|22=>24|3=>3|4=>4|0=>0|n=>n,fun|n=>n⟩
theorem Tryz.laysNm220:Go.Proofs.Lays2.n20 Tryz.prog Tryz.laysNm220_ren:={
 mixed:=by kernel_rfl
 f20:=Tryz.func152.trans (congrArg some (by kernel_rfl))
 t0:=Tryz.underlying0
 a0:=Tryz.isAgg0
 z0:=Tryz.sizeOf0
 v0:=Tryz.zeroValue0
 t3:=Tryz.underlying3
 a3:=Tryz.isAgg3
 z3:=Tryz.sizeOf3
 v3:=Tryz.zeroValue3
 t4:=Tryz.underlying4
 a4:=Tryz.isAgg4
 z4:=Tryz.sizeOf4
 v4:=Tryz.zeroValue4
 t22:=Tryz.underlying24
 a22:=Tryz.isAgg24
 z22:=Tryz.sizeOf24
 v22:=Tryz.zeroValue24
 i3:=by kernel_rfl}
end Go.Proofs
end
section
namespace Go.Bi
theorem A2E{P:Program}{n nb:Nat}{cd:IC}{N:Sl->List AO->Prop}{E0:Nat->Sl->List AO->Prop}{R:Sl->List AO->Prop}{L:Sl}{os:List AO}(id off sz:Nat)(hsz:Nat.blt 0 sz=true){cs:List AV}(ho:os[id]?=some (.cells cs))(hn:cs[off]?=some (.d .nil))
  (k:j6 P n nb cd N E0 R L ((os++[AO.arr [] sz 0 true]).set id (.cells (cs.set off (.arr os.length 0))))):j6 P n nb cd N E0 R L os:=by
 have hw:=B9D (n:=n) (nb:=nb) (ρ:=D5 L) (os:=os) id off sz (A1J Nat.zero_lt_one (P2 hsz)) ho hn
 refine⟨λcode hc c M G w a hR=>?_⟩
 obtain⟨M',G',hR'⟩:=hw c M G w a hR
 exact k.h code hc c M' G' w a hR'
end Go.Bi
namespace Go.Proofs
open Go.Bi
theorem B7X(f:Nat->Nat)(ds:List D):mG f (.agg (ds.map .d))=.agg (ds.map .d):=by
 simp only[mG,W3]
 congr 1
theorem A7x(f:Nat->Nat)(ds:List D):mA f (.agg (ds.map .d))=.agg (ds.map .d):=by
 simp only[mA,mG,W3]
 congr 1
theorem A9k(ds:List D)(n:Nat):(AV.agg (ds.map .d)).bnd2 n:=by
 intro c hc
 obtain⟨x,_,rfl⟩:=F2.1 hc
 trivial
theorem B7R{g:FuncId}(a:AV){x y:D}{r:AV}(ds:List D)(h:B4 Tryz.prog g [.agg (ds.map .d),a] [.cells [.d x]] (λr' os'=>r'=r/\os'=[.cells [.d y]]))(a':Nat->AV)(ha:∀id n,mG (rn [id] n) a=a' id)(hba:a.bnd2 1)(hr:∀f,mA f r=r){os:List AO}{id:Nat}(ho:os[id]?=some (.cells [.d x])) :
  B4 Tryz.prog g [.agg (ds.map .d),a' id] os (λr' os'=>r'=r/\os'=os.set id (.cells [.d y])):=by
 have:=B4.frame (K:=λr' os'=>r'=r/\os'=os.set id (.cells [.d y])) h [id] os rfl (by simp) (λi o hx=>?_) (λz hz=>?_) (λo hx=>?_) ?_
 ·rw[Q4,Q4,List.map_nil,B7X,ha] at this;exact this
 ·cases i with
  |zero=>simp at hx;subst hx;exact ho
  |succ i=>simp at hx
 ·simp only[I9,s8,or_false] at hz
  rcases hz with rfl|rfl
  ·exact A9k _ _
  ·exact hba
 ·cases j5.1 hx
  simp[AO.bnd,AV.bnd1]
 ·rintro _ _ ⟨rfl,rfl⟩
  refine⟨hr _,?_⟩
  simp[U3,mO,mC]
theorem D1d{g:FuncId}{x y:D}{r:AV}{ds:List D}(h:B4 Tryz.prog g [.agg (ds.map .d),.ptr 0 0] [.cells [.d x]] (λr' os'=>r'=r/\os'=[.cells [.d y]]))(hr:∀f,mA f r=r){os:List AO}{id:Nat}(ho:os[id]?=some (.cells [.d x])) :
  B4 Tryz.prog g [.agg (ds.map .d),.ptr id 0] os (λr' os'=>r'=r/\os'=os.set id (.cells [.d y])):=
 B7R _ _ h (λid=>.ptr id 0) (λid n=>rfl) (by simp[AV.bnd2,AV.bnd1]) hr ho
theorem B00{g f:FuncId}{x y:D}{r:AV}{ds:List D}(h:B4 Tryz.prog g [.agg (ds.map .d),.clo f [0]] [.cells [.d x]] (λr' os'=>r'=r/\os'=[.cells [.d y]]))(hr:∀f,mA f r=r){os:List AO}{id:Nat}(ho:os[id]?=some (.cells [.d x])) :
  B4 Tryz.prog g [.agg (ds.map .d),.clo f [id]] os (λr' os'=>r'=r/\os'=os.set id (.cells [.d y])):=
 B7R _ _ h (λid=>.clo f [id]) (λid n=>rfl) (by simp[AV.bnd2,AV.bnd1]) hr ho
mutual
def O4(φ:Ex->Ex):Ex->Ex
 |.mk op n v nm nl args=>if op=2 then φ (.mk op n v nm true (A41 φ args)) else .mk op n v nm true (A41 φ args)
def A41(φ:Ex->Ex):List Ex->List Ex
 |[]=>[]
 |a::l=>O4 φ a::A41 φ l
end
theorem B82(φ:Ex->Ex):∀l,A41 φ l=l.map (O4 φ)
 |[]=>by simp[A41]
 |a::l=>by simp[A41,B82 φ l]
theorem A40(φ:Ex->Ex)(op n:Int)(v:Vl)(nm:List UInt8)(nl:Bool)(args:List Ex):O4 φ (.mk op n v nm nl args)=if op=2 then φ (.mk op n v nm true (args.map (O4 φ))) else .mk op n v nm true (args.map (O4 φ)):=by
 rw[O4,B82]
def Mt(φ:Ex->Ex)(l:List Ex)(i:Nat):List (List D):=xL ((l.take i).map φ)
theorem x5(φ:Ex->Ex)(l:List Ex)(i:Nat)(h:i<=l.length):(Mt φ l i).length=i:=by
 unfold Mt
 rw[I3,D0,N6]
 omega
theorem x6(φ:Ex->Ex)(l:List Ex)(i:Nat):∀e∈Mt φ l i,e.length=7:=N5 _
theorem x7{φ:Ex->Ex}{l:List Ex}{i:Nat}{c:Ex}(h:l[i]?=some c):Mt φ l i++[(φ c).ds]=Mt φ l (i+1):=by
 unfold Mt
 rw[P5,h]
 simp[xL]
theorem x4{φ:Ex->Ex}{l:List Ex}{i:Nat}(h:l.length<=i):Mt φ l i=xL (l.map φ):=by
 unfold Mt
 rw[L0 h]
theorem A7C(l:List (List D)):ng true l=if l.isEmpty then .nil else .sl l:=by unfold ng;rw[s5]
theorem B0V(g:FuncId)(y:D)(φ:Ex->Ex)(hg:∀x:Ex,B4 Tryz.prog g [x.av,.ptr 0 0] [.cells [.d y]] (λr os=>r=(φ x).av/\os=[.cells [.d y]])):∀e:Ex,e.bk<=1048576->B4 Tryz.prog A2N [e.av,.clo g [0]] [.cells [.d y]] (λr os=>r=(O4 φ e).av/\os=[.cells [.d y]]):=by
 refine Ex.ind λop n v nm nl args ih hb=>?_
 obtain⟨b1,b2,b3,b4⟩:=Ex.bk_bounds hb
 obtain⟨Z,hZ⟩:∃Z,Z=(O4 φ (.mk op n v nm nl args)).av:=⟨_,rfl⟩
 rw[<- hZ]
 rw[A40] at hZ
 rw[Ex.av_mk]
 refine B1B.goX A6 rfl ?_
 have h1:=I3 args
 have hm:=N5 args
 obtain⟨da,hda⟩:∃d,d=ng nl (xL args):=⟨_,rfl⟩
 have hsd:B5 da (xL args):=by rw[hda];exact i5
 rw[<- hda]
 have r0:v.k=v.k:=rfl
 have r1:v.s=v.s:=rfl
 have r2:nm=nm:=rfl
 repeat' first|refine st ?_|(with_reducible first|apply A5|apply A4)<;>intro _
 refine s0 5 7 rfl rfl ?_
 repeat' first|refine st ?_|(with_reducible first|apply A5|apply A4)<;>intro _
 refine I8 A6 B4m B47 (λ(i:Nat) (w:List (List D)×Bool)=>[.arr 3 w.1.length,.d (eI i)]) (λi w=>[.cells [.d y],.cells [.d (eI op),.d (eI n),.d (eI v.k),.d (eI v.n),.d (.str v.s),.d (.str nm),.d da],.cells [.d (eI 0),.d (eI 0),.d (eI 0),.d (eI 0),.d (.str []),.d (.str []),.d .nil],.arr w.1 7 0 w.2]) (λi w=>i<=args.length/\w.1=Mt (O4 φ) args i/\w.2=w.1.isEmpty) (λi _=>args.length-i) 0 ([],true) rfl rfl rfl rfl (λ_ _ _=>⟨rfl,rfl⟩) rfl ⟨by omega,rfl,rfl⟩ ?_
 repeat' first|refine st ?_|(with_reducible first|apply A5|apply A4)<;>intro _
 intro i w ⟨h4,h5,h6⟩
 obtain⟨A,b⟩:=w
 dsimp only at h5 h6 ⊢
 have hAl:A.length=i:=by rw[h5];exact x5 _ args i (by omega)
 have hAm:∀e∈A,e.length=7:=by rw[h5];exact x6 _ _ _
 cases hx:args[i]? with
 |some x=>
  have hlt:=(B2.1 hx).1
  have hs:=x7 (φ:=O4 φ) hx
  have hg:=m4 hx
  have hi:=ih x (C2 hx) (b4 x (C2 hx))
  rw[<- h5] at hs
  have hL:∀os:List AO,os[0]?=some (.cells [.d y])->B4 Tryz.prog A2N [x.av,.clo g [0]] os (λr' os'=>r'=(O4 φ x).av/\os'=os.set 0 (.cells [.d y])):=λos ho=>B00 (id:=0) hi (λf=>A7x f _) ho
  obtain⟨z,hz⟩:∃z,z=O4 φ x:=⟨_,rfl⟩
  rw[<- hz] at hs hL
  obtain⟨o1,n1,v1,m1,l1,a1⟩:=x
  obtain⟨o2,n2,v2,m2,l2,a2⟩:=z
  rw[Ex.ds_mk] at hg hs
  simp only[Ex.av_mk] at hL
  repeat' first|refine st ?_|((with_reducible first|apply I7|apply D8);(·exact hL _ rfl);(try rintro _ _ ⟨rfl,rfl⟩))|((with_reducible apply J4);(·exact hL _ rfl))|((with_reducible apply I5);refine st ?_;(with_reducible apply J2);(·exact rfl);refine st ?_;(with_reducible apply D8);(·exact hL _ rfl);(try rintro _ _ ⟨rfl,rfl⟩))|(with_reducible first|apply A5|apply A4)<;>intro _
  exact⟨i+1,(A++[V2 o2 n2 v2 m2 (ng l2 (xL a2))],false),rfl,rfl,rfl,by omega,by omega,hs,by simp⟩
 |none=>
  have hge:=D1.1 hx
  rw[x4 hge] at h5
  have hx':(Ex.mk op n v nm true (args.map (O4 φ))).av=eX op n v nm (if A.isEmpty then .nil else .sl A):=by rw[Ex.av_mk,A7C,<- h5]
  have hφ:∀os:List AO,os[0]?=some (.cells [.d y])->B4 Tryz.prog g [(Ex.mk op n v nm true (args.map (O4 φ))).av,.ptr 0 0] os (λr' os'=>r'=(φ (.mk op n v nm true (args.map (O4 φ)))).av/\os'=os.set 0 (.cells [.d y])):=λos ho=>D1d (id:=0) (hg _) (λf=>A7x f _) ho
  rw[<- h6] at hx'
  by_cases h2:op=2
  ·rw[if_pos h2] at hZ
   obtain⟨z,hz⟩:∃z,z=φ (.mk op n v nm true (args.map (O4 φ))):=⟨_,rfl⟩
   rw[<- hz] at hZ hφ
   rw[hx'] at hφ
   obtain⟨o2,n2,v2,m2,l2,a2⟩:=z
   simp only[Ex.av_mk] at hZ hφ
   rw[hZ]
   cases b with
   |true=>
    rw[if_pos rfl] at hφ
    repeat' first|refine st ?_|((with_reducible first|apply I7|apply D8);(·exact hφ _ rfl);(try rintro _ _ ⟨rfl,rfl⟩))|((with_reducible apply J4);(·exact hφ _ rfl))|((with_reducible apply I5);refine st ?_;(with_reducible apply J2);(·exact rfl);refine st ?_;(with_reducible apply D8);(·exact hφ _ rfl);(try rintro _ _ ⟨rfl,rfl⟩))|(with_reducible first|apply A5|apply A4)<;>intro _
    all_goals exact⟨rfl,rfl⟩
   |false=>
    rw[if_neg (by simp)] at hφ
    repeat' first|refine st ?_|((with_reducible first|apply I7|apply D8);(·exact hφ _ rfl);(try rintro _ _ ⟨rfl,rfl⟩))|((with_reducible apply J4);(·exact hφ _ rfl))|((with_reducible apply I5);refine st ?_;(with_reducible apply J2);(·exact rfl);refine st ?_;(with_reducible apply D8);(·exact hφ _ rfl);(try rintro _ _ ⟨rfl,rfl⟩))|(with_reducible first|apply A5|apply A4)<;>intro _
    all_goals exact⟨rfl,rfl⟩
  ·rw[if_neg h2,hx'] at hZ
   rw[hZ]
   cases b with
   |true=>
    repeat' first|refine st ?_|(with_reducible first|apply A5|apply A4)<;>intro _
    all_goals exact⟨rfl,rfl⟩
   |false=>
    repeat' first|refine st ?_|(with_reducible first|apply A5|apply A4)<;>intro _
    all_goals exact⟨rfl,rfl⟩
def l7(k:Int):Ex->Ex
 |.mk op n v nm nl args=>.mk op (w64 (n+k)) v nm nl args
def B8(k:Int)(e:Ex):Ex:=O4 (l7 k) e
theorem C02(k:Int)(x:Ex):B4 Tryz.prog A6S [x.av,.ptr 0 0] [.cells [.d (eI k)]] (λr os=>r=(l7 k x).av/\os=[.cells [.d (eI k)]]):=by
 obtain⟨op,n,v,nm,nl,args⟩:=x
 rw[l7,Ex.av_mk,Ex.av_mk]
 refine C2Y.goX A6 rfl ?_
 repeat' first|refine st ?_|(with_reducible first|apply A5|apply A4)<;>intro _
 all_goals exact⟨rfl,rfl⟩
theorem A4q(e:Ex)(he:e.bk<=1048576)(k:Int):Pure Tryz.prog B5f [e.av,.d (eI k)] (B8 k e).av:=by
 have hM:=B0V A6S (eI k) (l7 k) (C02 k) e he
 have hL:∀os:List AO,os[1]?=some (.cells [.d (eI k)])->B4 Tryz.prog A2N [e.av,.clo A6S [1]] os (λr' os'=>r'=(O4 (l7 k) e).av/\os'=os.set 1 (.cells [.d (eI k)])):=λos ho=>B00 (id:=1) hM (λf=>A7x f _) ho
 unfold B8
 obtain⟨z,hz⟩:∃z,z=O4 (l7 k) e:=⟨_,rfl⟩
 rw[<- hz] at hL ⊢
 obtain⟨o1,n1,v1,m1,l1,a1⟩:=e
 obtain⟨o2,n2,v2,m2,l2,a2⟩:=z
 simp only[Ex.av_mk] at hL ⊢
 refine C2X.go A6 rfl ?_
 repeat' first|refine st ?_|((with_reducible first|apply I7|apply D8);(·exact hL _ rfl);(try rintro _ _ ⟨rfl,rfl⟩))|((with_reducible apply J4);(·exact hL _ rfl))|((with_reducible apply I5);refine st ?_;(with_reducible apply J2);(·exact rfl);refine st ?_;(with_reducible apply D8);(·exact hL _ rfl);(try rintro _ _ ⟨rfl,rfl⟩))|(with_reducible first|apply A5|apply A4)<;>intro _
 all_goals rfl
theorem B9i(k op n:Int)(v:Vl)(nm:List UInt8)(nl:Bool)(args:List Ex):B8 k (.mk op n v nm nl args)=.mk op (if op=2 then w64 (n+k) else n) v nm true (args.map (B8 k)):=by
 unfold B8
 rw[A40]
 by_cases h:op=2
 ·rw[if_pos h,if_pos h];rfl
 ·rw[if_neg h,if_neg h]
theorem C16(k:Int):∀e:Ex,e.bk<=1048576->Pure Tryz.prog B4A [e.av,.d (eI k)] (B8 k e).av:=by
 refine Ex.ind λop n v nm nl args ih hb=>?_
 obtain⟨b1,b2,b3,b4⟩:=Ex.bk_bounds hb
 rw[B9i,Ex.av_mk]
 refine C28.go A6 rfl ?_
 have h1:=I3 args
 have hm:=N5 args
 obtain⟨da,hda⟩:∃d,d=ng nl (xL args):=⟨_,rfl⟩
 have hsd:B5 da (xL args):=by rw[hda];exact i5
 rw[<- hda]
 have r0:v.k=v.k:=rfl
 have r1:v.s=v.s:=rfl
 have r2:nm=nm:=rfl
 obtain⟨n',hn'⟩:∃n',n'=(if op=2 then w64 (n+k) else n):=⟨_,rfl⟩
 rw[<- hn',Ex.av_mk,A7C]
 by_cases h2:op=2
 ·rw[if_pos h2] at hn'
  subst hn'
  repeat' first|refine st ?_|(with_reducible first|apply A5|apply A4)<;>intro _
  refine A2E 2 6 7 rfl rfl rfl ?_
  refine I8 A6 B4c B3X (λ(i:Nat) (w:List (List D)×Bool)=>[.d (eI i)]) (λi w=>[.cells [.d (eI op),.d (eI n),.d (eI v.k),.d (eI v.n),.d (.str v.s),.d (.str nm),.d da],.cells [.d (eI 0),.d (eI 0),.d (eI 0),.d (eI 0),.d (.str []),.d (.str []),.d .nil],.cells [.d (eI op),.d (eI (w64 (n+k))),.d (eI v.k),.d (eI v.n),.d (.str v.s),.d (.str nm),.arr 3 w.1.length],.arr w.1 7 0 w.2]) (λi w=>i<=args.length/\w.1=Mt (B8 k) args i/\w.2=w.1.isEmpty) (λi _=>args.length-i) 0 ([],true) rfl rfl rfl rfl (λ_ _ _=>⟨rfl,rfl⟩) rfl ⟨by omega,rfl,rfl⟩ ?_
  repeat' first|refine st ?_|(with_reducible first|apply A5|apply A4)<;>intro _
  intro i w ⟨h4,h5,h6⟩
  obtain⟨A,b⟩:=w
  dsimp only at h5 h6 ⊢
  have hAl:A.length=i:=by rw[h5];exact x5 _ args i (by omega)
  have hAm:∀e∈A,e.length=7:=by rw[h5];exact x6 _ _ _
  cases hx:args[i]? with
  |some x=>
   have hlt:=(B2.1 hx).1
   have hs:=x7 (φ:=B8 k) hx
   have hg:=m4 hx
   have hi:=ih x (C2 hx) (b4 x (C2 hx))
   rw[<- h5] at hs
   obtain⟨z,hz⟩:∃z,z=B8 k x:=⟨_,rfl⟩
   rw[<- hz] at hs hi
   obtain⟨o1,n1,v1,m1,l1,a1⟩:=x
   obtain⟨o2,n2,v2,m2,l2,a2⟩:=z
   rw[Ex.ds_mk] at hg hs
   rw[Ex.av_mk,Ex.av_mk] at hi
   repeat' first|refine st ?_|((with_reducible first|apply A8|apply A7);(·exact hi))|(with_reducible first|apply A5|apply A4)<;>intro _
   exact⟨i+1,(A++[V2 o2 n2 v2 m2 (ng l2 (xL a2))],false),rfl,rfl,rfl,by omega,by omega,hs,by simp⟩
  |none=>
   have hge:=D1.1 hx
   rw[x4 hge] at h5
   rw[<- h5,<- h6]
   cases b with
   |true=>
    rw[if_pos rfl]
    repeat' first|refine st ?_|(with_reducible first|apply A5|apply A4)<;>intro _
    all_goals rfl
   |false=>
    rw[if_neg (by simp)]
    repeat' first|refine st ?_|(with_reducible first|apply A5|apply A4)<;>intro _
    all_goals rfl
 ·rw[if_neg h2] at hn'
  rw[hn']
  repeat' first|refine st ?_|(with_reducible first|apply A5|apply A4)<;>intro _
  refine A2E 2 6 7 rfl rfl rfl ?_
  refine I8 A6 B4c B3X (λ(i:Nat) (w:List (List D)×Bool)=>[.d (eI i)]) (λi w=>[.cells [.d (eI op),.d (eI n),.d (eI v.k),.d (eI v.n),.d (.str v.s),.d (.str nm),.d da],.cells [.d (eI 0),.d (eI 0),.d (eI 0),.d (eI 0),.d (.str []),.d (.str []),.d .nil],.cells [.d (eI op),.d (eI n),.d (eI v.k),.d (eI v.n),.d (.str v.s),.d (.str nm),.arr 3 w.1.length],.arr w.1 7 0 w.2]) (λi w=>i<=args.length/\w.1=Mt (B8 k) args i/\w.2=w.1.isEmpty) (λi _=>args.length-i) 0 ([],true) rfl rfl rfl rfl (λ_ _ _=>⟨rfl,rfl⟩) rfl ⟨by omega,rfl,rfl⟩ ?_
  repeat' first|refine st ?_|(with_reducible first|apply A5|apply A4)<;>intro _
  intro i w ⟨h4,h5,h6⟩
  obtain⟨A,b⟩:=w
  dsimp only at h5 h6 ⊢
  have hAl:A.length=i:=by rw[h5];exact x5 _ args i (by omega)
  have hAm:∀e∈A,e.length=7:=by rw[h5];exact x6 _ _ _
  cases hx:args[i]? with
  |some x=>
   have hlt:=(B2.1 hx).1
   have hs:=x7 (φ:=B8 k) hx
   have hg:=m4 hx
   have hi:=ih x (C2 hx) (b4 x (C2 hx))
   rw[<- h5] at hs
   obtain⟨z,hz⟩:∃z,z=B8 k x:=⟨_,rfl⟩
   rw[<- hz] at hs hi
   obtain⟨o1,n1,v1,m1,l1,a1⟩:=x
   obtain⟨o2,n2,v2,m2,l2,a2⟩:=z
   rw[Ex.ds_mk] at hg hs
   rw[Ex.av_mk,Ex.av_mk] at hi
   repeat' first|refine st ?_|((with_reducible first|apply A8|apply A7);(·exact hi))|(with_reducible first|apply A5|apply A4)<;>intro _
   exact⟨i+1,(A++[V2 o2 n2 v2 m2 (ng l2 (xL a2))],false),rfl,rfl,rfl,by omega,by omega,hs,by simp⟩
  |none=>
   have hge:=D1.1 hx
   rw[x4 hge] at h5
   rw[<- h5,<- h6]
   cases b with
   |true=>
    rw[if_pos rfl]
    repeat' first|refine st ?_|(with_reducible first|apply A5|apply A4)<;>intro _
    all_goals rfl
   |false=>
    rw[if_neg (by simp)]
    repeat' first|refine st ?_|(with_reducible first|apply A5|apply A4)<;>intro _
    all_goals rfl
end Go.Proofs
end
section
namespace Go.Bi
theorem A0o{f:Nat->Nat}{k:Nat}(hf:∀i,i<k->f i=i){c:AV}(h:c.bnd1 k):mC f c=c:=by
 cases c with
 |ptr id off=>simp only[mC];rw[hf id h]
 |aptr id len i off=>simp only[mC];rw[hf id h]
 |arr id len=>simp only[mC];rw[hf id h]
 |clo g caps=>
  simp only[mC]
  congr 1
  conv=>rhs;rw[<- w9 caps]
  exact S8 λi hi=>hf i (h i hi)
 |iter id=>simp only[mC];rw[hf id h]
 |mp id=>simp only[mC];rw[hf id h]
 |mit id=>simp only[mC];rw[hf id h]
 |rs id len=>simp only[mC];rw[hf id h]
 |rp id len i off=>simp only[mC];rw[hf id h]
 |_=>rfl
theorem B7Y{f:Nat->Nat}{k:Nat}(hf:∀i,i<k->f i=i){c:AV}(h:c.bnd2 k):mG f c=c:=by
 cases c with
 |agg cs=>
  simp only[mG]
  congr 1
  conv=>rhs;rw[<- w9 cs]
  exact S8 λc hc=>A0o hf (h c hc)
 |ptr id off=>exact A0o (c:=.ptr id off) hf h
 |aptr id len i off=>exact A0o (c:=.aptr id len i off) hf h
 |arr id len=>exact A0o (c:=.arr id len) hf h
 |clo g caps=>exact A0o (c:=.clo g caps) hf h
 |iter id=>exact A0o (c:=.iter id) hf h
 |mp id=>exact A0o (c:=.mp id) hf h
 |mit id=>exact A0o (c:=.mit id) hf h
 |rs id len=>exact A0o (c:=.rs id len) hf h
 |rp id len i off=>exact A0o (c:=.rp id len i off) hf h
 |_=>rfl
theorem B7Z{f:Nat->Nat}{k:Nat}(hf:∀i,i<k->f i=i){o:AO}(h:o.bnd k):mO f o=o:=by
 cases o with
 |cells cs=>
  simp only[mO]
  congr 1
  conv=>rhs;rw[<- w9 cs]
  exact S8 λc hc=>A0o hf (h c hc)
 |map kvs=>
  simp only[mO]
  congr 1
  conv=>rhs;rw[<- w9 kvs]
  exact S8 λp hp=>by rw[B7Y hf (h p hp)];rfl
 |mit m n s=>simp only[mO];rw[hf m h]
 |rarr es sz nl=>
  simp only[mO]
  congr 1
  conv=>rhs;rw[<- w9 es]
  refine S8 λe he=>?_
  conv=>rhs;rw[id,<- w9 e]
  exact S8 λc hc=>A0o hf (h e he c hc)
 |_=>rfl
theorem B4.pre{P:Program}{g:FuncId}{args:List AV}{bs:List AO}{Q:AV->List AO->Prop}(h:B4 P g args bs Q)(rest:List AO)(hba:∀a∈args,a.bnd2 bs.length)(hbo:∀o∈bs,o.bnd bs.length){K:AV->List AO->Prop}
  (hk:∀r bs',Q r bs'->bs'.length=bs.length/\(∀o∈bs',o.bnd bs.length)/\(∀f,mA f r=r)/\K r (bs'++rest)):B4 P g args (bs++rest) K:=by
 have hf:∀n i,i<bs.length->rn (List.range bs.length) n i=i:=λn i hi=>by
  rw[B0h (by simpa using hi),G9]
  simp[hi]
 have:=B4.frame (K:=K) h (List.range bs.length) (bs++rest) (by simp) List.nodup_range (λi o hx=>?_) hba hbo (λr bs' hq=>?_)
 ·have e:args.map (mG (rn (List.range bs.length) (bs++rest).length))=args:=by
   conv=>rhs;rw[<- w9 args]
   exact S8 λa ha=>B7Y (hf _) (hba a ha)
  rwa [e] at this
 ·have hi:=(B2.1 hx).1
  have e:=hf (bs++rest).length i hi
  rw[B0h (by simpa using hi)] at e
  rw[e,M6 hi,hx,B7Z (hf _) (hbo o (C2 hx))]
 ·obtain⟨h1,h2,h3,h4⟩:=hk r bs' hq
  rw[h3]
  obtain⟨g1,g2,g3,g4⟩:=B0f (rn (List.range bs.length) (bs++rest).length) (List.range bs.length) bs' (bs++rest) List.nodup_range (λs hs=>by simp at hs ⊢;omega) (by simp[h1])
  have e:U3 (rn (List.range bs.length) (bs++rest).length) (List.range bs.length) bs' (bs++rest)=bs'++rest:=by
   refine A3p λj=>?_
   rcases Nat.lt_or_ge j bs.length with hj|hj
   ·have hb:bs'[j]?=some bs'[j]:=C9 (by omega)
    rw[g1 j j _ (by simp[hj]) hb,M6 (by omega),hb,B7Z (hf _) (h2 _ (C2 hb))]
   ·rcases Nat.lt_or_ge j (bs++rest).length with hj2|hj2
    ·rw[g2 j hj2 (by simp;omega),R6 hj,R6 (by omega),h1]
    ·rw[A0a (by rw[g4];simp at hj2 ⊢;omega),A0a (by simp at hj2 ⊢;omega)]
  rw[e]
  exact h4
end Go.Bi
namespace Go.Proofs
open Go.Bi
end Go.Proofs
end
section
namespace Go.Proofs
open Go.Bi
theorem D06:Bi.Enters Tryz.prog A93:=⟨_,Tryz.func151,by kernel_rfl,by decide⟩
theorem D05:Bi.Enters Tryz.prog A90:=⟨_,Tryz.func152,by kernel_rfl,by decide⟩
def R5(zs:List Int):List Int:=zs.mergeSort λx y=>decide (x<=y)
theorem B9o(zs:List Int):(R5 zs).length=zs.length:=by simp[R5]
def B6r(zs:List Int):List Int:=Lib.compact zs++List.replicate (zs.length-(Lib.compact zs).length) 0
theorem A9j(n:Nat)(es:List (List D))(sz frz:Nat)(nl:Bool):(AO.arr es sz frz nl).bnd n:=by simp[AO.bnd]
theorem C1Q(zs:List Int)(nl:Bool)(hz:zs.length<4611686018427387904){os:List AO}{id:Nat}(ho:os[id]?=some (.arr (A0 zs) 1 0 nl)) :
  B4 Tryz.prog A93 [.arr id (A0 zs).length] os (λr os'=>r=.tup []/\os'=os.set id (.arr (A0 (R5 zs)) 1 0 nl)):=
 A9Z (λid=>[.arr id (A0 zs).length]) (D36 Tryz.lays189 D06 zs nl hz) (λ_=>rfl) (λ_=>rfl) (λ_=>rfl) (λ_ _=>rfl) (by simp[AV.bnd2,AV.bnd1]) (A9j ..) ho
theorem C1N(zs:List Int)(nl:Bool)(hz:zs.length<=9223372036854775807){os:List AO}{id:Nat}(ho:os[id]?=some (.arr (A0 zs) 1 0 nl)) :
  B4 Tryz.prog A90 [.arr id (A0 zs).length] os (λr os'=>r=.d (if nl then .nil else .sl (A0 (Lib.compact zs)))/\os'=os.set id (.arr (A0 (B6r zs)) 1 (if nl then 0 else (Lib.compact zs).length) nl)):=
 A9Z (λid=>[.arr id (A0 zs).length]) (C9q Tryz.laysNm220 D05 zs nl hz) (λ_=>rfl) (λ_=>rfl) (λ_=>rfl) (λ_ _=>rfl) (by simp[AV.bnd2,AV.bnd1]) (A9j ..) ho
mutual
def K9:Ex->List Int
 |.mk op n v nm nl args=>(if op=2 then [n] else [])++A60 args
def A60:List Ex->List Int
 |[]=>[]
 |a::l=>K9 a++A60 l
end
theorem B8N:∀l,A60 l=l.flatMap K9
 |[]=>by simp[A60]
 |a::l=>by simp[A60,B8N l]
theorem A36(op n:Int)(v:Vl)(nm:List UInt8)(nl:Bool)(args:List Ex):K9 (.mk op n v nm nl args)=(if op=2 then [n] else [])++args.flatMap K9:=by rw[K9,B8N]
theorem B79{l:List Ex}{f:Ex->List Int}(h:∀a∈l,(f a).length<=a.bk):(l.flatMap f).length<=G6 (xL l):=by
 induction l with
 |nil=>simp
 |cons a l ih=>
  have h1:=h a (by simp)
  have h2:=ih λb hb=>h b (by simp[hb])
  rw[A1B,Q3]
  simp only[xL,Q4,G6]
  unfold Ex.bk at h1
  unfold xL at h2
  omega
theorem A7G:∀e:Ex,(K9 e).length<=e.bk:=by
 refine Ex.ind λop n v nm nl args ih=>?_
 have hb:=Ex.bk_mk op n v nm nl args
 have:=B79 ih
 rw[A36,Q3]
 split<;>simp only[N9,X7]<;>omega
def own(op n:Int):List Int:=if op=2 then [n] else []
theorem C9Z(a b:List Int):A0 (a++b)=A0 a++A0 b:=by simp[A0]
theorem C01(op n:Int)(v:Vl)(nm:List UInt8)(d:D)(zs:List Int)(hz:zs.length<=4194304) :
  B4 Tryz.prog A3x [eX op n v nm d,.ptr 0 0] [.cells [.arr 1 (A0 zs).length],.arr (A0 zs) 1 0 (A0 zs).isEmpty] (λr os=>r=.tup []/\os=[.cells [.arr 1 (A0 (zs++own op n)).length],.arr (A0 (zs++own op n)) 1 0 (A0 (zs++own op n)).isEmpty]):=by
 obtain⟨b,hb⟩:∃b,b=(A0 zs).isEmpty:=⟨_,rfl⟩
 rw[<- hb]
 have hl:=B6 zs
 unfold own
 by_cases h:op=2
 ·rw[if_pos h,C9Z]
  have e1:(A0 zs++A0 [n]).isEmpty=false:=by simp[A0]
  rw[e1]
  refine B1z.goX A6 rfl ?_
  repeat' first|refine st ?_|(with_reducible first|apply A5|apply A4)<;>intro _
  all_goals exact⟨rfl,by simp[A0]⟩
 ·rw[if_neg h,Z6,<- hb]
  refine B1z.goX A6 rfl ?_
  repeat' first|refine st ?_|(with_reducible first|apply A5|apply A4)<;>intro _
  all_goals exact⟨rfl,rfl⟩
theorem A5K{α:Type}{x a b:α}(h:x∈[a,b]):x=a\/x=b:=by simpa using h
theorem B8L{g:FuncId}{ds:List D}{a:AV}(ha:a.bnd2 2){zs ys:List Int}(h:B4 Tryz.prog g [.agg (ds.map .d),a] [.cells [.arr 1 (A0 zs).length],.arr (A0 zs) 1 0 (A0 zs).isEmpty] (λr os=>r=.tup []/\os=[.cells [.arr 1 (A0 ys).length],.arr (A0 ys) 1 0 (A0 ys).isEmpty]))(rest:List AO) :
  B4 Tryz.prog g [.agg (ds.map .d),a] ([.cells [.arr 1 (A0 zs).length],.arr (A0 zs) 1 0 (A0 zs).isEmpty]++rest) (λr os=>r=.tup []/\os=[.cells [.arr 1 (A0 ys).length],.arr (A0 ys) 1 0 (A0 ys).isEmpty]++rest):=by
 refine B4.pre h rest (λx hx=>?_) (λo ho=>?_) ?_
 ·rcases A5K hx with rfl|rfl
  ·exact A9k _ _
  ·exact ha
 ·rcases A5K ho with rfl|rfl<;>simp[AO.bnd,AV.bnd1]
 ·rintro r bs' ⟨rfl,rfl⟩
  refine⟨rfl,λo ho=>?_,λf=>rfl,rfl,rfl⟩
  rcases A5K ho with rfl|rfl<;>simp[AO.bnd,AV.bnd1]
theorem D2x{l:List Ex}{i:Nat}{x:Ex}(h:l[i]?=some x):(l.take (i+1)).flatMap K9=(l.take i).flatMap K9++K9 x:=by
 rw[P5,h];simp
theorem D2w(l:List Ex)(i:Nat):((l.take i).flatMap K9).length<=G6 (xL l):=by
 have h1:((l.take i).flatMap K9).length<=(l.flatMap K9).length:=by
  conv=>rhs;rw[<- List.take_append_drop i l,List.flatMap_append,Q3]
  omega
 have h2:=B79 (l:=l) (f:=K9) (λa _=>A7G a)
 omega
theorem B8O:∀{l:List Ex}{i:Nat}{x:Ex},l[i]?=some x->((l.take i).flatMap K9).length+x.bk<=G6 (xL l)
 |[],i,x,h=>by simp at h
 |a::l,0,x,h=>by
  simp at h
  subst h
  simp only[xL,Q4,G6,List.take_zero,List.flatMap_nil,X7]
  unfold Ex.bk
  omega
 |a::l,i+1,x,h=>by
  have:=B8O (l:=l) (i:=i) (x:=x) (by simpa using h)
  have h1:=A7G a
  rw[List.take_succ_cons,A1B,Q3]
  simp only[xL,Q4,G6]
  unfold Ex.bk at *
  unfold xL at this
  omega
theorem C1V:∀e:Ex,e.bk<=1048576->∀zs:List Int,zs.length+e.bk<=2097152->B4 Tryz.prog A6V [e.av,.clo A3x [0]] [.cells [.arr 1 (A0 zs).length],.arr (A0 zs) 1 0 (A0 zs).isEmpty] (λr os=>r=.tup []/\os=[.cells [.arr 1 (A0 (zs++K9 e)).length],.arr (A0 (zs++K9 e)) 1 0 (A0 (zs++K9 e)).isEmpty]):=by
 refine Ex.ind λop n v nm nl args ih hb zs hz=>?_
 obtain⟨b1,b2,b3,b4⟩:=Ex.bk_bounds hb
 have hbm:=Ex.bk_mk op n v nm nl args
 have hC1:∀rest,B4 Tryz.prog A3x [eX op n v nm (ng nl (xL args)),.ptr 0 0] ([.cells [.arr 1 (A0 zs).length],.arr (A0 zs) 1 0 (A0 zs).isEmpty]++rest) (λr os=>r=.tup []/\os=[.cells [.arr 1 (A0 (zs++own op n)).length],.arr (A0 (zs++own op n)) 1 0 (A0 (zs++own op n)).isEmpty]++rest):=λrest=>
  B8L (ds:=V2 op n v nm (ng nl (xL args))) (by simp[AV.bnd2,AV.bnd1]) (C01 op n v nm _ zs (by omega)) rest
 rw[A36,<- own,<- List.append_assoc,Ex.av_mk]
 obtain⟨z1,hz1⟩:∃z,z=zs++own op n:=⟨_,rfl⟩
 have hz1l:z1.length<=zs.length+1:=by
  rw[hz1,Q3]
  unfold own
  split<;>simp
 rw[<- hz1] at hC1 ⊢
 have h1:=I3 args
 have hm:=N5 args
 obtain⟨da,hda⟩:∃d,d=ng nl (xL args):=⟨_,rfl⟩
 have hsd:B5 da (xL args):=by rw[hda];exact i5
 rw[<- hda] at hC1 ⊢
 have r0:v.k=v.k:=rfl
 have r1:v.s=v.s:=rfl
 have r2:nm=nm:=rfl
 refine C38.goX A6 rfl ?_
 obtain⟨e0,he0⟩:∃b,b=(A0 zs).isEmpty:=⟨_,rfl⟩
 rw[<- he0] at hC1 ⊢
 repeat' first|refine st ?_|((with_reducible first|apply I7|apply D8);(·exact hC1 _);(try rintro _ _ ⟨rfl,rfl⟩))|((with_reducible apply J4);(·exact hC1 _))|((with_reducible apply I5);refine st ?_;(with_reducible apply J2);(·exact rfl);refine st ?_;(with_reducible apply D8);(·exact hC1 _);(try rintro _ _ ⟨rfl,rfl⟩))|(with_reducible first|apply A5|apply A4)<;>intro _
 refine F3 A6 C5O C4I (λ(i:Nat)=>[.d (eI i)]) (λi=>[.cells [.arr 1 (A0 (z1++(args.take i).flatMap K9)).length],.arr (A0 (z1++(args.take i).flatMap K9)) 1 0 (A0 (z1++(args.take i).flatMap K9)).isEmpty]++[.cells [.d (eI op),.d (eI n),.d (eI v.k),.d (eI v.n),.d (.str v.s),.d (.str nm),.d da]]) (λi=>i<=args.length) (λi=>args.length-i) 0 rfl rfl rfl (by simp) (λ_ _=>⟨rfl,rfl⟩) rfl (S9 _) ?_
 repeat' first|refine st ?_|(with_reducible first|apply A5|apply A4)<;>intro _
 intro i h4
 have hrl:=D2w args i
 cases hx:args[i]? with
 |some x=>
  have hlt:=(B2.1 hx).1
  have hgx:=m4 hx
  have hxm:=C2 hx
  have hxb:E7 x.ds<=G6 (xL args):=A2f (F2.2 ⟨x,hxm,rfl⟩)
  have hxk:=Ex.bk_arg (op:=op) (n:=n) (v:=v) (name:=nm) (nl:=nl) hxm
  have hs:=D2x hx
  obtain⟨t,ht⟩:∃t,t=z1++(args.take i).flatMap K9:=⟨_,rfl⟩
  have hi:=ih x hxm (b4 x hxm) t (by
   have h0:=B8O hx
   rw[ht,Q3]
   omega)
  have hn:z1++(args.take (i+1)).flatMap K9=t++K9 x:=by rw[hs,ht,List.append_assoc]
  rw[<- hn] at hi
  rw[<- ht]
  have hL:=λrest=>B8L (ds:=x.ds) (by simp[AV.bnd2,AV.bnd1]) hi rest
  obtain⟨e1,he1⟩:∃b,b=(A0 t).isEmpty:=⟨_,rfl⟩
  rw[<- he1] at hL ⊢
  obtain⟨o1,n1,v1,m1,l1,a1⟩:=x
  rw[Ex.ds_mk] at hgx hL
  repeat' first|refine st ?_|((with_reducible first|apply I7|apply D8);(·exact hL _);(try rintro _ _ ⟨rfl,rfl⟩))|((with_reducible apply J4);(·exact hL _))|((with_reducible apply I5);refine st ?_;(with_reducible apply J2);(·exact rfl);refine st ?_;(with_reducible apply D8);(·exact hL _);(try rintro _ _ ⟨rfl,rfl⟩))|(with_reducible first|apply A5|apply A4)<;>intro _
  exact⟨i+1,rfl,rfl,rfl,by omega,by omega⟩
 |none=>
  have hge:=D1.1 hx
  rw[L0 hge]
  repeat' first|refine st ?_|(with_reducible first|apply A5|apply A4)<;>intro _
  all_goals exact⟨rfl,rfl⟩
end Go.Proofs
end
section
namespace Go.Proofs
open Go.Bi
def j0(l:List Int):Prop:=l.Pairwise (·<·)
theorem B5Y:∀{l m:List Int},j0 l->j0 m->(∀x,x∈l↔x∈m)->l=m
 |[],[],_,_,_=>rfl
 |[],b::m,_,_,h=>by have:=(h b).2 (by simp);simp at this
 |a::l,[],_,_,h=>by have:=(h a).1 (by simp);simp at this
 |a::l,b::m,h1,h2,h=>by
  have g1:=s9.1 h1
  have g2:=s9.1 h2
  have hab:a=b:=by
   have ha:=(h a).1 (by simp)
   have hb:=(h b).2 (by simp)
   rcases I9.1 ha with e|ha
   ·exact e
   ·rcases I9.1 hb with e|hb
    ·exact e.symm
    ·have q1:=g1.1 b hb
     have q2:=g2.1 a ha
     omega
  subst hab
  congr 1
  refine B5Y g1.2 g2.2 λx=>⟨λhx=>?_,λhx=>?_⟩
  ·have q:=g1.1 x hx
   rcases I9.1 ((h x).1 (J3 _ hx)) with e|hx'
   ·omega
   ·exact hx'
  ·have q:=g2.1 x hx
   rcases I9.1 ((h x).2 (J3 _ hx)) with e|hx'
   ·omega
   ·exact hx'
theorem B6v(d:Array Int)(hs:∀i j:Nat,i<=j->j<d.size->d[i]!<=d[j]!):∀m,m<=d.size->j0 (Lib.compactUpTo d m)/\∀x,x∈Lib.compactUpTo d m↔∃j,j<m/\d[j]! = x
 |0,_=>by
  refine⟨by simp[Lib.compactUpTo,j0],λx=>?_⟩
  simp[Lib.compactUpTo]
 |m+1,hm=>by
  obtain⟨h1,h2⟩:=B6v d hs m (by omega)
  rw[Lib.compactUpTo_succ]
  cases hk:Lib.keeps d m with
  |true=>
   rw[if_pos rfl]
   have hk':m=0\/d[m]!≠d[m-1]!:=of_decide_eq_true hk
   constructor
   ·refine List.pairwise_append.2 ⟨h1,by simp,λx hx y hy=>?_⟩
    simp at hy
    subst hy
    obtain⟨j,hj,rfl⟩:=(h2 x).1 hx
    have q1:=hs j (m-1) (by omega) (by omega)
    have q2:=hs (m-1) m (by omega) (by omega)
    rcases hk' with h0|hne
    ·omega
    ·omega
   ·intro x
    rw[P0,h2]
    constructor
    ·rintro(⟨j,hj,e⟩|hx)
     ·exact⟨j,by omega,e⟩
     ·simp at hx;exact⟨m,by omega,hx.symm⟩
    ·rintro⟨j,hj,e⟩
     rcases Nat.lt_succ_iff_lt_or_eq.1 hj with h|rfl
     ·exact .inl ⟨j,h,e⟩
     ·exact .inr (by simp[e])
  |false=>
   rw[if_neg (by decide),Z6]
   have hk':¬(m=0\/d[m]!≠d[m-1]!):=of_decide_eq_false hk
   refine⟨h1,λx=>?_⟩
   rw[h2]
   constructor
   ·rintro⟨j,hj,e⟩;exact⟨j,by omega,e⟩
   ·rintro⟨j,hj,e⟩
    rcases Nat.lt_succ_iff_lt_or_eq.1 hj with h|rfl
    ·exact⟨j,h,e⟩
    ·have q1:¬j=0:=λe=>hk' (.inl e)
     have q2:d[j]! = d[j-1]!:=Classical.byContradiction λe=>hk' (.inr e)
     exact⟨j-1,by omega,by rw[<- q2];exact e⟩
theorem B6x(zs:List Int):j0 (Lib.compact (R5 zs))/\∀x,x∈Lib.compact (R5 zs)↔x∈zs:=by
 have hp:(R5 zs).Pairwise λa b=>a<=b:=by
  have:=List.pairwise_mergeSort (le:=λx y:Int=>decide (x<=y)) (by intro a b c h1 h2;simp at *;omega) (by intro a b;simp;omega) zs
  refine this.imp λh=>?_
  simpa using h
 have hsz:(R5 zs).toArray.size=(R5 zs).length:=by simp
 have hget:∀i,i<(R5 zs).length->(R5 zs).toArray[i]! = (R5 zs).getD i 0:=by
  intro i hi
  rw[getElem!_pos _ i (by simpa using hi),G9,C9 hi]
  simp
 have hs:∀i j:Nat,i<=j->j<(R5 zs).toArray.size->(R5 zs).toArray[i]!<=(R5 zs).toArray[j]!:=by
  intro i j hij hj
  rw[hsz] at hj
  rw[hget i (by omega),hget j hj]
  rcases Nat.lt_or_ge i j with h|h
  ·have:=A8y.1 hp i j (by omega) hj h
   rw[G9,G9,C9 (show i<_ by omega),C9 hj]
   exact this
  ·obtain rfl:i=j:=by omega
   exact Int.le_refl _
 obtain⟨h1,h2⟩:=B6v (R5 zs).toArray hs (R5 zs).length (by simp)
 refine⟨h1,λx=>?_⟩
 unfold Lib.compact
 rw[h2]
 have hmem:x∈R5 zs↔x∈zs:=by unfold R5;exact List.mem_mergeSort
 rw[<- hmem,A1E]
 constructor
 ·rintro⟨j,hj,e⟩
  refine⟨j,?_⟩
  rw[hget j hj,G9,C9 hj] at e
  rw[C9 hj]
  exact congrArg some e
 ·rintro⟨j,e⟩
  have hj:=(B2.1 e).1
  refine⟨j,hj,?_⟩
  rw[hget j hj,G9,e];rfl
def O0(e:Ex):List Int:=Lib.compact (R5 (K9 e))
def A3H(e:Ex):D:=if (A0 (K9 e)).isEmpty then .nil else .sl (A0 (O0 e))
theorem C9n(e:Ex):j0 (O0 e):=(B6x (K9 e)).1
theorem A7b(e:Ex)(x:Int):x∈O0 e↔x∈K9 e:=(B6x (K9 e)).2 x
theorem A3I(e:Ex):(O0 e).length<=e.bk:=by
 have h1:=B6w (R5 (K9 e))
 have h2:=B9o (K9 e)
 have h3:=A7G e
 unfold O0
 omega
theorem C9m(e:Ex):B5 (A3H e) (A0 (O0 e)):=by
 unfold A3H
 split
 ·rename_i h
  have:K9 e=[]:=by
   cases hx:K9 e with
   |nil=>rfl
   |cons a l=>rw[hx] at h;cases h
  refine .inl ⟨rfl,?_⟩
  have hc:O0 e=[]:=by
   rw[List.eq_nil_iff_forall_not_mem]
   intro x hx
   rw[A7b,this] at hx
   cases hx
  rw[hc];rfl
 ·exact .inr rfl
theorem C0R(e:Ex)(he:e.bk<=1048576):Pure Tryz.prog B5d [e.av] (.d (A3H e)):=by
 have hv:=C1V e he [] (by simp;omega)
 rw[A1H] at hv
 have hrl:=A7G e
 unfold A3H O0
 obtain⟨zs,hzs⟩:∃z,z=K9 e:=⟨_,rfl⟩
 rw[<- hzs] at hv hrl ⊢
 have hb:∀ds:List D,B4 Tryz.prog A6V [.agg (ds.map .d),.clo A3x [0]] [.cells [.arr 1 0],.arr [] 1 0 true] (λr os=>r=.tup []/\os=[.cells [.arr 1 (A0 zs).length],.arr (A0 zs) 1 0 (A0 zs).isEmpty])->∀E:List AV,B4 Tryz.prog A6V [.agg (ds.map .d),.clo A3x [1]] [.cells E,.cells [.d .nil]] (λr os=>r=.tup []/\os=[.cells E,.cells [.arr 2 (A0 zs).length],.arr (A0 zs) 1 0 (A0 zs).isEmpty]):=by
  intro ds hE E
  refine B4.nilc 1 0 1 rfl (cs:=[.d .nil]) rfl rfl ?_
  have:=B4.frame (K:=λr os=>r=.tup []/\os=[.cells E,.cells [.arr 2 (A0 zs).length],.arr (A0 zs) 1 0 (A0 zs).isEmpty]) hE [1,2] [.cells E,.cells [.arr 2 0],.arr [] 1 0 true] rfl (by decide) (λi o h=>by
   match i,h with
   |0,h=>cases h;rfl
   |1,h=>cases h;rfl
   |i+2,h=>simp at h) (λa ha=>by
    rcases A5K ha with rfl|rfl
    ·exact A9k _ _
    ·simp[AV.bnd2,AV.bnd1]) (λo ho=>by
    rcases A5K ho with rfl|rfl<;>simp[AO.bnd,AV.bnd1]) (by rintro r bs' ⟨rfl,rfl⟩;exact⟨rfl,rfl⟩)
  rw[Q4,Q4,List.map_nil,B7X] at this
  exact this
 have hB:=hb e.ds hv
 obtain⟨op,n,v,nm,nl,args⟩:=e
 rw[Ex.ds_mk] at hB
 rw[Ex.av_mk]
 obtain⟨b,hbb⟩:∃b,b=(A0 zs).isEmpty:=⟨_,rfl⟩
 rw[<- hbb] at hB ⊢
 have s1:∀(os:List AO) (id:Nat),os[id]?=some (.arr (A0 zs) 1 0 b)->B4 Tryz.prog A93 [.arr id (A0 zs).length] os (λr os'=>r=.tup []/\os'=os.set id (.arr (A0 (R5 zs)) 1 0 b)):=λos id ho=>C1Q zs b (by omega) ho
 have hsl:=B9o zs
 have hle:(A0 zs).length=(A0 (R5 zs)).length:=by rw[B6,B6,hsl]
 have s2:∀(os:List AO) (id:Nat),os[id]?=some (.arr (A0 (R5 zs)) 1 0 b)->B4 Tryz.prog A90 [.arr id (A0 zs).length] os (λr os'=>r=.d (if b then .nil else .sl (A0 (Lib.compact (R5 zs))))/\os'=os.set id (.arr (A0 (B6r (R5 zs))) 1 (if b then 0 else (Lib.compact (R5 zs)).length) b)):=λos id ho=>by rw[hle];exact C1N (R5 zs) b (by omega) ho
 refine C2V.go A6 rfl ?_
 cases b with
 |true=>
  repeat' first|(with_reducible apply I5)|refine st ?_|((with_reducible first|apply I7|apply D8);(·first|exact hB _|exact s1 _ _ rfl|exact s2 _ _ rfl);(try rintro _ _ ⟨rfl,rfl⟩))|((with_reducible apply J4);(·first|exact hB _|exact s1 _ _ rfl|exact s2 _ _ rfl))|((with_reducible apply I5);refine st ?_;(with_reducible apply J2);(·exact rfl);refine st ?_;(with_reducible apply D8);(·first|exact hB _|exact s1 _ _ rfl|exact s2 _ _ rfl);(try rintro _ _ ⟨rfl,rfl⟩))|(with_reducible first|apply A5|apply A4)<;>intro _
  all_goals rfl
 |false=>
  repeat' first|(with_reducible apply I5)|refine st ?_|((with_reducible first|apply I7|apply D8);(·first|exact hB _|exact s1 _ _ rfl|exact s2 _ _ rfl);(try rintro _ _ ⟨rfl,rfl⟩))|((with_reducible apply J4);(·first|exact hB _|exact s1 _ _ rfl|exact s2 _ _ rfl))|((with_reducible apply I5);refine st ?_;(with_reducible apply J2);(·exact rfl);refine st ?_;(with_reducible apply D8);(·first|exact hB _|exact s1 _ _ rfl|exact s2 _ _ rfl);(try rintro _ _ ⟨rfl,rfl⟩))|(with_reducible first|apply A5|apply A4)<;>intro _
  all_goals rfl
end Go.Proofs
end
section
namespace Go.Proofs
open Go.Bi
def A19(kvs:List (D×AV))(c:Int):Int:=match J6 .i (eI c) kvs with
 |some (.d (.int _ n))=>n
 |_=>0
def P6(kvs:List (D×AV))(c:Int):List (D×AV):=K8 .i (eI c) (.d (eI (A19 kvs c+1))) kvs
structure R0(l:List Int)(kvs:List (D×AV)):Prop where
 ks:∀p∈kvs,∃t n,p=(eI t,.d (eI n))
 ct:∀c,A19 kvs c=(l.count c:Nat)
theorem R0.nil:R0 [] []:=⟨λp hp=>by simp at hp,λc=>by simp[A19,J6]⟩
theorem R0.str{l:List Int}{kvs:List (D×AV)}(h:R0 l kvs):∀p∈kvs,∃t,p.1=eI t:=λp hp=>by
 obtain⟨t,n,rfl⟩:=h.ks p hp;exact⟨t,rfl⟩
theorem R0.lk{l:List Int}{kvs:List (D×AV)}(h:R0 l kvs)(c:Int):lkR false (zv false [.int .i64 0]) (J6 .i (eI c) kvs)=.d (eI (l.count c:Nat)):=by
 rw[<- h.ct c]
 unfold A19
 have key:∀{kvs:List (D×AV)},(∀p∈kvs,∃t n,p=(eI t,.d (eI n)))->J6 .i (eI c) kvs=none\/∃n,J6 .i (eI c) kvs=some (.d (eI n)):=by
  intro kvs
  induction kvs with
  |nil=>intro _;exact .inl rfl
  |cons q kvs ih=>
   intro hk
   unfold J6
   split
   ·obtain⟨t,n,rfl⟩:=hk q (by simp)
    exact .inr ⟨n,rfl⟩
   ·exact ih λp hp=>hk p (by simp[hp])
 rcases key h.ks with e|⟨n,e⟩<;>rw[e]<;>rfl
theorem B84{s t:Int}(hst:s≠t){v:AV}:∀{kvs:List (D×AV)},(∀p∈kvs,∃t,p.1=eI t)->J6 .i (eI s) (K8 .i (eI t) v kvs)=J6 .i (eI s) kvs
 |[],_=>by simp[K8,J6,A0K,hst]
 |q::kvs,h=>by
  obtain⟨u,hu⟩:=h q (by simp)
  unfold K8
  rw[hu,A0K]
  by_cases e:t=u
  ·subst e
   rw[if_pos (by simp),J6,A0K,if_neg (by simp[hst]),J6,hu,A0K,if_neg (by simp[hst])]
  ·rw[if_neg (by simp[e]),J6,J6]
   rw[B84 hst (λp hp=>h p (by simp[hp]))]
theorem B87{s n:Int}:∀{kvs:List (D×AV)},(∀p∈kvs,∃t n,p=(eI t,.d (eI n)))->∀p∈K8 .i (eI s) (.d (eI n)) kvs,∃t n,p=(eI t,.d (eI n))
 |[],h,p,hp=>by simp[K8] at hp;subst hp;exact⟨s,n,rfl⟩
 |q::kvs,h,p,hp=>by
  unfold K8 at hp
  split at hp
  ·rcases I9.1 hp with rfl|hp
   ·exact⟨s,n,rfl⟩
   ·exact h p (by simp[hp])
  ·rcases I9.1 hp with rfl|hp
   ·exact h _ (by simp)
   ·exact B87 (λp hp=>h p (by simp[hp])) p hp
theorem R0.add{l:List Int}{kvs:List (D×AV)}(h:R0 l kvs)(c:Int):R0 (l++[c]) (P6 kvs c):=by
 refine⟨B87 h.ks,λd=>?_⟩
 unfold P6
 rw[List.count_append]
 by_cases e:d=c
 ·subst e
  unfold A19
  rw[B04]
  show A19 kvs d+1=_
  rw[h.ct]
  simp
 ·have:A19 (K8 .i (eI c) (.d (eI (A19 kvs c+1))) kvs) d=A19 kvs d:=by
   unfold A19
   rw[B84 e h.str]
  rw[this,h.ct,List.count_singleton]
  simp[Ne.symm e]
theorem R0.adds{l:List Int}{kvs:List (D×AV)}(h:R0 l kvs):∀cs:List Int,R0 (l++cs) (cs.foldl P6 kvs)
 |[]=>by simpa using h
 |c::cs=>by
  have:=R0.adds (h.add c) cs
  simpa using this
theorem R0.bnd{l:List Int}{kvs:List (D×AV)}(h:R0 l kvs)(m:Nat):(AO.map kvs).bndB m=true:=by
 refine O3.2 λp hp=>?_
 obtain⟨t,n,rfl⟩:=h.ks p hp
 rfl
theorem R0.mO{l:List Int}{kvs:List (D×AV)}(h:R0 l kvs)(f:Nat->Nat):mO f (.map kvs)=.map kvs:=by
 show AO.map _=_
 congr 1
 conv=>rhs;rw[<- w9 kvs]
 refine S8 λp hp=>?_
 obtain⟨t,n,rfl⟩:=h.ks p hp
 rfl
theorem C1T(l:List Int)(kvs:List (D×AV))(hk:R0 l kvs)(cs:List Int)(hl:l.length+cs.length<=1152921504606846976)(d:D)(hd:B5 d (A0 cs)) :
  B4 Tryz.prog A8V [.d d,.ptr 1 0] [.map kvs,.cells [.mp 0]] (λr os=>r=.tup []/\os=[.map (cs.foldl P6 kvs),.cells [.mp 0]]):=by
 refine C2T.goX A6 rfl ?_
 have h1:=B6 cs
 have hm:=D2 cs
 repeat' first|refine st ?_|(with_reducible first|apply A5|apply A4)<;>intro _
 refine F3 A6 C5I C4C (λ(k:Nat)=>[.d (eI k)]) (λk=>[.map ((cs.take k).foldl P6 kvs),.cells [.mp 0]]) (λk=>k<=cs.length) (λk=>cs.length-k) 0 rfl rfl rfl rfl (λk _=>⟨rfl,(by rw[m6,R0.bnd (hk.adds _)];rfl)⟩) rfl (by omega) ?_
 repeat' first|refine st ?_|(with_reducible first|apply A5|apply A4)<;>intro _
 intro k h6
 cases hy:cs[k]? with
 |some c=>
  have hlt2:=(B2.1 hy).1
  have hg2:=J9 hy
  have hts:cs.take (k+1)=cs.take k++[c]:=by rw[P5,hy];rfl
  have hK:=hk.adds (cs.take k)
  have hS:=hK.lk c
  have hC:=hK.ct c
  have hcl:((l++cs.take k).count c)<=l.length+k:=by
   have:=List.count_le_length (a:=c) (l:=l++cs.take k)
   rw[Q3,N6] at this
   omega
  have e2:K8 .i (eI c) (.d (eI (((l++cs.take k).count c:Nat)+1))) ((cs.take k).foldl P6 kvs)=(cs.take (k+1)).foldl P6 kvs:=by
   rw[hts,A3r,<- hC];rfl
  obtain⟨kv,hkv⟩:∃kv,kv=(cs.take k).foldl P6 kvs:=⟨_,rfl⟩
  have m1:l5 .i (eI c) kv:=by rw[hkv];exact A5S _ _ hK.str
  rw[<- hkv] at hS e2 ⊢
  obtain⟨kv2,hkv2⟩:∃kv,kv=(cs.take (k+1)).foldl P6 kvs:=⟨_,rfl⟩
  rw[<- hkv2] at e2
  obtain⟨q,hq⟩:∃q:Nat,q=(l++cs.take k).count c:=⟨_,rfl⟩
  rw[<- hq] at hS e2 hcl
  repeat' first|refine st ?_|(with_reducible first|apply A5|apply A4)<;>intro _
  rw[hkv2]
  exact⟨k+1,rfl,rfl,rfl,by omega,by omega⟩
 |none=>
  have hge:=D1.1 hy
  rw[L0 hge]
  have hB:=(hk.adds cs).bnd 2
  have hB2:([AO.map (cs.foldl P6 kvs),AO.cells [AV.mp 0]].all λo=>o.bndB 2)=true:=by rw[m6,hB];rfl
  repeat' first|refine st ?_|(with_reducible first|apply A5|apply A4)<;>intro _
  exact⟨rfl,rfl⟩
end Go.Proofs
end
section
namespace Go.Proofs
open Go.Bi
theorem A8o(T:AO)(rest:List AO)(l:List Int)(kvs:List (D×AV))(hk:R0 l kvs)(cs:List Int)(hl:l.length+cs.length<=1152921504606846976)(d:D)(hd:B5 d (A0 cs)) :
  B4 Tryz.prog A8V [.d d,.ptr 2 0] (T::.map kvs::.cells [.mp 1]::rest) (λr os=>r=.tup []/\os=T::.map (cs.foldl P6 kvs)::.cells [.mp 1]::rest):=by
 have hK:=hk.adds cs
 have:=B4.frame (K:=λr os=>r=.tup []/\os=T::.map (cs.foldl P6 kvs)::.cells [.mp 1]::rest) (C1T l kvs hk cs hl d hd) [1,2] (T::.map kvs::.cells [.mp 1]::rest) rfl (by decide) (λi o h=>by
   match i,h with
   |0,h=>cases h;rw[hk.mO];rfl
   |1,h=>cases h;rfl
   |i+2,h=>simp at h) (λa ha=>by
    simp only[I9,s8,or_false] at ha
    rcases ha with rfl|rfl<;>simp[AV.bnd2,AV.bnd1]) (λo ho=>by
    simp only[I9,s8,or_false] at ho
    rcases ho with rfl|rfl
    ·exact M7 (hk.bnd 2)
    ·simp[AO.bnd,AV.bnd1]) (by
   rintro r bs' ⟨rfl,rfl⟩
   refine⟨rfl,?_⟩
   simp only[U3,hK.mO,List.map_nil,Z6]
   rfl)
 exact this
def A21(fs:List Fo):List Int:=fs.flatMap Fo.cs
def A6k(xs:List Ex):List Int:=xs.flatMap O0
def Z5(t:Tb):List Int:=t.ks++A21 t.fs++A6k t.xs
theorem B7a{α:Type}(g:α->List Int)(m:Nat):∀(l:List α),(∀x∈l,(g x).length<=m)->(l.flatMap g).length<=l.length*m
 |[],_=>by simp
 |x::l,h=>by
  have:=B7a g m l (λy hy=>h y (by simp[hy]))
  have h1:=h x (by simp)
  rw[A1B,Q3,N9,Nat.succ_mul]
  omega
theorem B7c{α:Type}(g:α->List Int){l:List α}{i:Nat}{x:α}(h:l[i]?=some x):(l.take (i+1)).flatMap g=(l.take i).flatMap g++g x:=by
 rw[P5,h,List.flatMap_append]
 simp
theorem B7d{α:Type}(g:α->List Int)(l:List α)(i:Nat)(hl:l.length<=1048576)(h:∀x∈l,(g x).length<=1048576):((l.take i).flatMap g).length<=1099511627776:=by
 have h1:=B7a g 1048576 (l.take i) (λx hx=>h x (A1F hx))
 have h2:(l.take i).length<=1048576:=by rw[N6];omega
 have h3:(l.take i).length*1048576<=1048576*1048576:=X9 _ h2
 omega
def A1t(t:Tb):List (D×AV):=(Z5 t).foldl P6 []
theorem B0A(t:Tb):R0 (Z5 t) (A1t t):=by
 have:=R0.nil.adds (Z5 t)
 rw[A1H] at this
 exact this
theorem C0P(t:Tb)(dc dk df dx:D)(h:N4 t dc dk df dx):B4 Tryz.prog A8U [eT t.nm dc dk df dx] [] (λr os=>r=.mp 1/\os=[.cells [.d (.str t.nm),.d dc,.d dk,.d df,.d dx],.map (A1t t),.cells [.mp 1]]):=by
 have hM:A1t t=(A6k t.xs).foldl P6 ((A21 t.fs).foldl P6 (t.ks.foldl P6 [])):=by unfold A1t Z5;rw[A3r,A3r]
 rw[hM]
 obtain⟨n,l,ks,fs,xs⟩:=t
 obtain⟨hn,hl,hls,hk,hfl,hfc,hxs,hxb,hc,hdk,hdf,hdx⟩:=h
 dsimp only at *
 have k0:=R0.nil.adds ks
 rw[A1H] at k0
 have kF:∀i,R0 (ks++(fs.take i).flatMap Fo.cs) (((fs.take i).flatMap Fo.cs).foldl P6 (ks.foldl P6 [])):=λi=>k0.adds _
 have kX:∀i,R0 (ks++A21 fs++(xs.take i).flatMap O0) (((xs.take i).flatMap O0).foldl P6 ((A21 fs).foldl P6 (ks.foldl P6 []))):=λi=>(k0.adds _).adds _
 have lF:∀i,((fs.take i).flatMap Fo.cs).length<=1099511627776:=λi=>B7d _ fs i hfl (λf hf=>(hfc f hf).1)
 have lF0:(A21 fs).length<=1099511627776:=by have:=lF fs.length;rw[List.take_length] at this;exact this
 have lX:∀i,((xs.take i).flatMap O0).length<=1099511627776:=λi=>B7d _ xs i hxs (λe he=>N7 (A3I e) (hxb e he))
 have hU:=λT rest=>A8o T rest [] [] .nil ks (by simp;omega) dk hdk
 have f1:=c8 fs
 have f2:=y7 fs
 have x1:=I3 xs
 have x2:=N5 xs
 obtain⟨K0,hK0⟩:∃K,K=ks.foldl P6 []:=⟨_,rfl⟩
 rw[<- hK0] at kF kX hU k0 ⊢
 refine C2S.goO A6 rfl ?_
 repeat' first|refine st ?_|((with_reducible first|apply I7|apply D8);(·exact hU _ _);(try rintro _ _ ⟨rfl,rfl⟩))|((with_reducible apply J4);(·exact hU _ _))|((with_reducible apply I5);refine st ?_;(with_reducible apply J2);(·exact rfl);refine st ?_;(with_reducible apply D8);(·exact hU _ _);(try rintro _ _ ⟨rfl,rfl⟩))|(with_reducible first|apply A5|apply A4)<;>intro _
 refine F3 A6 C5J C4D (λ(i:Nat)=>[.d (eI i)]) (λi=>[.cells [.d (.str n),.d dc,.d dk,.d df,.d dx],.map (((fs.take i).flatMap Fo.cs).foldl P6 K0),.cells [.mp 1]]) (λi=>i<=fs.length) (λi=>fs.length-i) 0 rfl rfl rfl rfl (λi _=>⟨rfl,(by rw[m6,m6,R0.bnd (kF i)];rfl)⟩) rfl (by omega) ?_
 repeat' first|refine st ?_|(with_reducible first|apply A5|apply A4)<;>intro _
 intro i h4
 cases hx:fs[i]? with
 |some f=>
  have hlt:=(B2.1 hx).1
  have hg:=A0i hx
  obtain⟨hf,hft⟩:=hfc f (C2 hx)
  have hsd:=f.sld
  have hFt:=B7c Fo.cs hx
  have hli:=lF i
  have hU:=λT rest=>A8o T rest _ _ (kF i) f.cs (by rw[Q3];omega) f.d hsd
  rw[<- A3r,<- hFt] at hU
  obtain⟨nl,cs,tb⟩:=f
  obtain⟨fd,hfd⟩:∃fd,fd=Fo.d ⟨nl,cs,tb⟩:=⟨_,rfl⟩
  have hg:(F8 fs)[i]?=some [Fo.d ⟨nl,cs,tb⟩,.str tb]:=hg
  rw[<- hfd] at hg hU
  obtain⟨K1,hK1⟩:∃K,K=((fs.take i).flatMap Fo.cs).foldl P6 K0:=⟨_,rfl⟩
  obtain⟨K2,hK2⟩:∃K,K=((fs.take (i+1)).flatMap Fo.cs).foldl P6 K0:=⟨_,rfl⟩
  rw[<- hK1,<- hK2] at hU
  rw[<- hK1]
  repeat' first|refine st ?_|((with_reducible first|apply I7|apply D8);(·exact hU _ _);(try rintro _ _ ⟨rfl,rfl⟩))|((with_reducible apply J4);(·exact hU _ _))|((with_reducible apply I5);refine st ?_;(with_reducible apply J2);(·exact rfl);refine st ?_;(with_reducible apply D8);(·exact hU _ _);(try rintro _ _ ⟨rfl,rfl⟩))|(with_reducible first|apply A5|apply A4)<;>intro _
  rw[hK2]
  exact⟨i+1,rfl,rfl,rfl,by omega,by omega⟩
 |none=>
  have hge:=D1.1 hx
  rw[L0 hge]
  rw[show fs.flatMap Fo.cs=A21 fs from rfl]
  obtain⟨K1,hK1⟩:∃K,K=(A21 fs).foldl P6 K0:=⟨_,rfl⟩
  rw[<- hK1] at kX ⊢
  repeat' first|refine st ?_|(with_reducible first|apply A5|apply A4)<;>intro _
  refine F3 A6 C5K C4E (λ(i:Nat)=>[.d (eI i)]) (λi=>[.cells [.d (.str n),.d dc,.d dk,.d df,.d dx],.map (((xs.take i).flatMap O0).foldl P6 K1),.cells [.mp 1]]) (λi=>i<=xs.length) (λi=>xs.length-i) 0 rfl rfl rfl rfl (λi _=>⟨rfl,(by rw[m6,m6,R0.bnd (kX i)];rfl)⟩) rfl (by omega) ?_
  repeat' first|refine st ?_|(with_reducible first|apply A5|apply A4)<;>intro _
  intro j h5
  cases hy:xs[j]? with
  |some e=>
   have hlt:=(B2.1 hy).1
   have hb:=hxb e (C2 hy)
   have hCo:=C0R e hb
   have hsl:=C9m e
   have hFt:=B7c O0 hy
   have hli:=lX j
   have hcl:=A3I e
   have hU:=λT rest=>A8o T rest _ _ (kX j) (O0 e) (by rw[Q3,Q3];omega) (A3H e) hsl
   rw[<- A3r,<- hFt] at hU
   obtain⟨dc2,hdc2⟩:∃d,d=A3H e:=⟨_,rfl⟩
   rw[<- hdc2] at hCo hU
   obtain⟨K2,hK2⟩:∃K,K=((xs.take j).flatMap O0).foldl P6 K1:=⟨_,rfl⟩
   obtain⟨K3,hK3⟩:∃K,K=((xs.take (j+1)).flatMap O0).foldl P6 K1:=⟨_,rfl⟩
   rw[<- hK2,<- hK3] at hU
   rw[<- hK2]
   obtain⟨o1,n1,v1,m1,l1,a1⟩:=e
   have hg:=m5 (args:=xs) _ _ _ _ _ _ _ hy
   rw[Ex.av_mk] at hCo
   repeat' first|refine st ?_|((with_reducible first|apply A8|apply A7);(·exact hCo))|((with_reducible first|apply I7|apply D8);(·exact hU _ _);(try rintro _ _ ⟨rfl,rfl⟩))|((with_reducible apply J4);(·exact hU _ _))|((with_reducible apply I5);refine st ?_;(with_reducible apply J2);(·exact rfl);refine st ?_;(with_reducible apply D8);(·exact hU _ _);(try rintro _ _ ⟨rfl,rfl⟩))|(with_reducible first|apply A5|apply A4)<;>intro _
   rw[hK3]
   exact⟨j+1,rfl,rfl,rfl,by omega,by omega⟩
  |none=>
   have hge:=D1.1 hy
   rw[L0 hge]
   rw[show xs.flatMap O0=A6k xs from rfl]
   repeat' first|refine st ?_|(with_reducible first|apply A5|apply A4)<;>intro _
   all_goals exact⟨rfl,rfl⟩
end Go.Proofs
end
section
namespace Go.Proofs
open Go.Bi
structure Ch where
 k:Int
 nm:List UInt8
 to:List UInt8
 co:Co
 df:Vl
abbrev chD(k:Int)(nm to cn:List UInt8)(ck:Int)(cl:Bool)(vk vn:Int)(vs:List UInt8):AV:=.agg [.d (eI k),.d (.str nm),.d (.str to),.d (.str cn),.d (eI ck),.d (.bool cl),.d (eI vk),.d (eI vn),.d (.str vs)]
abbrev Ch.av(c:Ch):AV:=chD c.k c.nm c.to c.co.nm c.co.k c.co.nl c.df.k c.df.n c.df.s
def A2y(c:Ch):Bool:=
 if c.k=1 then !(decide (c.nm=[])&&decide (c.to=[]))
 else !((decide (c.k=3)||decide (c.to=[]))&&(decide (c.co.nm=[])&&decide (c.co.k=0)&&!c.co.nl)&&(decide (c.df.k=0)&&decide (c.df.n=0)&&decide (c.df.s=[])))
theorem C0O(c:Ch):Pure Tryz.prog B5b [c.av] (.d (.bool (A2y c))):=by
 obtain⟨k,nm,to,⟨cn,ck,cl⟩,⟨vk,vn,vs⟩⟩:=c
 obtain⟨q,hq⟩:∃q,q=A2y ⟨k,nm,to,⟨cn,ck,cl⟩,⟨vk,vn,vs⟩⟩:=⟨_,rfl⟩
 rw[<- hq]
 simp only[A2y] at hq
 have r1:nm=nm:=rfl
 have r2:to=to:=rfl
 have r3:cn=cn:=rfl
 have r4:vs=vs:=rfl
 have r5:([]:List UInt8)=[]:=rfl
 refine C2R.go A6 rfl ?_
 repeat' first|refine st ?_|(with_reducible first|apply A5|apply A4)<;>intro _
 all_goals (have e1:(0=ck)=(ck=0):=propext eq_comm)
 all_goals (have e2:(0=vk)=(vk=0):=propext eq_comm)
 all_goals (have e3:(0=vn)=(vn=0):=propext eq_comm)
 all_goals first
  |(simp_all;done)
  |(simp_all;simp only[e1,e2,e3,Bool.or_assoc])
def A0c(t:Tb)(c:Ch):Int:=
 if 12<=t.cs.length then 13 else if L2 c.co.nm=false then 1 else if ¬(1<=c.co.k/\c.co.k<=3) then 7 else if 0<=E8 c.co.nm t.cs then 10 else if A0u c.df=false then 8
 else if c.df.k=0/\c.co.nl=false then 12 else if c.df.k≠0/\c.df.k≠c.co.k then 7 else 0
theorem C0N(t:Tb)(dc dk df dx:D)(h:N4 t dc dk df dx)(c:Ch)(hcn:c.co.nm.length<=1048576)(hcv:c.df.s.length<=1048576):Pure Tryz.prog B5a [eT t.nm dc dk df dx,c.av] (.d (eI (A0c t c))):=by
 have hF:=T8 t.nm t.cs h.hl dc dk df dx h.dc c.co.nm
 have hN:=A4w c.co.nm hcn
 have hV:=B1g c.df (by omega)
 have hl:=G5 t.cs
 have hdc:=h.dc
 obtain⟨q,hq⟩:∃q,q=A0c t c:=⟨_,rfl⟩
 rw[<- hq]
 unfold A0c at hq
 obtain⟨f,hf⟩:∃f,f=E8 c.co.nm t.cs:=⟨_,rfl⟩
 obtain⟨nb,hnb⟩:∃f,f=L2 c.co.nm:=⟨_,rfl⟩
 obtain⟨vb,hvb⟩:∃f,f=A0u c.df:=⟨_,rfl⟩
 rw[<- hf] at hF hq
 rw[<- hnb] at hN hq
 rw[<- hvb] at hV hq
 obtain⟨k,nm,to,⟨cn,ck,cl⟩,⟨vk,vn,vs⟩⟩:=c
 obtain⟨es,hes⟩:∃es,es=B3 t.cs:=⟨_,rfl⟩
 rw[<- hes] at hl hdc
 dsimp only at hq hF hN hV
 obtain⟨m0,hm0⟩:∃m,m=t.cs.length:=⟨_,rfl⟩
 rw[<- hm0] at hq hl
 clear hf hnb hvb hes hm0
 refine C2Q.go A6 rfl ?_
 repeat' first|refine st ?_|((with_reducible first|apply A8|apply A7);(·first|exact hF|exact hN|exact hV))|(with_reducible first|apply A5|apply A4)<;>intro _
 all_goals (rw[hq];clear hq hF hN hV)
 all_goals repeat' split
 all_goals first|rfl|(exfalso;omega)|(exfalso;simp_all;done)|(exfalso;simp_all;omega)
end Go.Proofs
end
section
namespace Go.Proofs
open Go.Bi
theorem B76(nm:List UInt8):∀(l:List Co)(i:Nat),k9 nm i l=-1\/∃(j:Nat)(c:Co),l[j]?=some c/\c.nm=nm/\k9 nm i l=((i+j:Nat):Int)
 |[],i=>.inl rfl
 |c::l,i=>by
  unfold k9
  by_cases h:c.nm=nm
  ·exact .inr ⟨0,c,rfl,h,by simp[h]⟩
  ·rcases B76 nm l (i+1) with e|⟨j,d,h1,h2,h3⟩
   ·exact .inl (by simp[h,e])
   ·exact .inr ⟨j+1,d,by simpa using h1,h2,by simp only[h,if_false];rw[h3];omega⟩
theorem A9I{nm:List UInt8}{l:List Co}(h:0<=E8 nm l):∃c,l[(E8 nm l).toNat]?=some c/\c.nm=nm:=by
 unfold E8 at *
 rcases B76 nm l 0 with e|⟨j,d,h1,h2,h3⟩
 ·omega
 ·exact⟨d,by rw[h3];simpa using h1,h2⟩
def A1M(t:Tb)(i:Int):Int:=match t.cs[i.toNat]? with
 |some c=>c.k
 |none=>0
def A2V(t:Tb)(c:Ch):Int:=
 if E8 c.nm t.cs<0 then 11 else if c.k≠3/\0<(Z5 t).count (E8 c.nm t.cs) then 25 else if c.k=4/\A1M t (E8 c.nm t.cs)=2 then 7
 else if c.k=3/\L2 c.to=false then 1 else if c.k=3/\0<=E8 c.to t.cs then 10 else 0
def E5(t:Tb)(c:Ch):Int:=
 if J0 t≠0 then J0 t else if ¬(1<=c.k/\c.k<=4) then 7 else if A2y c then 8 else if c.k=1 then A0c t c else A2V t c
structure J1(c:Ch):Prop where
 nm:c.nm.length<=1048576
 to:c.to.length<=1048576
 cn:c.co.nm.length<=1048576
 vs:c.df.s.length<=1048576
theorem C1S(t:Tb)(dc dk df dx:D)(h:N4 t dc dk df dx):B4 Tryz.prog A8U [eT t.nm dc dk df dx] [] (λr os=>(∀n,shA n r=.mp (1+n))/\∀n,os.map (U5 n)=[.cells [.d (.str t.nm),.d dc,.d dk,.d df,.d dx],.map (A1t t),.cells [.mp (1+n)]]):=by
 refine(C0P t dc dk df dx h).mono ?_
 rintro r os ⟨rfl,rfl⟩
 refine⟨λn=>rfl,λn=>?_⟩
 have e:(A1t t).map (λp=>(p.1,shG n p.2))=A1t t:=by
  conv=>rhs;rw[<- w9 (A1t t)]
  refine S8 λp hp=>?_
  obtain⟨a,b,rfl⟩:=(B0A t).ks p hp
  rfl
 show[_,AO.map ((A1t t).map λp=>(p.1,shG n p.2)),_]=_
 rw[e]
 rfl
theorem U7(t:Tb)(dc dk df dx:D)(h:N4 t dc dk df dx)(c:Ch)(hc:J1 c):Pure Tryz.prog B58 [eT t.nm dc dk df dx,c.av] (.d (eI (E5 t c))):=by
 have hT:=A8n t dc dk df dx h
 have hS:=C0O c
 have hA:=C0N t dc dk df dx h c hc.cn hc.vs
 have hF:=T8 t.nm t.cs h.hl dc dk df dx h.dc c.nm
 have hG:=T8 t.nm t.cs h.hl dc dk df dx h.dc c.to
 have hN:=A4w c.to hc.to
 have hU:=C1S t dc dk df dx h
 have hl:=G5 t.cs
 have hme:=I1 t.cs
 have hdc:=h.dc
 obtain⟨q,hq⟩:∃q,q=E5 t c:=⟨_,rfl⟩
 rw[<- hq]
 unfold E5 A2V at hq
 have hfs:=λhh=>A9I (nm:=c.nm) (l:=t.cs) hh
 have hm:=(B0A t).str
 have hlk:=(B0A t).lk (E8 c.nm t.cs)
 have hcnt:∃n:Nat,n=(Z5 t).count (E8 c.nm t.cs):=⟨_,rfl⟩
 obtain⟨n0,hn0⟩:=hcnt
 rw[<- hn0] at hlk hq
 obtain⟨f,hf⟩:∃f,f=E8 c.nm t.cs:=⟨_,rfl⟩
 rw[<- hf] at hF hq hlk hfs
 obtain⟨g,hg⟩:∃f,f=E8 c.to t.cs:=⟨_,rfl⟩
 rw[<- hg] at hG hq
 obtain⟨nb,hnb⟩:∃f,f=L2 c.to:=⟨_,rfl⟩
 rw[<- hnb] at hN hq
 obtain⟨sb,hsb⟩:∃f,f=A2y c:=⟨_,rfl⟩
 rw[<- hsb] at hS hq
 obtain⟨ae,hae⟩:∃f,f=A0c t c:=⟨_,rfl⟩
 rw[<- hae] at hA hq
 obtain⟨te,hte⟩:∃f,f=J0 t:=⟨_,rfl⟩
 rw[<- hte] at hT hq
 obtain⟨kvs,hkvs⟩:∃f,f=A1t t:=⟨_,rfl⟩
 rw[<- hkvs] at hU hm hlk
 have m1:l5 .i (eI f) kvs:=A5S _ _ hm
 have hix:0<=f->∃s k b,(B3 t.cs)[f.toNat]?=some [.str s,eI k,.bool b]/\A1M t f=k/\f<t.cs.length:=by
  intro hh
  obtain⟨d,h1,h2⟩:=hfs hh
  have h3:=(B2.1 h1).1
  exact⟨d.nm,d.k,d.nl,L5 h1,by unfold A1M;rw[h1],by omega⟩
 obtain⟨k,nm,to,⟨cn,ck,cl⟩,⟨vk,vn,vs⟩⟩:=c
 obtain⟨es,hes⟩:∃es,es=B3 t.cs:=⟨_,rfl⟩
 rw[<- hes] at hl hdc hix hme
 obtain⟨ka,hka⟩:∃x,x=A1M t f:=⟨_,rfl⟩
 rw[<- hka] at hq hix
 obtain⟨m0,hm0⟩:∃m,m=t.cs.length:=⟨_,rfl⟩
 rw[<- hm0] at hl hix
 dsimp only at hq hF hG hN hS hA hT
 clear hfs hf hg hnb hsb hae hte hkvs hm hn0 hes hka hm0 hc h
 by_cases hf0:f<0
 ·clear hix
  refine B1w.go A6 rfl ?_
  repeat' first|refine st ?_|((with_reducible first|apply A8|apply A7);(·first|exact hF|exact hN|exact hG|exact hS|exact hA|exact hT))|(with_reducible first|apply A5|apply A4)<;>intro _
  all_goals (rw[hq];clear hq hF hN hG hS hA hT hU)
  all_goals (try dsimp only at *)
  all_goals repeat' split
  all_goals first|rfl|(exfalso;omega)|(exfalso;simp_all;done)|(exfalso;simp_all;omega)
 ·obtain⟨s,kk,b,hgt,rfl,hlt⟩:=hix (by omega)
  have hf1:0<=f:=by omega
  refine B1w.go A6 rfl ?_
  repeat' first|refine st ?_|((with_reducible apply I7);(· exact hU);(intro _ _ hr);(rw[hr.1,hr.2]))|((with_reducible first|apply A8|apply A7);(·first|exact hF|exact hN|exact hG|exact hS|exact hA|exact hT))|(with_reducible first|apply A5|apply A4)<;>intro _
  all_goals (rw[hq];clear hq hF hN hG hS hA hT hU)
  all_goals (try dsimp only at *)
  all_goals repeat' split
  all_goals first|rfl|(exfalso;omega)|(exfalso;simp_all;done)|(exfalso;simp_all;omega)
end Go.Proofs
end
