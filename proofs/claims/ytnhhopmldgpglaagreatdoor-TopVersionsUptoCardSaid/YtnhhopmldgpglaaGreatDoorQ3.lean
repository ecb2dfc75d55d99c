/- Texts of this claim, joined. No condition. -/
import Derived.Test.YtnhhopmldgpglaaGreatDoorQ2
import Derived.Test.YtnhhopmldgpglaaGreatDoorBi
import Derived.Shelf.Sort.Plain
import Derived.Shelf.Slices.In.SortNone
import Derived.Shelf.Slices.CompactI
import Derived.Ground.Names2Prog
import Derived.Test.YtnhhopmldgpglaaGreatDoorProg
set_option linter.unusedSimpArgs false
set_option linter.unusedVariables false
set_option maxRecDepth 10000
set_option maxHeartbeats 4000000
section
namespace Go.Bi
open Go Go.Proofs Go.Sort Go.Shelf
section
variable {P:Program}{M:C4}{G:Gh}{os:List AO}{w w':World}
theorem OR.live_lt(he:C1 M G os w){id:Nat}{o:AO}(ho:os[id]?=some o)(hl:o.live=true):G.blk id<w.heap.size:=he.lt ⟨o,ho,hl⟩
theorem A6e(hsys:w'.os=w.os)(htape:w'.tape=w.tape)(hout:w'.output=w.output)(hsz:w.heap.size<=w'.heap.size)(hh:∀b,b<w.heap.size->w'.heap[b]?=w.heap[b]?):D9 M G os w M G os w' where
 sys:=hsys
 tape:=htape
 output:=hout
 size:=hsz
 frame:=λb hb _=>hh b hb
 grow:=λ_ _ h=>h
 fresh:=λ_ _ h=>.inl h
 own:=λi h=>.inr ⟨i,h,rfl⟩
 keep:=λi o h=>(D9.refl M G os w).keep i o h
theorem A9C(he:C1 M G os w)(hsys:w'.os=w.os)(htape:w'.tape=w.tape)(hout:w'.output=w.output)(hsz:w.heap.size<=w'.heap.size)(hh:∀b,b<w.heap.size->w'.heap[b]?=w.heap[b]?):C1 M G os w' where
 mem:=λa v h=>by
  have h1:=he.mem a v h
  have hlt:a.block<w.heap.size:=by
   unfold World.cell? at h1
   cases hb:w.heap[a.block]? with
   |none=>rw[hb] at h1;cases h1
   |some o=>exact(r9.1 hb).1
  rw[World.cell?_of_block (w:=w) (hh _ hlt)]
  exact h1
 obj:=λi x hx=>by
  have hold:=he.obj i x hx
  by_cases hlv:x.live=true
  ·exact OR.since (A6e hsys htape hout hsz hh) hold rfl rfl (hh _ (OR.live_lt he hx hlv)) (λ_ _=>rfl)
  ·cases x with
   |cells cs=>exact absurd rfl hlv
   |iter s p=>exact absurd rfl hlv
   |hole=>trivial
   |map kvs=>exact absurd rfl hlv
   |mit m n s=>exact absurd rfl hlv
   |arr es sz frz nl=>
    cases nl with
    |false=>exact absurd rfl hlv
    |true=>exact⟨hold.1,hold.2.1,hold.2.2.1,hold.2.2.2.1,λh=>by cases h⟩
   |rarr es sz nl=>
    cases nl with
    |false=>exact absurd rfl hlv
    |true=>exact⟨hold.1,hold.2.1,hold.2.2.1,λh=>by cases h⟩
 inj:=he.inj
 sep:=he.sep
 glb:=A0N (A6e (M:=M) (G:=G) (os:=os) hsys htape hout hsz hh) he.glb
def ints(zs:List Int):List (List D):=zs.map λz=>[.int .i64 z]
theorem A2p(zs:List Int):(ints zs).length=zs.length:=by simp[ints]
theorem C9D(zs:List Int):∀e∈ints zs,e.length=1:=by
 intro e he
 obtain⟨z,_,rfl⟩:=E6.1 he
 rfl
theorem B7s(blk:Nat)(f:Array Value->Array Value)(b:Nat)(h:b≠blk):(mapBlock w blk f).heap[b]?=w.heap[b]?:=by
 unfold mapBlock
 simp only[A4v]
 rw[if_neg (Ne.symm h)]
theorem B8s(he:C1 M G os w){id:Nat}{zs ys:List Int}(ho:os[id]?=some (.arr (ints zs) 1 0 false))(hlen:ys.length=zs.length)(n:Nat) :
  C1 M G (os.set id (.arr (ints ys) 1 0 false)) (putRow (Value.int .i64) (Sort.ahead w n) (G.blk id) 0 ys.toArray)/\D9 M G os w M G (os.set id (.arr (ints ys) 1 0 false)) (putRow (Value.int .i64) (Sort.ahead w n) (G.blk id) 0 ys.toArray):=by
 obtain⟨h1,h2,h3,h4,h5⟩:=he.obj id _ ho
 obtain⟨ca,t,h6,h7,h8,h9,h10,h11⟩:=h5 rfl
 have hlt:=(B2.1 ho).1
 have hno:∀a v,M a=some v->a.block=G.blk id->False:=λa v ha hb=>by
  obtain⟨es',sz',frz',nl',h12,h13⟩:=he.sep id a v (E5.arr ho) ha hb
  rw[ho] at h12
  cases h12
  omega
 have hk:L9 G G id (os.set id (.arr (ints ys) 1 0 false)) (.arr (ints zs) 1 0 false):=⟨ints ys,0,false,by simp[hlt],by rw[A2p,A2p];omega,λ_=>⟨rfl,rfl,rfl⟩⟩
 have hoth:∀b,b≠G.blk id->(putRow (Value.int .i64) (Sort.ahead w n) (G.blk id) 0 ys.toArray).heap[b]?=w.heap[b]?:=λb hb=>B7s _ _ b hb
 have hs:=l9 he (w':=putRow (Value.int .i64) (Sort.ahead w n) (G.blk id) 0 ys.toArray) (M':=M) ho rfl rfl rfl rfl (by simp) hoth (λ_ _ h=>h) (λ_ _ h=>.inl h) hk
 refine⟨u5 he ho rfl rfl rfl rfl (by simp) hoth (λ_ _ h=>h) (λ_ _ h=>.inl h) hk (λ_ _=>rfl) (λa v ha hb=>(hno a v ha hb).elim) (λa v ha hb=>(hno a v ha hb).elim) ?_,hs⟩
 rw[A2p] at h8
 refine⟨h1,C9D ys,S8 _,λh=>(by cases h),λ_=>⟨putCells (Value.int .i64) 0 ys.toArray ca,t,?_,?_,?_,h9,λi j e x hi hj=>?_,λo ho=>(by omega)⟩⟩
 ·show(mapBlock (Sort.ahead w n) (G.blk id) _).heap[G.blk id]?=_
  unfold mapBlock
  simp only[A4v,if_true]
  show Option.map _ w.heap[G.blk id]?=_
  rw[h6];rfl
 ·unfold putCells
  rw[Array.size_mapIdx,h7]
 ·rw[A2p];omega
 ·obtain⟨z,hz,rfl⟩:∃z,ys[i]?=some z/\e=[.int .i64 z]:=by
   unfold ints at hi
   rw[F4] at hi
   cases hy:ys[i]? with
   |none=>rw[hy] at hi;cases hi
   |some z=>rw[hy] at hi;cases hi;exact⟨z,rfl,rfl⟩
  have hil:=(B2.1 hz).1
  cases j with
  |succ j=>cases hj
  |zero=>
   cases hj
   refine⟨.int .i64 z,?_,.int _ _⟩
   unfold putCells
   have hic:i*1+0<ca.size:=by rw[h7];omega
   rw[Array.getElem?_mapIdx,J1 hic,A02,if_pos (by simp;omega)]
   have:ys.toArray[i*1+0-0]! = z:=by
    have e:i*1+0-0=i:=by omega
    rw[e,getElem!_pos _ i (by simpa using hil)]
    simpa using(B2.1 hz).2
   rw[this]
theorem B8t(he:C1 M G os w){id:Nat}{zs:List Int}(ho:os[id]?=some (.arr (ints zs) 1 0 false)):Holds (Value.int .i64) w (G.blk id) 0 zs.toArray:=by
 obtain⟨h1,h2,h3,h4,h5⟩:=he.obj id _ ho
 obtain⟨ca,t,h6,h7,h8,h9,h10,h11⟩:=h5 rfl
 intro j hj
 have hj':j<zs.length:=by simpa using hj
 have hz:(ints zs)[j]?=some [.int .i64 zs[j]]:=by unfold ints;rw[F4,C5 hj'];rfl
 obtain⟨u,hu,hr⟩:=h10 j 0 _ _ hz rfl
 cases hr
 rw[Nat.mul_one,A1G] at hu
 refine⟨?_,?_⟩
 ·have:zs.toArray[j]! = zs[j]:=by rw[getElem!_pos _ j hj];simp
  rw[this,s7]
  unfold World.cell?
  rw[h6]
  simpa using hu
 ·unfold World.frozen?
  rw[h6]
  simp
theorem B6V(he:C1 M G os w){id m:Nat}{es:List (List D)}{sz:Nat}(ho:os[id]?=some (.arr es sz 0 false))(hm:m<=es.length) :
  C1 (C4.with M w (G.blk id) (m*sz)) G (os.set id (.arr es sz m false)) w/\
  D9 M G os w (C4.with M w (G.blk id) (m*sz)) G (os.set id (.arr es sz m false)) w/\
  Rd (C4.with M w (G.blk id) (m*sz)) (.sl (es.take m)) (.slice (some ⟨G.blk id,0,none⟩) m (G.cap id)):=by
 obtain⟨h1,h2,h3,h4,h5⟩:=he.obj id _ ho
 obtain⟨ca,t,h6,h7,h8,h9,h10,h11⟩:=h5 rfl
 have hlt:=(B2.1 ho).1
 have hgrow:∀x v,M x=some v->C4.with M w (G.blk id) (m*sz) x=some v:=λx v hx=>by
  unfold C4.with
  split
  ·exact he.mem x v hx
  ·exact hx
 have hnew:∀x v,C4.with M w (G.blk id) (m*sz) x=some v->M x=some v\/x.block=G.blk id:=λx v hx=>by
  unfold C4.with at hx
  split at hx
  ·rename_i hc;exact .inr hc.1
  ·exact .inl hx
 have hk:L9 G G id (os.set id (.arr es sz m false)) (.arr es sz 0 false):=⟨es,m,false,by simp[hlt],I4 _,λ_=>⟨rfl,rfl,rfl⟩⟩
 have hs:=l9 he (w':=w) ho rfl rfl rfl rfl rfl (λ_ _=>rfl) hgrow hnew hk
 have hcl:∀o,o<m*sz->C4.with M w (G.blk id) (m*sz) ⟨G.blk id,o,none⟩=ca[o]?:=λo ho=>by
  unfold C4.with
  rw[if_pos ⟨rfl,rfl,ho⟩]
  simp[World.cell?,h6]
 refine⟨u5 he ho rfl rfl rfl rfl rfl (λ_ _=>rfl) hgrow hnew hk (λx hx=>?_) (λx v hx hb=>?_) (λx v hx hb=>?_) ?_,hs,?_⟩
 ·unfold C4.with
  rw[if_neg (λhc=>hx hc.1)]
 ·unfold C4.with at hx
  split at hx
  ·exact hx
  ·exact he.mem x v hx
 ·refine⟨_,_,_,_,rfl,?_⟩
  unfold C4.with at hx
  split at hx
  ·rename_i hc;exact hc.2.2
  ·obtain⟨es',sz',frz',nl',h12,h13⟩:=he.sep id x v (E5.arr ho) hx hb
   rw[ho] at h12
   cases h12
   omega
 ·refine⟨h1,h2,hm,λh=>(by cases h),λ_=>⟨ca,t,h6,h7,h8,h9,λi j e x hi hj=>?_,hcl⟩⟩
  obtain⟨u,hu,hr⟩:=h10 i j e x hi hj
  exact⟨u,hu,hr.mono hgrow⟩
 ·have hlen:(es.take m).length=m:=by rw[P8];omega
  have key:Rd (C4.with M w (G.blk id) (m*sz)) (.sl (es.take m)) (.slice (some ⟨G.blk id,0,none⟩) (es.take m).length (G.cap id)):=by
   refine Rd.sl (es.take m) (G.blk id) 0 (G.cap id) sz (λi j=>(ca[i*sz+j]?).getD undef) (by omega) (λe hx=>h2 e (A27 hx)) (λi j hi hj=>?_) (λi j e d hi hj=>?_)
   ·rw[hlen] at hi
    rw[s7,hcl _ (W8 hi hj)]
    have hsz:i*sz+j<ca.size:=by
     rw[h7]
     exact A29 (W8 hi hj) (X6 _ (by omega))
    simp[hsz]
   ·have hil:=(B2.1 hi).1
    rw[Z2,if_pos (by omega)] at hi
    obtain⟨u,hu,hr⟩:=h10 i j e d hi hj
    simp only[hu,j0]
    exact hr.mono hgrow
  rwa [hlen] at key
theorem D25{ρ:Ren}(L:Lays.n189 P ρ)(he:Enters P (ρ.f 189))(zs:List Int)(nl:Bool)(hz:zs.length<4611686018427387904) :
  B4 P (ρ.f 189) [.arr 0 (ints zs).length] [.arr (ints zs) 1 0 nl] (λr os'=>r=.tup []/\os'=[.arr (ints (zs.mergeSort λx y=>decide (x<=y))) 1 0 nl]):=by
 refine⟨he,λM G w vs hE hl hv=>?_⟩
 obtain⟨v,rfl⟩:∃v,vs=#[v]:=by
  obtain⟨l⟩:=vs
  match l,hl with
  |[x],_=>exact⟨x,rfl⟩
 have hval:=hv 0 _ v rfl rfl
 obtain⟨h0,es,sz,frz,nl',h1,h2,h3⟩:=hval
 cases h1
 have hv:=h3 rfl
 subst hv
 unfold Gh.slv
 cases nl with
 |true=>
  have hnil:ints zs=[]:=(hE.obj 0 _ rfl).2.2.2.1 rfl
  have hzs:zs=[]:=by unfold ints at hnil;simpa using hnil
  subst hzs
  rw[if_pos rfl]
  refine(Any.slices_Sort_int_none L none 0 w).mono ?_
  rintro e w' ⟨rfl,rfl⟩
  exact⟨_,rfl,M,G,.tup [],_,hE,D9.refl ..,⟨#[],rfl,rfl,by simp⟩,rfl,by simp⟩
 |false=>
  rw[if_neg (by decide),A2p]
  have hlt:=OR.live_lt hE (id:=0) rfl rfl
  refine(Any.slices_Sort_int L (G.blk 0) 0 (G.cap 0) zs w (B8t hE (id:=0) rfl) hlt hz).mono ?_
  rintro e w' ⟨rfl,n,xs,rfl⟩
  obtain⟨e1,s1⟩:=B8s hE (id:=0) (ys:=zs.mergeSort λx y=>decide (x<=y)) rfl (by simp) n
  have hh:∀b,b<(putRow (Value.int .i64) (Sort.ahead w n) (G.blk 0) 0 (zs.mergeSort λx y=>decide (x<=y)).toArray).heap.size->(grow (putRow (Value.int .i64) (Sort.ahead w n) (G.blk 0) 0 (zs.mergeSort λx y=>decide (x<=y)).toArray) xs).heap[b]?=(putRow (Value.int .i64) (Sort.ahead w n) (G.blk 0) 0 (zs.mergeSort λx y=>decide (x<=y)).toArray).heap[b]?:=λb hb=>by
   unfold grow
   exact A1B hb
  refine⟨_,rfl,M,G,.tup [],_,A9C e1 rfl rfl rfl (by simp[grow]) hh,s1.trans (A6e rfl rfl rfl (by simp[grow]) hh),⟨#[],rfl,rfl,by simp⟩,rfl,rfl⟩
theorem B5Y(zs:List Int):(Lib.compact zs).length<=zs.length:=by
 unfold Lib.compact Lib.compactUpTo
 rw[C7]
 exact P3 (A26 _ _) (by simp)
theorem C8h{ρ:Ren}(L:Lays2.n20 P ρ)(he:Enters P (ρ.f 20))(zs:List Int)(nl:Bool)(hz:zs.length<=9223372036854775807) :
  B4 P (ρ.f 20) [.arr 0 (ints zs).length] [.arr (ints zs) 1 0 nl] (λr os'=>r=.d (if nl then .nil else .sl (ints (Lib.compact zs)))/\os'=[.arr (ints (Lib.compact zs++List.replicate (zs.length-(Lib.compact zs).length) 0)) 1 (if nl then 0 else (Lib.compact zs).length) nl]):=by
 refine⟨he,λM G w vs hE hl hv=>?_⟩
 obtain⟨v,rfl⟩:∃v,vs=#[v]:=by
  obtain⟨l⟩:=vs
  match l,hl with
  |[x],_=>exact⟨x,rfl⟩
 have hval:=hv 0 _ v rfl rfl
 obtain⟨h0,es,sz,frz,nl',h1,h2,h3⟩:=hval
 cases h1
 have hv:=h3 rfl
 subst hv
 unfold Gh.slv
 cases nl with
 |true=>
  have hnil:ints zs=[]:=(hE.obj 0 _ rfl).2.2.2.1 rfl
  have hzs:zs=[]:=by unfold ints at hnil;simpa using hnil
  subst hzs
  rw[if_pos rfl]
  refine(Any.slices_Compact_int_empty L none 0 w).mono ?_
  rintro e w' ⟨rfl,rfl⟩
  exact⟨_,rfl,M,G,.d .nil,_,hE,D9.refl ..,Rd.nil,rfl,rfl⟩
 |false=>
  rw[if_neg (by decide),A2p]
  obtain⟨h1,h2,h3,h4,h5⟩:=hE.obj 0 _ rfl
  obtain⟨ca,t,h6,h7,h8,h9,h10,h11⟩:=h5 rfl
  rw[A2p] at h8
  refine(Any.slices_Compact_int L (G.blk 0) 0 (G.cap 0) zs w (B8t hE (id:=0) rfl) hz h8).mono ?_
  rintro e w' ⟨rfl,n,rfl⟩
  have hcl:=B5Y zs
  have hlen:(Lib.compact zs++List.replicate (zs.length-(Lib.compact zs).length) 0).length=zs.length:=by simp;omega
  obtain⟨e1,s1⟩:=B8s hE (id:=0) (ys:=Lib.compact zs++List.replicate (zs.length-(Lib.compact zs).length) 0) rfl hlen n
  obtain⟨e2,s2,r2⟩:=B6V e1 (id:=0) (m:=(Lib.compact zs).length) rfl (by rw[A2p,hlen];exact hcl)
  refine⟨_,rfl,_,G,.d (.sl (ints (Lib.compact zs))),_,e2,s1.trans s2,?_,rfl,rfl⟩
  have ht:(ints (Lib.compact zs++List.replicate (zs.length-(Lib.compact zs).length) 0)).take (Lib.compact zs).length=ints (Lib.compact zs):=by
   unfold ints
   rw[<- List.map_take,List.take_left]
  rw[ht] at r2
  exact r2
end
theorem D2H{n nb:Nat}{ρ:C6}{os:List AO}(t:Nat){id len sz frz:Nat}{nl:Bool}{es:List (List D)}(ht:ρ t=.arr id len)(ho:os[id]?=some (.arr es sz frz nl))(hl:len=es.length) :
  j7 n nb ρ os (upd t (.d (if nl then .nil else .sl es)) ρ) (os.set id (.arr es sz es.length nl)):=by
 intro c M G w a hR
 have hv:=hR.tmps t
 rw[ht] at hv
 obtain⟨M1,h1,h2,h3⟩:=A5A hR.env (c:=.arr id len) (x:=if nl then .nil else .sl es) (os1:=os.set id (.arr es sz es.length nl)) (by unfold A0K;dsimp only;rw[ho];dsimp only;rw[if_pos hl]) hv
 exact⟨M1,G,{
  env:=h1,since:=hR.since.trans h2,size:=hR.size,defers:=hR.defers,base:=hR.base
  tmps:=λs=>by
   have hs:=(hR.tmps s).since h2
   unfold upd
   split
   ·rename_i h
    subst h
    exact h3
   ·exact hs}⟩
theorem A6m{P:Program}{n nb:Nat}{cd:IC}{N:Sl->List AO->Prop}{E0:Nat->Sl->List AO->Prop}{R:Sl->List AO->Prop}{L:Sl}{os:List AO}(t:Nat){id len sz frz:Nat}{nl:Bool}{es:List (List D)}(ht:D2 L t=.arr id len)(ho:os[id]?=some (.arr es sz frz nl))(hl:len=es.length)
  (k:Go (s6 P n nb cd N E0 R ((t,.d (if nl then .nil else .sl es))::L) (os.set id (.arr es sz es.length nl)))):s6 P n nb cd N E0 R L os:=by
 have hw:=D2H (n:=n) (nb:=nb) (ρ:=D2 L) (os:=os) t ht ho hl
 rw[B0e] at hw
 refine⟨λcode hc c M G w a hR=>?_⟩
 obtain⟨M',G',hR'⟩:=hw c M G w a hR
 exact k.h code hc c M' G' w a hR'
end Go.Bi
end
section
namespace Go.Proofs
open Go.Shelf
def Tryz.lays189_ren:Go.Shelf.Ren:=⟨fun|189=>176|125=>133|257=>204|128=>170|129=>171|294=>221|295=>222|296=>223|297=>224|298=>225|299=>226|216=>227|300=>228|301=>229|328=>240|329=>199|330=>200|331=>241|332=>242|215=>243|343=>248|n=>n,fun|28=>23|3=>3|46=>147|0=>0|51=>177|53=>179|4=>4|183=>171|182=>170|131=>151|5=>5|9=>9|218=>205|222=>209|228=>220|229=>148|n=>n,fun|n=>n⟩
theorem Tryz.lays189:Go.Proofs.Lays.n189 Tryz.prog Tryz.lays189_ren:={
 mixed:=by kernel_rfl
 f125:=Tryz.func133.trans (congrArg some (by kernel_rfl))
 f128:=Tryz.func170.trans (congrArg some (by kernel_rfl))
 f129:=Tryz.func171.trans (congrArg some (by kernel_rfl))
 f189:=Tryz.func176.trans (congrArg some (by kernel_rfl))
 f215:=Tryz.func243.trans (congrArg some (by kernel_rfl))
 f216:=Tryz.func227.trans (congrArg some (by kernel_rfl))
 f257:=Tryz.func204.trans (congrArg some (by kernel_rfl))
 f294:=Tryz.func221.trans (congrArg some (by kernel_rfl))
 f295:=Tryz.func222.trans (congrArg some (by kernel_rfl))
 f296:=Tryz.func223.trans (congrArg some (by kernel_rfl))
 f297:=Tryz.func224.trans (congrArg some (by kernel_rfl))
 f298:=Tryz.func225.trans (congrArg some (by kernel_rfl))
 f299:=Tryz.func226.trans (congrArg some (by kernel_rfl))
 f300:=Tryz.func228.trans (congrArg some (by kernel_rfl))
 f301:=Tryz.func229.trans (congrArg some (by kernel_rfl))
 f328:=Tryz.func240.trans (congrArg some (by kernel_rfl))
 f329:=Tryz.func199.trans (congrArg some (by kernel_rfl))
 f330:=Tryz.func200.trans (congrArg some (by kernel_rfl))
 f331:=Tryz.func241.trans (congrArg some (by kernel_rfl))
 f332:=Tryz.func242.trans (congrArg some (by kernel_rfl))
 f343:=Tryz.func248.trans (congrArg some (by kernel_rfl))
 t0:=Tryz.underlying0
 a0:=Tryz.isAgg0
 z0:=Tryz.sizeOf0
 v0:=Tryz.zeroValue0
 t3:=Tryz.underlying3
 a3:=Tryz.isAgg3
 z3:=Tryz.sizeOf3
 v3:=Tryz.zeroValue3
 t4:=Tryz.underlying4
 a4:=Tryz.isAgg4
 z4:=Tryz.sizeOf4
 v4:=Tryz.zeroValue4
 t5:=Tryz.underlying5
 a5:=Tryz.isAgg5
 z5:=Tryz.sizeOf5
 v5:=Tryz.zeroValue5
 t9:=Tryz.underlying9
 a9:=Tryz.isAgg9
 z9:=Tryz.sizeOf9
 v9:=Tryz.zeroValue9
 t28:=Tryz.underlying23
 a28:=Tryz.isAgg23
 z28:=Tryz.sizeOf23
 v28:=Tryz.zeroValue23
 t46:=Tryz.underlying147
 a46:=Tryz.isAgg147
 z46:=Tryz.sizeOf147
 v46:=Tryz.zeroValue147
 t51:=Tryz.underlying177
 a51:=Tryz.isAgg177
 z51:=Tryz.sizeOf177
 v51:=Tryz.zeroValue177
 t53:=Tryz.underlying179
 a53:=Tryz.isAgg179
 z53:=Tryz.sizeOf179
 v53:=Tryz.zeroValue179
 t131:=Tryz.underlying151
 a131:=Tryz.isAgg151
 z131:=Tryz.sizeOf151
 v131:=Tryz.zeroValue151
 t182:=Tryz.underlying170
 a182:=Tryz.isAgg170
 z182:=Tryz.sizeOf170
 v182:=Tryz.zeroValue170
 t183:=Tryz.underlying171
 a183:=Tryz.isAgg171
 z183:=Tryz.sizeOf171
 v183:=Tryz.zeroValue171
 t218:=Tryz.underlying205
 a218:=Tryz.isAgg205
 z218:=Tryz.sizeOf205
 v218:=Tryz.zeroValue205
 t222:=Tryz.underlying209
 a222:=Tryz.isAgg209
 z222:=Tryz.sizeOf209
 v222:=Tryz.zeroValue209
 t228:=Tryz.underlying220
 a228:=Tryz.isAgg220
 z228:=Tryz.sizeOf220
 v228:=Tryz.zeroValue220
 t229:=Tryz.underlying148
 a229:=Tryz.isAgg148
 z229:=Tryz.sizeOf148
 v229:=Tryz.zeroValue148}
def Tryz.lays190_ren:Go.Shelf.Ren:=⟨fun|190=>96|125=>133|258=>132|128=>170|129=>171|302=>161|303=>162|304=>163|305=>164|306=>165|307=>166|308=>167|309=>168|310=>169|333=>198|329=>199|330=>200|334=>201|335=>202|336=>203|344=>220|n=>n,fun|31=>90|9=>9|3=>3|46=>147|0=>0|51=>177|53=>179|4=>4|183=>171|182=>170|131=>151|5=>5|218=>205|222=>209|228=>220|229=>148|n=>n,fun|n=>n⟩
theorem Tryz.lays190:Go.Proofs.Lays.n190 Tryz.prog Tryz.lays190_ren:={
 mixed:=by kernel_rfl
 f125:=Tryz.func133.trans (congrArg some (by kernel_rfl))
 f128:=Tryz.func170.trans (congrArg some (by kernel_rfl))
 f129:=Tryz.func171.trans (congrArg some (by kernel_rfl))
 f190:=Tryz.func96.trans (congrArg some (by kernel_rfl))
 f258:=Tryz.func132.trans (congrArg some (by kernel_rfl))
 f302:=Tryz.func161.trans (congrArg some (by kernel_rfl))
 f303:=Tryz.func162.trans (congrArg some (by kernel_rfl))
 f304:=Tryz.func163.trans (congrArg some (by kernel_rfl))
 f305:=Tryz.func164.trans (congrArg some (by kernel_rfl))
 f306:=Tryz.func165.trans (congrArg some (by kernel_rfl))
 f307:=Tryz.func166.trans (congrArg some (by kernel_rfl))
 f308:=Tryz.func167.trans (congrArg some (by kernel_rfl))
 f309:=Tryz.func168.trans (congrArg some (by kernel_rfl))
 f310:=Tryz.func169.trans (congrArg some (by kernel_rfl))
 f329:=Tryz.func199.trans (congrArg some (by kernel_rfl))
 f330:=Tryz.func200.trans (congrArg some (by kernel_rfl))
 f333:=Tryz.func198.trans (congrArg some (by kernel_rfl))
 f334:=Tryz.func201.trans (congrArg some (by kernel_rfl))
 f335:=Tryz.func202.trans (congrArg some (by kernel_rfl))
 f336:=Tryz.func203.trans (congrArg some (by kernel_rfl))
 f344:=Tryz.func220.trans (congrArg some (by kernel_rfl))
 t0:=Tryz.underlying0
 a0:=Tryz.isAgg0
 z0:=Tryz.sizeOf0
 v0:=Tryz.zeroValue0
 t3:=Tryz.underlying3
 a3:=Tryz.isAgg3
 z3:=Tryz.sizeOf3
 v3:=Tryz.zeroValue3
 t4:=Tryz.underlying4
 a4:=Tryz.isAgg4
 z4:=Tryz.sizeOf4
 v4:=Tryz.zeroValue4
 t5:=Tryz.underlying5
 a5:=Tryz.isAgg5
 z5:=Tryz.sizeOf5
 v5:=Tryz.zeroValue5
 t9:=Tryz.underlying9
 a9:=Tryz.isAgg9
 z9:=Tryz.sizeOf9
 v9:=Tryz.zeroValue9
 t31:=Tryz.underlying90
 a31:=Tryz.isAgg90
 z31:=Tryz.sizeOf90
 v31:=Tryz.zeroValue90
 t46:=Tryz.underlying147
 a46:=Tryz.isAgg147
 z46:=Tryz.sizeOf147
 v46:=Tryz.zeroValue147
 t51:=Tryz.underlying177
 a51:=Tryz.isAgg177
 z51:=Tryz.sizeOf177
 v51:=Tryz.zeroValue177
 t53:=Tryz.underlying179
 a53:=Tryz.isAgg179
 z53:=Tryz.sizeOf179
 v53:=Tryz.zeroValue179
 t131:=Tryz.underlying151
 a131:=Tryz.isAgg151
 z131:=Tryz.sizeOf151
 v131:=Tryz.zeroValue151
 t182:=Tryz.underlying170
 a182:=Tryz.isAgg170
 z182:=Tryz.sizeOf170
 v182:=Tryz.zeroValue170
 t183:=Tryz.underlying171
 a183:=Tryz.isAgg171
 z183:=Tryz.sizeOf171
 v183:=Tryz.zeroValue171
 t218:=Tryz.underlying205
 a218:=Tryz.isAgg205
 z218:=Tryz.sizeOf205
 v218:=Tryz.zeroValue205
 t222:=Tryz.underlying209
 a222:=Tryz.isAgg209
 z222:=Tryz.sizeOf209
 v222:=Tryz.zeroValue209
 t228:=Tryz.underlying220
 a228:=Tryz.isAgg220
 z228:=Tryz.sizeOf220
 v228:=Tryz.zeroValue220
 t229:=Tryz.underlying148
 a229:=Tryz.isAgg148
 z229:=Tryz.sizeOf148
 v229:=Tryz.zeroValue148}
def Tryz.laysNm220_ren:Go.Shelf.Ren:=⟨fun|20=>177|n=>n,fun|22=>23|3=>3|4=>4|0=>0|n=>n,fun|n=>n⟩
theorem Tryz.laysNm220:Go.Proofs.Lays2.n20 Tryz.prog Tryz.laysNm220_ren:={
 mixed:=by kernel_rfl
 f20:=Tryz.func177.trans (congrArg some (by kernel_rfl))
 t0:=Tryz.underlying0
 a0:=Tryz.isAgg0
 z0:=Tryz.sizeOf0
 v0:=Tryz.zeroValue0
 t3:=Tryz.underlying3
 a3:=Tryz.isAgg3
 z3:=Tryz.sizeOf3
 v3:=Tryz.zeroValue3
 t4:=Tryz.underlying4
 a4:=Tryz.isAgg4
 z4:=Tryz.sizeOf4
 v4:=Tryz.zeroValue4
 t22:=Tryz.underlying23
 a22:=Tryz.isAgg23
 z22:=Tryz.sizeOf23
 v22:=Tryz.zeroValue23
 i3:=by kernel_rfl}
end Go.Proofs
end
section
namespace Go.Bi
end Go.Bi
namespace Go.Proofs
open Go.Bi
theorem B7p(f:Nat->Nat)(ds:List D):mG f (.agg (ds.map .d))=.agg (ds.map .d):=by
 simp only[mG,V4]
 congr 1
theorem A7v(f:Nat->Nat)(ds:List D):mA f (.agg (ds.map .d))=.agg (ds.map .d):=by
 simp only[mA,mG,V4]
 congr 1
theorem A9e(ds:List D)(n:Nat):(AV.agg (ds.map .d)).bnd2 n:=by
 intro c hc
 obtain⟨x,_,rfl⟩:=E6.1 hc
 trivial
theorem B7j{g:FuncId}(a:AV){x y:D}{r:AV}(ds:List D)(h:B4 Tryz.prog g [.agg (ds.map .d),a] [.cells [.d x]] (λr' os'=>r'=r/\os'=[.cells [.d y]]))(a':Nat->AV)(ha:∀id n,mG (rn [id] n) a=a' id)(hba:a.bnd2 1)(hr:∀f,mA f r=r){os:List AO}{id:Nat}(ho:os[id]?=some (.cells [.d x])) :
  B4 Tryz.prog g [.agg (ds.map .d),a' id] os (λr' os'=>r'=r/\os'=os.set id (.cells [.d y])):=by
 have:=B4.frame (K:=λr' os'=>r'=r/\os'=os.set id (.cells [.d y])) h [id] os rfl (by simp) (λi o hx=>?_) (λz hz=>?_) (λo hx=>?_) ?_
 ·rw[R6,R6,List.map_nil,B7p,ha] at this;exact this
 ·cases i with
  |zero=>simp at hx;subst hx;exact ho
  |succ i=>simp at hx
 ·simp only[L4,m8,or_false] at hz
  rcases hz with rfl|rfl
  ·exact A9e _ _
  ·exact hba
 ·cases Z3.1 hx
  simp[AO.bnd,AV.bnd1]
 ·rintro _ _ ⟨rfl,rfl⟩
  refine⟨hr _,?_⟩
  simp[T6,mO,mC]
theorem D05{g:FuncId}{x y:D}{r:AV}{ds:List D}(h:B4 Tryz.prog g [.agg (ds.map .d),.ptr 0 0] [.cells [.d x]] (λr' os'=>r'=r/\os'=[.cells [.d y]]))(hr:∀f,mA f r=r){os:List AO}{id:Nat}(ho:os[id]?=some (.cells [.d x])) :
  B4 Tryz.prog g [.agg (ds.map .d),.ptr id 0] os (λr' os'=>r'=r/\os'=os.set id (.cells [.d y])):=
 B7j _ _ h (λid=>.ptr id 0) (λid n=>rfl) (by simp[AV.bnd2,AV.bnd1]) hr ho
theorem B02{g f:FuncId}{x y:D}{r:AV}{ds:List D}(h:B4 Tryz.prog g [.agg (ds.map .d),.clo f [0]] [.cells [.d x]] (λr' os'=>r'=r/\os'=[.cells [.d y]]))(hr:∀f,mA f r=r){os:List AO}{id:Nat}(ho:os[id]?=some (.cells [.d x])) :
  B4 Tryz.prog g [.agg (ds.map .d),.clo f [id]] os (λr' os'=>r'=r/\os'=os.set id (.cells [.d y])):=
 B7j _ _ h (λid=>.clo f [id]) (λid n=>rfl) (by simp[AV.bnd2,AV.bnd1]) hr ho
mutual
def O3(φ:Ex->Ex):Ex->Ex
 |.mk op n v nm nl args=>if op=2 then φ (.mk op n v nm true (A49 φ args)) else .mk op n v nm true (A49 φ args)
def A49(φ:Ex->Ex):List Ex->List Ex
 |[]=>[]
 |a::l=>O3 φ a::A49 φ l
end
theorem B7u(φ:Ex->Ex):∀l,A49 φ l=l.map (O3 φ)
 |[]=>by simp[A49]
 |a::l=>by simp[A49,B7u φ l]
theorem A48(φ:Ex->Ex)(op n:Int)(v:Vl)(nm:List UInt8)(nl:Bool)(args:List Ex):O3 φ (.mk op n v nm nl args)=if op=2 then φ (.mk op n v nm true (args.map (O3 φ))) else .mk op n v nm true (args.map (O3 φ)):=by
 rw[O3,B7u]
def Mt(φ:Ex->Ex)(l:List Ex)(i:Nat):List (List D):=xL ((l.take i).map φ)
theorem A2P(φ:Ex->Ex)(l:List Ex)(i:Nat)(h:i<=l.length):(Mt φ l i).length=i:=by
 unfold Mt
 rw[I8,C7,P8]
 omega
theorem A2Q(φ:Ex->Ex)(l:List Ex)(i:Nat):∀e∈Mt φ l i,e.length=7:=P0 _
theorem A2R{φ:Ex->Ex}{l:List Ex}{i:Nat}{c:Ex}(h:l[i]?=some c):Mt φ l i++[(φ c).ds]=Mt φ l (i+1):=by
 unfold Mt
 rw[S0,h]
 simp[xL]
theorem A2O{φ:Ex->Ex}{l:List Ex}{i:Nat}(h:l.length<=i):Mt φ l i=xL (l.map φ):=by
 unfold Mt
 rw[P2 h]
theorem B7K(l:List (List D)):ng true l=if l.isEmpty then .nil else .sl l:=by unfold ng;rw[s0]
theorem B17(g:FuncId)(y:D)(φ:Ex->Ex)(hg:∀x:Ex,B4 Tryz.prog g [x.av,.ptr 0 0] [.cells [.d y]] (λr os=>r=(φ x).av/\os=[.cells [.d y]])):∀e:Ex,e.bk<=1048576->B4 Tryz.prog A2S [e.av,.clo g [0]] [.cells [.d y]] (λr os=>r=(O3 φ e).av/\os=[.cells [.d y]]):=by
 refine Ex.ind λop n v nm nl args ih hb=>?_
 obtain⟨b1,b2,b3,b4⟩:=Ex.bk_bounds hb
 obtain⟨Z,hZ⟩:∃Z,Z=(O3 φ (.mk op n v nm nl args)).av:=⟨_,rfl⟩
 rw[<- hZ]
 rw[A48] at hZ
 rw[Ex.av_mk]
 refine B1C.goX A6 rfl ?_
 have h1:=I8 args
 have hm:=P0 args
 obtain⟨da,hda⟩:∃d,d=ng nl (xL args):=⟨_,rfl⟩
 have hsd:B8 da (xL args):=by rw[hda];exact v7
 rw[<- hda]
 have r0:v.k=v.k:=rfl
 have r1:v.s=v.s:=rfl
 have r2:nm=nm:=rfl
 repeat' first|refine st ?_|(with_reducible first|apply A5|apply A4)<;>intro _
 refine r8 5 7 rfl rfl ?_
 repeat' first|refine st ?_|(with_reducible first|apply A5|apply A4)<;>intro _
 refine P5 A6 B3S B3M (λ(i:Nat) (w:List (List D)×Bool)=>[.arr 3 w.1.length,.d (eI i)]) (λi w=>[.cells [.d y],.cells [.d (eI op),.d (eI n),.d (eI v.k),.d (eI v.n),.d (.str v.s),.d (.str nm),.d da],.cells [.d (eI 0),.d (eI 0),.d (eI 0),.d (eI 0),.d (.str []),.d (.str []),.d .nil],.arr w.1 7 0 w.2]) (λi w=>i<=args.length/\w.1=Mt (O3 φ) args i/\w.2=w.1.isEmpty) (λi _=>args.length-i) 0 ([],true) rfl rfl rfl rfl (λ_ _ _=>⟨rfl,rfl⟩) rfl ⟨by omega,rfl,rfl⟩ ?_
 repeat' first|refine st ?_|(with_reducible first|apply A5|apply A4)<;>intro _
 intro i w ⟨h4,h5,h6⟩
 obtain⟨A,b⟩:=w
 dsimp only at h5 h6 ⊢
 have hAl:A.length=i:=by rw[h5];exact A2P _ args i (by omega)
 have hAm:∀e∈A,e.length=7:=by rw[h5];exact A2Q _ _ _
 cases hx:args[i]? with
 |some x=>
  have hlt:=(B2.1 hx).1
  have hs:=A2R (φ:=O3 φ) hx
  have hg:=A1y hx
  have hi:=ih x (C3 hx) (b4 x (C3 hx))
  rw[<- h5] at hs
  have hL:∀os:List AO,os[0]?=some (.cells [.d y])->B4 Tryz.prog A2S [x.av,.clo g [0]] os (λr' os'=>r'=(O3 φ x).av/\os'=os.set 0 (.cells [.d y])):=λos ho=>B02 (id:=0) hi (λf=>A7v f _) ho
  obtain⟨z,hz⟩:∃z,z=O3 φ x:=⟨_,rfl⟩
  rw[<- hz] at hs hL
  obtain⟨o1,n1,v1,m1,l1,a1⟩:=x
  obtain⟨o2,n2,v2,m2,l2,a2⟩:=z
  rw[Ex.ds_mk] at hg hs
  simp only[Ex.av_mk] at hL
  repeat' first|refine st ?_|((with_reducible first|apply I6|apply D5);(·exact hL _ rfl);(try rintro _ _ ⟨rfl,rfl⟩))|((with_reducible apply I7);(·exact hL _ rfl))|((with_reducible apply H6);refine st ?_;(with_reducible apply I5);(·exact rfl);refine st ?_;(with_reducible apply D5);(·exact hL _ rfl);(try rintro _ _ ⟨rfl,rfl⟩))|(with_reducible first|apply A5|apply A4)<;>intro _
  exact⟨i+1,(A++[m6 o2 n2 v2 m2 (ng l2 (xL a2))],false),rfl,rfl,rfl,by omega,by omega,hs,by simp⟩
 |none=>
  have hge:=E4.1 hx
  rw[A2O hge] at h5
  have hx':(Ex.mk op n v nm true (args.map (O3 φ))).av=eX op n v nm (if A.isEmpty then .nil else .sl A):=by rw[Ex.av_mk,B7K,<- h5]
  have hφ:∀os:List AO,os[0]?=some (.cells [.d y])->B4 Tryz.prog g [(Ex.mk op n v nm true (args.map (O3 φ))).av,.ptr 0 0] os (λr' os'=>r'=(φ (.mk op n v nm true (args.map (O3 φ)))).av/\os'=os.set 0 (.cells [.d y])):=λos ho=>D05 (id:=0) (hg _) (λf=>A7v f _) ho
  rw[<- h6] at hx'
  by_cases h2:op=2
  ·rw[if_pos h2] at hZ
   obtain⟨z,hz⟩:∃z,z=φ (.mk op n v nm true (args.map (O3 φ))):=⟨_,rfl⟩
   rw[<- hz] at hZ hφ
   rw[hx'] at hφ
   obtain⟨o2,n2,v2,m2,l2,a2⟩:=z
   simp only[Ex.av_mk] at hZ hφ
   rw[hZ]
   cases b with
   |true=>
    rw[if_pos rfl] at hφ
    repeat' first|refine st ?_|((with_reducible first|apply I6|apply D5);(·exact hφ _ rfl);(try rintro _ _ ⟨rfl,rfl⟩))|((with_reducible apply I7);(·exact hφ _ rfl))|((with_reducible apply H6);refine st ?_;(with_reducible apply I5);(·exact rfl);refine st ?_;(with_reducible apply D5);(·exact hφ _ rfl);(try rintro _ _ ⟨rfl,rfl⟩))|(with_reducible first|apply A5|apply A4)<;>intro _
    all_goals exact⟨rfl,rfl⟩
   |false=>
    rw[if_neg (by simp)] at hφ
    repeat' first|refine st ?_|((with_reducible first|apply I6|apply D5);(·exact hφ _ rfl);(try rintro _ _ ⟨rfl,rfl⟩))|((with_reducible apply I7);(·exact hφ _ rfl))|((with_reducible apply H6);refine st ?_;(with_reducible apply I5);(·exact rfl);refine st ?_;(with_reducible apply D5);(·exact hφ _ rfl);(try rintro _ _ ⟨rfl,rfl⟩))|(with_reducible first|apply A5|apply A4)<;>intro _
    all_goals exact⟨rfl,rfl⟩
  ·rw[if_neg h2,hx'] at hZ
   rw[hZ]
   cases b with
   |true=>
    repeat' first|refine st ?_|(with_reducible first|apply A5|apply A4)<;>intro _
    all_goals exact⟨rfl,rfl⟩
   |false=>
    repeat' first|refine st ?_|(with_reducible first|apply A5|apply A4)<;>intro _
    all_goals exact⟨rfl,rfl⟩
def l8(k:Int):Ex->Ex
 |.mk op n v nm nl args=>.mk op (w64 (n+k)) v nm nl args
def C0(k:Int)(e:Ex):Ex:=O3 (l8 k) e
theorem B9w(k:Int)(x:Ex):B4 Tryz.prog A6O [x.av,.ptr 0 0] [.cells [.d (eI k)]] (λr os=>r=(l8 k x).av/\os=[.cells [.d (eI k)]]):=by
 obtain⟨op,n,v,nm,nl,args⟩:=x
 rw[l8,Ex.av_mk,Ex.av_mk]
 refine C2f.goX A6 rfl ?_
 repeat' first|refine st ?_|(with_reducible first|apply A5|apply A4)<;>intro _
 all_goals exact⟨rfl,rfl⟩
theorem A4C(e:Ex)(he:e.bk<=1048576)(k:Int):Pure Tryz.prog B4q [e.av,.d (eI k)] (C0 k e).av:=by
 have hM:=B17 A6O (eI k) (l8 k) (B9w k) e he
 have hL:∀os:List AO,os[1]?=some (.cells [.d (eI k)])->B4 Tryz.prog A2S [e.av,.clo A6O [1]] os (λr' os'=>r'=(O3 (l8 k) e).av/\os'=os.set 1 (.cells [.d (eI k)])):=λos ho=>B02 (id:=1) hM (λf=>A7v f _) ho
 unfold C0
 obtain⟨z,hz⟩:∃z,z=O3 (l8 k) e:=⟨_,rfl⟩
 rw[<- hz] at hL ⊢
 obtain⟨o1,n1,v1,m1,l1,a1⟩:=e
 obtain⟨o2,n2,v2,m2,l2,a2⟩:=z
 simp only[Ex.av_mk] at hL ⊢
 refine C2e.go A6 rfl ?_
 repeat' first|refine st ?_|((with_reducible first|apply I6|apply D5);(·exact hL _ rfl);(try rintro _ _ ⟨rfl,rfl⟩))|((with_reducible apply I7);(·exact hL _ rfl))|((with_reducible apply H6);refine st ?_;(with_reducible apply I5);(·exact rfl);refine st ?_;(with_reducible apply D5);(·exact hL _ rfl);(try rintro _ _ ⟨rfl,rfl⟩))|(with_reducible first|apply A5|apply A4)<;>intro _
 all_goals rfl
theorem D1X(k op n:Int)(v:Vl)(nm:List UInt8)(nl:Bool)(args:List Ex):C0 k (.mk op n v nm nl args)=.mk op (if op=2 then w64 (n+k) else n) v nm true (args.map (C0 k)):=by
 unfold C0
 rw[A48]
 by_cases h:op=2
 ·rw[if_pos h,if_pos h];rfl
 ·rw[if_neg h,if_neg h]
end Go.Proofs
end
section
namespace Go.Bi
theorem A0j{f:Nat->Nat}{k:Nat}(hf:∀i,i<k->f i=i){c:AV}(h:c.bnd1 k):mC f c=c:=by
 cases c with
 |ptr id off=>simp only[mC];rw[hf id h]
 |aptr id len i off=>simp only[mC];rw[hf id h]
 |arr id len=>simp only[mC];rw[hf id h]
 |clo g caps=>
  simp only[mC]
  congr 1
  conv=>rhs;rw[<- w4 caps]
  exact S7 λi hi=>hf i (h i hi)
 |iter id=>simp only[mC];rw[hf id h]
 |mp id=>simp only[mC];rw[hf id h]
 |mit id=>simp only[mC];rw[hf id h]
 |rs id len=>simp only[mC];rw[hf id h]
 |rp id len i off=>simp only[mC];rw[hf id h]
 |_=>rfl
theorem B7q{f:Nat->Nat}{k:Nat}(hf:∀i,i<k->f i=i){c:AV}(h:c.bnd2 k):mG f c=c:=by
 cases c with
 |agg cs=>
  simp only[mG]
  congr 1
  conv=>rhs;rw[<- w4 cs]
  exact S7 λc hc=>A0j hf (h c hc)
 |ptr id off=>exact A0j (c:=.ptr id off) hf h
 |aptr id len i off=>exact A0j (c:=.aptr id len i off) hf h
 |arr id len=>exact A0j (c:=.arr id len) hf h
 |clo g caps=>exact A0j (c:=.clo g caps) hf h
 |iter id=>exact A0j (c:=.iter id) hf h
 |mp id=>exact A0j (c:=.mp id) hf h
 |mit id=>exact A0j (c:=.mit id) hf h
 |rs id len=>exact A0j (c:=.rs id len) hf h
 |rp id len i off=>exact A0j (c:=.rp id len i off) hf h
 |_=>rfl
theorem B7r{f:Nat->Nat}{k:Nat}(hf:∀i,i<k->f i=i){o:AO}(h:o.bnd k):mO f o=o:=by
 cases o with
 |cells cs=>
  simp only[mO]
  congr 1
  conv=>rhs;rw[<- w4 cs]
  exact S7 λc hc=>A0j hf (h c hc)
 |map kvs=>
  simp only[mO]
  congr 1
  conv=>rhs;rw[<- w4 kvs]
  exact S7 λp hp=>by rw[B7q hf (h p hp)];rfl
 |mit m n s=>simp only[mO];rw[hf m h]
 |rarr es sz nl=>
  simp only[mO]
  congr 1
  conv=>rhs;rw[<- w4 es]
  refine S7 λe he=>?_
  conv=>rhs;rw[id,<- w4 e]
  exact S7 λc hc=>A0j hf (h e he c hc)
 |_=>rfl
theorem B4.pre{P:Program}{g:FuncId}{args:List AV}{bs:List AO}{Q:AV->List AO->Prop}(h:B4 P g args bs Q)(rest:List AO)(hba:∀a∈args,a.bnd2 bs.length)(hbo:∀o∈bs,o.bnd bs.length){K:AV->List AO->Prop}
  (hk:∀r bs',Q r bs'->bs'.length=bs.length/\(∀o∈bs',o.bnd bs.length)/\(∀f,mA f r=r)/\K r (bs'++rest)):B4 P g args (bs++rest) K:=by
 have hf:∀n i,i<bs.length->rn (List.range bs.length) n i=i:=λn i hi=>by
  rw[B0p (by simpa using hi),F7]
  simp[hi]
 have:=B4.frame (K:=K) h (List.range bs.length) (bs++rest) (by simp) List.nodup_range (λi o hx=>?_) hba hbo (λr bs' hq=>?_)
 ·have e:args.map (mG (rn (List.range bs.length) (bs++rest).length))=args:=by
   conv=>rhs;rw[<- w4 args]
   exact S7 λa ha=>B7q (hf _) (hba a ha)
  rwa [e] at this
 ·have hi:=(B2.1 hx).1
  have e:=hf (bs++rest).length i hi
  rw[B0p (by simpa using hi)] at e
  rw[e,J5 hi,hx,B7r (hf _) (hbo o (C3 hx))]
 ·obtain⟨h1,h2,h3,h4⟩:=hk r bs' hq
  rw[h3]
  obtain⟨g1,g2,g3,g4⟩:=B0k (rn (List.range bs.length) (bs++rest).length) (List.range bs.length) bs' (bs++rest) List.nodup_range (λs hs=>by simp at hs ⊢;omega) (by simp[h1])
  have e:T6 (rn (List.range bs.length) (bs++rest).length) (List.range bs.length) bs' (bs++rest)=bs'++rest:=by
   refine A3w λj=>?_
   rcases Nat.lt_or_ge j bs.length with hj|hj
   ·have hb:bs'[j]?=some bs'[j]:=C5 (by omega)
    rw[g1 j j _ (by simp[hj]) hb,J5 (by omega),hb,B7r (hf _) (h2 _ (C3 hb))]
   ·rcases Nat.lt_or_ge j (bs++rest).length with hj2|hj2
    ·rw[g2 j hj2 (by simp;omega),P6 hj,P6 (by omega),h1]
    ·rw[A00 (by rw[g4];simp at hj2 ⊢;omega),A00 (by simp at hj2 ⊢;omega)]
  rw[e]
  exact h4
end Go.Bi
namespace Go.Proofs
open Go.Bi
end Go.Proofs
end
section
namespace Go.Proofs
open Go.Bi
theorem C8T:Bi.Enters Tryz.prog A8V:=⟨_,Tryz.func176,by kernel_rfl,by decide⟩
theorem C8S:Bi.Enters Tryz.prog A8T:=⟨_,Tryz.func177,by kernel_rfl,by decide⟩
def R5(zs:List Int):List Int:=zs.mergeSort λx y=>decide (x<=y)
theorem B8K(zs:List Int):(R5 zs).length=zs.length:=by simp[R5]
def B5S(zs:List Int):List Int:=Lib.compact zs++List.replicate (zs.length-(Lib.compact zs).length) 0
theorem A9d(n:Nat)(es:List (List D))(sz frz:Nat)(nl:Bool):(AO.arr es sz frz nl).bnd n:=by simp[AO.bnd]
theorem C1d(zs:List Int)(nl:Bool)(hz:zs.length<4611686018427387904){os:List AO}{id:Nat}(ho:os[id]?=some (.arr (A0 zs) 1 0 nl)) :
  B4 Tryz.prog A8V [.arr id (A0 zs).length] os (λr os'=>r=.tup []/\os'=os.set id (.arr (A0 (R5 zs)) 1 0 nl)):=
 B01 (λid=>[.arr id (A0 zs).length]) (D25 Tryz.lays189 C8T zs nl hz) (λ_=>rfl) (λ_=>rfl) (λ_=>rfl) (λ_ _=>rfl) (by simp[AV.bnd2,AV.bnd1]) (A9d ..) ho
theorem C19(zs:List Int)(nl:Bool)(hz:zs.length<=9223372036854775807){os:List AO}{id:Nat}(ho:os[id]?=some (.arr (A0 zs) 1 0 nl)) :
  B4 Tryz.prog A8T [.arr id (A0 zs).length] os (λr os'=>r=.d (if nl then .nil else .sl (A0 (Lib.compact zs)))/\os'=os.set id (.arr (A0 (B5S zs)) 1 (if nl then 0 else (Lib.compact zs).length) nl)):=
 B01 (λid=>[.arr id (A0 zs).length]) (C8h Tryz.laysNm220 C8S zs nl hz) (λ_=>rfl) (λ_=>rfl) (λ_=>rfl) (λ_ _=>rfl) (by simp[AV.bnd2,AV.bnd1]) (A9d ..) ho
mutual
def M5:Ex->List Int
 |.mk op n v nm nl args=>(if op=2 then [n] else [])++A61 args
def A61:List Ex->List Int
 |[]=>[]
 |a::l=>M5 a++A61 l
end
theorem B8e:∀l,A61 l=l.flatMap M5
 |[]=>by simp[A61]
 |a::l=>by simp[A61,B8e l]
theorem A4e(op n:Int)(v:Vl)(nm:List UInt8)(nl:Bool)(args:List Ex):M5 (.mk op n v nm nl args)=(if op=2 then [n] else [])++args.flatMap M5:=by rw[M5,B8e]
theorem B6J{l:List Ex}{f:Ex->List Int}(h:∀a∈l,(f a).length<=a.bk):(l.flatMap f).length<=J6 (xL l):=by
 induction l with
 |nil=>simp
 |cons a l ih=>
  have h1:=h a (by simp)
  have h2:=ih λb hb=>h b (by simp[hb])
  rw[A3x,M7]
  simp only[xL,R6,J6]
  unfold Ex.bk at h1
  unfold xL at h2
  omega
theorem A7G:∀e:Ex,(M5 e).length<=e.bk:=by
 refine Ex.ind λop n v nm nl args ih=>?_
 have hb:=Ex.bk_mk op n v nm nl args
 have:=B6J ih
 rw[A4e,M7]
 split<;>simp only[L0,m7]<;>omega
def own(op n:Int):List Int:=if op=2 then [n] else []
theorem C8M(a b:List Int):A0 (a++b)=A0 a++A0 b:=by simp[A0]
theorem B9t(op n:Int)(v:Vl)(nm:List UInt8)(d:D)(zs:List Int)(hz:zs.length<=4194304) :
  B4 Tryz.prog A3C [eX op n v nm d,.ptr 0 0] [.cells [.arr 1 (A0 zs).length],.arr (A0 zs) 1 0 (A0 zs).isEmpty] (λr os=>r=.tup []/\os=[.cells [.arr 1 (A0 (zs++own op n)).length],.arr (A0 (zs++own op n)) 1 0 (A0 (zs++own op n)).isEmpty]):=by
 obtain⟨b,hb⟩:∃b,b=(A0 zs).isEmpty:=⟨_,rfl⟩
 rw[<- hb]
 have hl:=B6 zs
 unfold own
 by_cases h:op=2
 ·rw[if_pos h,C8M]
  have e1:(A0 zs++A0 [n]).isEmpty=false:=by simp[A0]
  rw[e1]
  refine B1A.goX A6 rfl ?_
  repeat' first|refine st ?_|(with_reducible first|apply A5|apply A4)<;>intro _
  all_goals exact⟨rfl,by simp[A0]⟩
 ·rw[if_neg h,A1C,<- hb]
  refine B1A.goX A6 rfl ?_
  repeat' first|refine st ?_|(with_reducible first|apply A5|apply A4)<;>intro _
  all_goals exact⟨rfl,rfl⟩
theorem A5L{α:Type}{x a b:α}(h:x∈[a,b]):x=a\/x=b:=by simpa using h
theorem B8c{g:FuncId}{ds:List D}{a:AV}(ha:a.bnd2 2){zs ys:List Int}(h:B4 Tryz.prog g [.agg (ds.map .d),a] [.cells [.arr 1 (A0 zs).length],.arr (A0 zs) 1 0 (A0 zs).isEmpty] (λr os=>r=.tup []/\os=[.cells [.arr 1 (A0 ys).length],.arr (A0 ys) 1 0 (A0 ys).isEmpty]))(rest:List AO) :
  B4 Tryz.prog g [.agg (ds.map .d),a] ([.cells [.arr 1 (A0 zs).length],.arr (A0 zs) 1 0 (A0 zs).isEmpty]++rest) (λr os=>r=.tup []/\os=[.cells [.arr 1 (A0 ys).length],.arr (A0 ys) 1 0 (A0 ys).isEmpty]++rest):=by
 refine B4.pre h rest (λx hx=>?_) (λo ho=>?_) ?_
 ·rcases A5L hx with rfl|rfl
  ·exact A9e _ _
  ·exact ha
 ·rcases A5L ho with rfl|rfl<;>simp[AO.bnd,AV.bnd1]
 ·rintro r bs' ⟨rfl,rfl⟩
  refine⟨rfl,λo ho=>?_,λf=>rfl,rfl,rfl⟩
  rcases A5L ho with rfl|rfl<;>simp[AO.bnd,AV.bnd1]
theorem D1q{l:List Ex}{i:Nat}{x:Ex}(h:l[i]?=some x):(l.take (i+1)).flatMap M5=(l.take i).flatMap M5++M5 x:=by
 rw[S0,h];simp
theorem D1p(l:List Ex)(i:Nat):((l.take i).flatMap M5).length<=J6 (xL l):=by
 have h1:((l.take i).flatMap M5).length<=(l.flatMap M5).length:=by
  conv=>rhs;rw[<- List.take_append_drop i l,List.flatMap_append,M7]
  omega
 have h2:=B6J (l:=l) (f:=M5) (λa _=>A7G a)
 omega
theorem B8f:∀{l:List Ex}{i:Nat}{x:Ex},l[i]?=some x->((l.take i).flatMap M5).length+x.bk<=J6 (xL l)
 |[],i,x,h=>by simp at h
 |a::l,0,x,h=>by
  simp at h
  subst h
  simp only[xL,R6,J6,List.take_zero,List.flatMap_nil,m7]
  unfold Ex.bk
  omega
 |a::l,i+1,x,h=>by
  have:=B8f (l:=l) (i:=i) (x:=x) (by simpa using h)
  have h1:=A7G a
  rw[A2N,A3x,M7]
  simp only[xL,R6,J6]
  unfold Ex.bk at *
  unfold xL at this
  omega
theorem C1w:∀e:Ex,e.bk<=1048576->∀zs:List Int,zs.length+e.bk<=2097152->B4 Tryz.prog A6R [e.av,.clo A3C [0]] [.cells [.arr 1 (A0 zs).length],.arr (A0 zs) 1 0 (A0 zs).isEmpty] (λr os=>r=.tup []/\os=[.cells [.arr 1 (A0 (zs++M5 e)).length],.arr (A0 (zs++M5 e)) 1 0 (A0 (zs++M5 e)).isEmpty]):=by
 refine Ex.ind λop n v nm nl args ih hb zs hz=>?_
 obtain⟨b1,b2,b3,b4⟩:=Ex.bk_bounds hb
 have hbm:=Ex.bk_mk op n v nm nl args
 have hC1:∀rest,B4 Tryz.prog A3C [eX op n v nm (ng nl (xL args)),.ptr 0 0] ([.cells [.arr 1 (A0 zs).length],.arr (A0 zs) 1 0 (A0 zs).isEmpty]++rest) (λr os=>r=.tup []/\os=[.cells [.arr 1 (A0 (zs++own op n)).length],.arr (A0 (zs++own op n)) 1 0 (A0 (zs++own op n)).isEmpty]++rest):=λrest=>
  B8c (ds:=m6 op n v nm (ng nl (xL args))) (by simp[AV.bnd2,AV.bnd1]) (B9t op n v nm _ zs (by omega)) rest
 rw[A4e,<- own,<- List.append_assoc,Ex.av_mk]
 obtain⟨z1,hz1⟩:∃z,z=zs++own op n:=⟨_,rfl⟩
 have hz1l:z1.length<=zs.length+1:=by
  rw[hz1,M7]
  unfold own
  split<;>simp
 rw[<- hz1] at hC1 ⊢
 have h1:=I8 args
 have hm:=P0 args
 obtain⟨da,hda⟩:∃d,d=ng nl (xL args):=⟨_,rfl⟩
 have hsd:B8 da (xL args):=by rw[hda];exact v7
 rw[<- hda] at hC1 ⊢
 have r0:v.k=v.k:=rfl
 have r1:v.s=v.s:=rfl
 have r2:nm=nm:=rfl
 refine C2p.goX A6 rfl ?_
 obtain⟨e0,he0⟩:∃b,b=(A0 zs).isEmpty:=⟨_,rfl⟩
 rw[<- he0] at hC1 ⊢
 repeat' first|refine st ?_|((with_reducible first|apply I6|apply D5);(·exact hC1 _);(try rintro _ _ ⟨rfl,rfl⟩))|((with_reducible apply I7);(·exact hC1 _))|((with_reducible apply H6);refine st ?_;(with_reducible apply I5);(·exact rfl);refine st ?_;(with_reducible apply D5);(·exact hC1 _);(try rintro _ _ ⟨rfl,rfl⟩))|(with_reducible first|apply A5|apply A4)<;>intro _
 refine G6 A6 C4H C3R (λ(i:Nat)=>[.d (eI i)]) (λi=>[.cells [.arr 1 (A0 (z1++(args.take i).flatMap M5)).length],.arr (A0 (z1++(args.take i).flatMap M5)) 1 0 (A0 (z1++(args.take i).flatMap M5)).isEmpty]++[.cells [.d (eI op),.d (eI n),.d (eI v.k),.d (eI v.n),.d (.str v.s),.d (.str nm),.d da]]) (λi=>i<=args.length) (λi=>args.length-i) 0 rfl rfl rfl (by simp) (λ_ _=>⟨rfl,rfl⟩) rfl (S8 _) ?_
 repeat' first|refine st ?_|(with_reducible first|apply A5|apply A4)<;>intro _
 intro i h4
 have hrl:=D1p args i
 cases hx:args[i]? with
 |some x=>
  have hlt:=(B2.1 hx).1
  have hgx:=A1y hx
  have hxm:=C3 hx
  have hxb:F2 x.ds<=J6 (xL args):=A2Z (E6.2 ⟨x,hxm,rfl⟩)
  have hxk:=Ex.bk_arg (op:=op) (n:=n) (v:=v) (name:=nm) (nl:=nl) hxm
  have hs:=D1q hx
  obtain⟨t,ht⟩:∃t,t=z1++(args.take i).flatMap M5:=⟨_,rfl⟩
  have hi:=ih x hxm (b4 x hxm) t (by
   have h0:=B8f hx
   rw[ht,M7]
   omega)
  have hn:z1++(args.take (i+1)).flatMap M5=t++M5 x:=by rw[hs,ht,List.append_assoc]
  rw[<- hn] at hi
  rw[<- ht]
  have hL:=λrest=>B8c (ds:=x.ds) (by simp[AV.bnd2,AV.bnd1]) hi rest
  obtain⟨e1,he1⟩:∃b,b=(A0 t).isEmpty:=⟨_,rfl⟩
  rw[<- he1] at hL ⊢
  obtain⟨o1,n1,v1,m1,l1,a1⟩:=x
  rw[Ex.ds_mk] at hgx hL
  repeat' first|refine st ?_|((with_reducible first|apply I6|apply D5);(·exact hL _);(try rintro _ _ ⟨rfl,rfl⟩))|((with_reducible apply I7);(·exact hL _))|((with_reducible apply H6);refine st ?_;(with_reducible apply I5);(·exact rfl);refine st ?_;(with_reducible apply D5);(·exact hL _);(try rintro _ _ ⟨rfl,rfl⟩))|(with_reducible first|apply A5|apply A4)<;>intro _
  exact⟨i+1,rfl,rfl,rfl,by omega,by omega⟩
 |none=>
  have hge:=E4.1 hx
  rw[P2 hge]
  repeat' first|refine st ?_|(with_reducible first|apply A5|apply A4)<;>intro _
  all_goals exact⟨rfl,rfl⟩
end Go.Proofs
end
section
namespace Go.Proofs
open Go.Bi
def Asc(l:List Int):Prop:=l.Pairwise (·<·)
theorem B5X(d:Array Int)(hs:∀i j:Nat,i<=j->j<d.size->d[i]!<=d[j]!):∀m,m<=d.size->Asc (Lib.compactUpTo d m)/\∀x,x∈Lib.compactUpTo d m↔∃j,j<m/\d[j]! = x
 |0,_=>by
  refine⟨by simp[Lib.compactUpTo,Asc],λx=>?_⟩
  simp[Lib.compactUpTo]
 |m+1,hm=>by
  obtain⟨h1,h2⟩:=B5X d hs m (by omega)
  rw[Lib.compactUpTo_succ]
  cases hk:Lib.keeps d m with
  |true=>
   rw[if_pos rfl]
   have hk':m=0\/d[m]!≠d[m-1]!:=of_decide_eq_true hk
   constructor
   ·refine List.pairwise_append.2 ⟨h1,by simp,λx hx y hy=>?_⟩
    simp at hy
    subst hy
    obtain⟨j,hj,rfl⟩:=(h2 x).1 hx
    have q1:=hs j (m-1) (by omega) (by omega)
    have q2:=hs (m-1) m (by omega) (by omega)
    rcases hk' with h0|hne
    ·omega
    ·omega
   ·intro x
    rw[R3,h2]
    constructor
    ·rintro(⟨j,hj,e⟩|hx)
     ·exact⟨j,by omega,e⟩
     ·simp at hx;exact⟨m,by omega,hx.symm⟩
    ·rintro⟨j,hj,e⟩
     rcases Nat.lt_succ_iff_lt_or_eq.1 hj with h|rfl
     ·exact .inl ⟨j,h,e⟩
     ·exact .inr (by simp[e])
  |false=>
   rw[if_neg (by decide),A1C]
   have hk':¬(m=0\/d[m]!≠d[m-1]!):=of_decide_eq_false hk
   refine⟨h1,λx=>?_⟩
   rw[h2]
   constructor
   ·rintro⟨j,hj,e⟩;exact⟨j,by omega,e⟩
   ·rintro⟨j,hj,e⟩
    rcases Nat.lt_succ_iff_lt_or_eq.1 hj with h|rfl
    ·exact⟨j,h,e⟩
    ·have q1:¬j=0:=λe=>hk' (.inl e)
     have q2:d[j]! = d[j-1]!:=Classical.byContradiction λe=>hk' (.inr e)
     exact⟨j-1,by omega,by rw[<- q2];exact e⟩
theorem C8i(zs:List Int):Asc (Lib.compact (R5 zs))/\∀x,x∈Lib.compact (R5 zs)↔x∈zs:=by
 have hp:(R5 zs).Pairwise λa b=>a<=b:=by
  have:=List.pairwise_mergeSort (le:=λx y:Int=>decide (x<=y)) (by intro a b c h1 h2;simp at *;omega) (by intro a b;simp;omega) zs
  refine this.imp λh=>?_
  simpa using h
 have hsz:(R5 zs).toArray.size=(R5 zs).length:=by simp
 have hget:∀i,i<(R5 zs).length->(R5 zs).toArray[i]! = (R5 zs).getD i 0:=by
  intro i hi
  rw[getElem!_pos _ i (by simpa using hi),F7,C5 hi]
  simp
 have hs:∀i j:Nat,i<=j->j<(R5 zs).toArray.size->(R5 zs).toArray[i]!<=(R5 zs).toArray[j]!:=by
  intro i j hij hj
  rw[hsz] at hj
  rw[hget i (by omega),hget j hj]
  rcases Nat.lt_or_ge i j with h|h
  ·have:=List.pairwise_iff_getElem.1 hp i j (by omega) hj h
   rw[F7,F7,C5 (show i<_ by omega),C5 hj]
   exact this
  ·obtain rfl:i=j:=by omega
   exact Int.le_refl _
 obtain⟨h1,h2⟩:=B5X (R5 zs).toArray hs (R5 zs).length (by simp)
 refine⟨h1,λx=>?_⟩
 unfold Lib.compact
 rw[h2]
 have hmem:x∈R5 zs↔x∈zs:=by unfold R5;exact List.mem_mergeSort
 rw[<- hmem,A12]
 constructor
 ·rintro⟨j,hj,e⟩
  refine⟨j,?_⟩
  rw[hget j hj,F7,C5 hj] at e
  rw[C5 hj]
  exact congrArg some e
 ·rintro⟨j,e⟩
  have hj:=(B2.1 e).1
  refine⟨j,hj,?_⟩
  rw[hget j hj,F7,e];rfl
def Q1(e:Ex):List Int:=Lib.compact (R5 (M5 e))
def A3Q(e:Ex):D:=if (A0 (M5 e)).isEmpty then .nil else .sl (A0 (Q1 e))
theorem A9s(e:Ex)(x:Int):x∈Q1 e↔x∈M5 e:=(C8i (M5 e)).2 x
theorem B5W(e:Ex):(Q1 e).length<=e.bk:=by
 have h1:=B5Y (R5 (M5 e))
 have h2:=B8K (M5 e)
 have h3:=A7G e
 unfold Q1
 omega
theorem C8e(e:Ex):B8 (A3Q e) (A0 (Q1 e)):=by
 unfold A3Q
 split
 ·rename_i h
  have:M5 e=[]:=by
   cases hx:M5 e with
   |nil=>rfl
   |cons a l=>rw[hx] at h;cases h
  refine .inl ⟨rfl,?_⟩
  have hc:Q1 e=[]:=by
   rw[List.eq_nil_iff_forall_not_mem]
   intro x hx
   rw[A9s,this] at hx
   cases hx
  rw[hc];rfl
 ·exact .inr rfl
theorem C0m(e:Ex)(he:e.bk<=1048576):Pure Tryz.prog B4o [e.av] (.d (A3Q e)):=by
 have hv:=C1w e he [] (by simp;omega)
 rw[A13] at hv
 have hrl:=A7G e
 unfold A3Q Q1
 obtain⟨zs,hzs⟩:∃z,z=M5 e:=⟨_,rfl⟩
 rw[<- hzs] at hv hrl ⊢
 have hb:∀ds:List D,B4 Tryz.prog A6R [.agg (ds.map .d),.clo A3C [0]] [.cells [.arr 1 0],.arr [] 1 0 true] (λr os=>r=.tup []/\os=[.cells [.arr 1 (A0 zs).length],.arr (A0 zs) 1 0 (A0 zs).isEmpty])->∀E:List AV,B4 Tryz.prog A6R [.agg (ds.map .d),.clo A3C [1]] [.cells E,.cells [.d .nil]] (λr os=>r=.tup []/\os=[.cells E,.cells [.arr 2 (A0 zs).length],.arr (A0 zs) 1 0 (A0 zs).isEmpty]):=by
  intro ds hE E
  refine B4.nilc 1 0 1 rfl (cs:=[.d .nil]) rfl rfl ?_
  have:=B4.frame (K:=λr os=>r=.tup []/\os=[.cells E,.cells [.arr 2 (A0 zs).length],.arr (A0 zs) 1 0 (A0 zs).isEmpty]) hE [1,2] [.cells E,.cells [.arr 2 0],.arr [] 1 0 true] rfl (by decide) (λi o h=>by
   match i,h with
   |0,h=>cases h;rfl
   |1,h=>cases h;rfl
   |i+2,h=>simp at h) (λa ha=>by
    rcases A5L ha with rfl|rfl
    ·exact A9e _ _
    ·simp[AV.bnd2,AV.bnd1]) (λo ho=>by
    rcases A5L ho with rfl|rfl<;>simp[AO.bnd,AV.bnd1]) (by rintro r bs' ⟨rfl,rfl⟩;exact⟨rfl,rfl⟩)
  rw[R6,R6,List.map_nil,B7p] at this
  exact this
 have hB:=hb e.ds hv
 obtain⟨op,n,v,nm,nl,args⟩:=e
 rw[Ex.ds_mk] at hB
 rw[Ex.av_mk]
 obtain⟨b,hbb⟩:∃b,b=(A0 zs).isEmpty:=⟨_,rfl⟩
 rw[<- hbb] at hB ⊢
 have s1:∀(os:List AO) (id:Nat),os[id]?=some (.arr (A0 zs) 1 0 b)->B4 Tryz.prog A8V [.arr id (A0 zs).length] os (λr os'=>r=.tup []/\os'=os.set id (.arr (A0 (R5 zs)) 1 0 b)):=λos id ho=>C1d zs b (by omega) ho
 have hsl:=B8K zs
 have hle:(A0 zs).length=(A0 (R5 zs)).length:=by rw[B6,B6,hsl]
 have s2:∀(os:List AO) (id:Nat),os[id]?=some (.arr (A0 (R5 zs)) 1 0 b)->B4 Tryz.prog A8T [.arr id (A0 zs).length] os (λr os'=>r=.d (if b then .nil else .sl (A0 (Lib.compact (R5 zs))))/\os'=os.set id (.arr (A0 (B5S (R5 zs))) 1 (if b then 0 else (Lib.compact (R5 zs)).length) b)):=λos id ho=>by rw[hle];exact C19 (R5 zs) b (by omega) ho
 refine C2c.go A6 rfl ?_
 cases b with
 |true=>
  repeat' first|(with_reducible apply H6)|refine st ?_|((with_reducible first|apply I6|apply D5);(·first|exact hB _|exact s1 _ _ rfl|exact s2 _ _ rfl);(try rintro _ _ ⟨rfl,rfl⟩))|((with_reducible apply I7);(·first|exact hB _|exact s1 _ _ rfl|exact s2 _ _ rfl))|((with_reducible apply H6);refine st ?_;(with_reducible apply I5);(·exact rfl);refine st ?_;(with_reducible apply D5);(·first|exact hB _|exact s1 _ _ rfl|exact s2 _ _ rfl);(try rintro _ _ ⟨rfl,rfl⟩))|(with_reducible first|apply A5|apply A4)<;>intro _
  all_goals rfl
 |false=>
  repeat' first|(with_reducible apply H6)|refine st ?_|((with_reducible first|apply I6|apply D5);(·first|exact hB _|exact s1 _ _ rfl|exact s2 _ _ rfl);(try rintro _ _ ⟨rfl,rfl⟩))|((with_reducible apply I7);(·first|exact hB _|exact s1 _ _ rfl|exact s2 _ _ rfl))|((with_reducible apply H6);refine st ?_;(with_reducible apply I5);(·exact rfl);refine st ?_;(with_reducible apply D5);(·first|exact hB _|exact s1 _ _ rfl|exact s2 _ _ rfl);(try rintro _ _ ⟨rfl,rfl⟩))|(with_reducible first|apply A5|apply A4)<;>intro _
  all_goals rfl
end Go.Proofs
end
section
namespace Go.Proofs
open Go.Bi
def A1c(kvs:List (D×AV))(c:Int):Int:=match J2 .i (eI c) kvs with
 |some (.d (.int _ n))=>n
 |_=>0
def Q4(kvs:List (D×AV))(c:Int):List (D×AV):=K9 .i (eI c) (.d (eI (A1c kvs c+1))) kvs
structure R2(l:List Int)(kvs:List (D×AV)):Prop where
 ks:∀p∈kvs,∃t n,p=(eI t,.d (eI n))
 ct:∀c,A1c kvs c=(l.count c:Nat)
theorem R2.nil:R2 [] []:=⟨λp hp=>by simp at hp,λc=>by simp[A1c,J2]⟩
theorem R2.str{l:List Int}{kvs:List (D×AV)}(h:R2 l kvs):∀p∈kvs,∃t,p.1=eI t:=λp hp=>by
 obtain⟨t,n,rfl⟩:=h.ks p hp;exact⟨t,rfl⟩
theorem R2.lk{l:List Int}{kvs:List (D×AV)}(h:R2 l kvs)(c:Int):lkR false (zv false [.int .i64 0]) (J2 .i (eI c) kvs)=.d (eI (l.count c:Nat)):=by
 rw[<- h.ct c]
 unfold A1c
 have key:∀{kvs:List (D×AV)},(∀p∈kvs,∃t n,p=(eI t,.d (eI n)))->J2 .i (eI c) kvs=none\/∃n,J2 .i (eI c) kvs=some (.d (eI n)):=by
  intro kvs
  induction kvs with
  |nil=>intro _;exact .inl rfl
  |cons q kvs ih=>
   intro hk
   unfold J2
   split
   ·obtain⟨t,n,rfl⟩:=hk q (by simp)
    exact .inr ⟨n,rfl⟩
   ·exact ih λp hp=>hk p (by simp[hp])
 rcases key h.ks with e|⟨n,e⟩<;>rw[e]<;>rfl
theorem B7y{s t:Int}(hst:s≠t){v:AV}:∀{kvs:List (D×AV)},(∀p∈kvs,∃t,p.1=eI t)->J2 .i (eI s) (K9 .i (eI t) v kvs)=J2 .i (eI s) kvs
 |[],_=>by simp[K9,J2,A0I,hst]
 |q::kvs,h=>by
  obtain⟨u,hu⟩:=h q (by simp)
  unfold K9
  rw[hu,A0I]
  by_cases e:t=u
  ·subst e
   rw[if_pos (by simp),J2,A0I,if_neg (by simp[hst]),J2,hu,A0I,if_neg (by simp[hst])]
  ·rw[if_neg (by simp[e]),J2,J2]
   rw[B7y hst (λp hp=>h p (by simp[hp]))]
theorem B7B{s n:Int}:∀{kvs:List (D×AV)},(∀p∈kvs,∃t n,p=(eI t,.d (eI n)))->∀p∈K9 .i (eI s) (.d (eI n)) kvs,∃t n,p=(eI t,.d (eI n))
 |[],h,p,hp=>by simp[K9] at hp;subst hp;exact⟨s,n,rfl⟩
 |q::kvs,h,p,hp=>by
  unfold K9 at hp
  split at hp
  ·rcases L4.1 hp with rfl|hp
   ·exact⟨s,n,rfl⟩
   ·exact h p (by simp[hp])
  ·rcases L4.1 hp with rfl|hp
   ·exact h _ (by simp)
   ·exact B7B (λp hp=>h p (by simp[hp])) p hp
theorem R2.add{l:List Int}{kvs:List (D×AV)}(h:R2 l kvs)(c:Int):R2 (l++[c]) (Q4 kvs c):=by
 refine⟨B7B h.ks,λd=>?_⟩
 unfold Q4
 rw[List.count_append]
 by_cases e:d=c
 ·subst e
  unfold A1c
  rw[B06]
  show A1c kvs d+1=_
  rw[h.ct]
  simp
 ·have:A1c (K9 .i (eI c) (.d (eI (A1c kvs c+1))) kvs) d=A1c kvs d:=by
   unfold A1c
   rw[B7y e h.str]
  rw[this,h.ct,List.count_singleton]
  simp[Ne.symm e]
theorem R2.adds{l:List Int}{kvs:List (D×AV)}(h:R2 l kvs):∀cs:List Int,R2 (l++cs) (cs.foldl Q4 kvs)
 |[]=>by simpa using h
 |c::cs=>by
  have:=R2.adds (h.add c) cs
  simpa using this
theorem R2.bnd{l:List Int}{kvs:List (D×AV)}(h:R2 l kvs)(m:Nat):(AO.map kvs).bndB m=true:=by
 refine N9.2 λp hp=>?_
 obtain⟨t,n,rfl⟩:=h.ks p hp
 rfl
theorem R2.mO{l:List Int}{kvs:List (D×AV)}(h:R2 l kvs)(f:Nat->Nat):mO f (.map kvs)=.map kvs:=by
 show AO.map _=_
 congr 1
 conv=>rhs;rw[<- w4 kvs]
 refine S7 λp hp=>?_
 obtain⟨t,n,rfl⟩:=h.ks p hp
 rfl
theorem C1o(l:List Int)(kvs:List (D×AV))(hk:R2 l kvs)(cs:List Int)(hl:l.length+cs.length<=1152921504606846976)(d:D)(hd:B8 d (A0 cs)) :
  B4 Tryz.prog A8I [.d d,.ptr 1 0] [.map kvs,.cells [.mp 0]] (λr os=>r=.tup []/\os=[.map (cs.foldl Q4 kvs),.cells [.mp 0]]):=by
 refine C2a.goX A6 rfl ?_
 have h1:=B6 cs
 have hm:=D4 cs
 repeat' first|refine st ?_|(with_reducible first|apply A5|apply A4)<;>intro _
 refine G6 A6 C4B C3L (λ(k:Nat)=>[.d (eI k)]) (λk=>[.map ((cs.take k).foldl Q4 kvs),.cells [.mp 0]]) (λk=>k<=cs.length) (λk=>cs.length-k) 0 rfl rfl rfl rfl (λk _=>⟨rfl,(by rw[Y3,R2.bnd (hk.adds _)];rfl)⟩) rfl (by omega) ?_
 repeat' first|refine st ?_|(with_reducible first|apply A5|apply A4)<;>intro _
 intro k h6
 cases hy:cs[k]? with
 |some c=>
  have hlt2:=(B2.1 hy).1
  have hg2:=O2 hy
  have hts:cs.take (k+1)=cs.take k++[c]:=by rw[S0,hy];rfl
  have hK:=hk.adds (cs.take k)
  have hS:=hK.lk c
  have hC:=hK.ct c
  have hcl:((l++cs.take k).count c)<=l.length+k:=by
   have:=List.count_le_length (a:=c) (l:=l++cs.take k)
   rw[M7,P8] at this
   omega
  have e2:K9 .i (eI c) (.d (eI (((l++cs.take k).count c:Nat)+1))) ((cs.take k).foldl Q4 kvs)=(cs.take (k+1)).foldl Q4 kvs:=by
   rw[hts,A3y,<- hC];rfl
  obtain⟨kv,hkv⟩:∃kv,kv=(cs.take k).foldl Q4 kvs:=⟨_,rfl⟩
  have m1:l6 .i (eI c) kv:=by rw[hkv];exact A5T _ _ hK.str
  rw[<- hkv] at hS e2 ⊢
  obtain⟨kv2,hkv2⟩:∃kv,kv=(cs.take (k+1)).foldl Q4 kvs:=⟨_,rfl⟩
  rw[<- hkv2] at e2
  obtain⟨q,hq⟩:∃q:Nat,q=(l++cs.take k).count c:=⟨_,rfl⟩
  rw[<- hq] at hS e2 hcl
  repeat' first|refine st ?_|(with_reducible first|apply A5|apply A4)<;>intro _
  rw[hkv2]
  exact⟨k+1,rfl,rfl,rfl,by omega,by omega⟩
 |none=>
  have hge:=E4.1 hy
  rw[P2 hge]
  have hB:=(hk.adds cs).bnd 2
  have hB2:([AO.map (cs.foldl Q4 kvs),AO.cells [AV.mp 0]].all λo=>o.bndB 2)=true:=by rw[Y3,hB];rfl
  repeat' first|refine st ?_|(with_reducible first|apply A5|apply A4)<;>intro _
  exact⟨rfl,rfl⟩
end Go.Proofs
end
section
namespace Go.Proofs
open Go.Bi
theorem A8i(T:AO)(rest:List AO)(l:List Int)(kvs:List (D×AV))(hk:R2 l kvs)(cs:List Int)(hl:l.length+cs.length<=1152921504606846976)(d:D)(hd:B8 d (A0 cs)) :
  B4 Tryz.prog A8I [.d d,.ptr 2 0] (T::.map kvs::.cells [.mp 1]::rest) (λr os=>r=.tup []/\os=T::.map (cs.foldl Q4 kvs)::.cells [.mp 1]::rest):=by
 have hK:=hk.adds cs
 have:=B4.frame (K:=λr os=>r=.tup []/\os=T::.map (cs.foldl Q4 kvs)::.cells [.mp 1]::rest) (C1o l kvs hk cs hl d hd) [1,2] (T::.map kvs::.cells [.mp 1]::rest) rfl (by decide) (λi o h=>by
   match i,h with
   |0,h=>cases h;rw[hk.mO];rfl
   |1,h=>cases h;rfl
   |i+2,h=>simp at h) (λa ha=>by
    simp only[L4,m8,or_false] at ha
    rcases ha with rfl|rfl<;>simp[AV.bnd2,AV.bnd1]) (λo ho=>by
    simp only[L4,m8,or_false] at ho
    rcases ho with rfl|rfl
    ·exact M3 (hk.bnd 2)
    ·simp[AO.bnd,AV.bnd1]) (by
   rintro r bs' ⟨rfl,rfl⟩
   refine⟨rfl,?_⟩
   simp only[T6,hK.mO,List.map_nil,A1C]
   rfl)
 exact this
def A2B(fs:List Fo):List Int:=fs.flatMap Fo.cs
def A7X(xs:List Ex):List Int:=xs.flatMap Q1
def y0(t:Tb):List Int:=t.ks++A2B t.fs++A7X t.xs
theorem B6K{α:Type}(g:α->List Int)(m:Nat):∀(l:List α),(∀x∈l,(g x).length<=m)->(l.flatMap g).length<=l.length*m
 |[],_=>by simp
 |x::l,h=>by
  have:=B6K g m l (λy hy=>h y (by simp[hy]))
  have h1:=h x (by simp)
  rw[A3x,M7,L0,Nat.succ_mul]
  omega
theorem B6M{α:Type}(g:α->List Int){l:List α}{i:Nat}{x:α}(h:l[i]?=some x):(l.take (i+1)).flatMap g=(l.take i).flatMap g++g x:=by
 rw[S0,h,List.flatMap_append]
 simp
theorem B6N{α:Type}(g:α->List Int)(l:List α)(i:Nat)(hl:l.length<=1048576)(h:∀x∈l,(g x).length<=1048576):((l.take i).flatMap g).length<=1099511627776:=by
 have h1:=B6K g 1048576 (l.take i) (λx hx=>h x (A27 hx))
 have h2:(l.take i).length<=1048576:=by rw[P8];omega
 have h3:(l.take i).length*1048576<=1048576*1048576:=X6 _ h2
 omega
def A1t(t:Tb):List (D×AV):=(y0 t).foldl Q4 []
theorem B0L(t:Tb):R2 (y0 t) (A1t t):=by
 have:=R2.nil.adds (y0 t)
 rw[A13] at this
 exact this
theorem C0k(t:Tb)(dc dk df dx:D)(h:O0 t dc dk df dx):B4 Tryz.prog A8H [eT t.nm dc dk df dx] [] (λr os=>r=.mp 1/\os=[.cells [.d (.str t.nm),.d dc,.d dk,.d df,.d dx],.map (A1t t),.cells [.mp 1]]):=by
 have hM:A1t t=(A7X t.xs).foldl Q4 ((A2B t.fs).foldl Q4 (t.ks.foldl Q4 [])):=by unfold A1t y0;rw[A3y,A3y]
 rw[hM]
 obtain⟨n,l,ks,fs,xs⟩:=t
 obtain⟨hn,hl,hls,hk,hfl,hfc,hxs,hxb,hc,hdk,hdf,hdx⟩:=h
 dsimp only at *
 have k0:=R2.nil.adds ks
 rw[A13] at k0
 have kF:∀i,R2 (ks++(fs.take i).flatMap Fo.cs) (((fs.take i).flatMap Fo.cs).foldl Q4 (ks.foldl Q4 [])):=λi=>k0.adds _
 have kX:∀i,R2 (ks++A2B fs++(xs.take i).flatMap Q1) (((xs.take i).flatMap Q1).foldl Q4 ((A2B fs).foldl Q4 (ks.foldl Q4 []))):=λi=>(k0.adds _).adds _
 have lF:∀i,((fs.take i).flatMap Fo.cs).length<=1099511627776:=λi=>B6N _ fs i hfl (λf hf=>(hfc f hf).1)
 have lF0:(A2B fs).length<=1099511627776:=by have:=lF fs.length;rw[List.take_length] at this;exact this
 have lX:∀i,((xs.take i).flatMap Q1).length<=1099511627776:=λi=>B6N _ xs i hxs (λe he=>P3 (B5W e) (hxb e he))
 have hU:=λT rest=>A8i T rest [] [] .nil ks (by simp;omega) dk hdk
 have f1:=A1M fs
 have f2:=A3U fs
 have x1:=I8 xs
 have x2:=P0 xs
 obtain⟨K0,hK0⟩:∃K,K=ks.foldl Q4 []:=⟨_,rfl⟩
 rw[<- hK0] at kF kX hU k0 ⊢
 refine C29.goO A6 rfl ?_
 repeat' first|refine st ?_|((with_reducible first|apply I6|apply D5);(·exact hU _ _);(try rintro _ _ ⟨rfl,rfl⟩))|((with_reducible apply I7);(·exact hU _ _))|((with_reducible apply H6);refine st ?_;(with_reducible apply I5);(·exact rfl);refine st ?_;(with_reducible apply D5);(·exact hU _ _);(try rintro _ _ ⟨rfl,rfl⟩))|(with_reducible first|apply A5|apply A4)<;>intro _
 refine G6 A6 C4C C3M (λ(i:Nat)=>[.d (eI i)]) (λi=>[.cells [.d (.str n),.d dc,.d dk,.d df,.d dx],.map (((fs.take i).flatMap Fo.cs).foldl Q4 K0),.cells [.mp 1]]) (λi=>i<=fs.length) (λi=>fs.length-i) 0 rfl rfl rfl rfl (λi _=>⟨rfl,(by rw[Y3,Y3,R2.bnd (kF i)];rfl)⟩) rfl (by omega) ?_
 repeat' first|refine st ?_|(with_reducible first|apply A5|apply A4)<;>intro _
 intro i h4
 cases hx:fs[i]? with
 |some f=>
  have hlt:=(B2.1 hx).1
  have hg:=A3T hx
  obtain⟨hf,hft⟩:=hfc f (C3 hx)
  have hsd:=f.sld
  have hFt:=B6M Fo.cs hx
  have hli:=lF i
  have hU:=λT rest=>A8i T rest _ _ (kF i) f.cs (by rw[M7];omega) f.d hsd
  rw[<- A3y,<- hFt] at hU
  obtain⟨nl,cs,tb⟩:=f
  obtain⟨fd,hfd⟩:∃fd,fd=Fo.d ⟨nl,cs,tb⟩:=⟨_,rfl⟩
  have hg:(H9 fs)[i]?=some [Fo.d ⟨nl,cs,tb⟩,.str tb]:=hg
  rw[<- hfd] at hg hU
  obtain⟨K1,hK1⟩:∃K,K=((fs.take i).flatMap Fo.cs).foldl Q4 K0:=⟨_,rfl⟩
  obtain⟨K2,hK2⟩:∃K,K=((fs.take (i+1)).flatMap Fo.cs).foldl Q4 K0:=⟨_,rfl⟩
  rw[<- hK1,<- hK2] at hU
  rw[<- hK1]
  repeat' first|refine st ?_|((with_reducible first|apply I6|apply D5);(·exact hU _ _);(try rintro _ _ ⟨rfl,rfl⟩))|((with_reducible apply I7);(·exact hU _ _))|((with_reducible apply H6);refine st ?_;(with_reducible apply I5);(·exact rfl);refine st ?_;(with_reducible apply D5);(·exact hU _ _);(try rintro _ _ ⟨rfl,rfl⟩))|(with_reducible first|apply A5|apply A4)<;>intro _
  rw[hK2]
  exact⟨i+1,rfl,rfl,rfl,by omega,by omega⟩
 |none=>
  have hge:=E4.1 hx
  rw[P2 hge]
  rw[show fs.flatMap Fo.cs=A2B fs from rfl]
  obtain⟨K1,hK1⟩:∃K,K=(A2B fs).foldl Q4 K0:=⟨_,rfl⟩
  rw[<- hK1] at kX ⊢
  repeat' first|refine st ?_|(with_reducible first|apply A5|apply A4)<;>intro _
  refine G6 A6 C4D C3N (λ(i:Nat)=>[.d (eI i)]) (λi=>[.cells [.d (.str n),.d dc,.d dk,.d df,.d dx],.map (((xs.take i).flatMap Q1).foldl Q4 K1),.cells [.mp 1]]) (λi=>i<=xs.length) (λi=>xs.length-i) 0 rfl rfl rfl rfl (λi _=>⟨rfl,(by rw[Y3,Y3,R2.bnd (kX i)];rfl)⟩) rfl (by omega) ?_
  repeat' first|refine st ?_|(with_reducible first|apply A5|apply A4)<;>intro _
  intro j h5
  cases hy:xs[j]? with
  |some e=>
   have hlt:=(B2.1 hy).1
   have hb:=hxb e (C3 hy)
   have hCo:=C0m e hb
   have hsl:=C8e e
   have hFt:=B6M Q1 hy
   have hli:=lX j
   have hcl:=B5W e
   have hU:=λT rest=>A8i T rest _ _ (kX j) (Q1 e) (by rw[M7,M7];omega) (A3Q e) hsl
   rw[<- A3y,<- hFt] at hU
   obtain⟨dc2,hdc2⟩:∃d,d=A3Q e:=⟨_,rfl⟩
   rw[<- hdc2] at hCo hU
   obtain⟨K2,hK2⟩:∃K,K=((xs.take j).flatMap Q1).foldl Q4 K1:=⟨_,rfl⟩
   obtain⟨K3,hK3⟩:∃K,K=((xs.take (j+1)).flatMap Q1).foldl Q4 K1:=⟨_,rfl⟩
   rw[<- hK2,<- hK3] at hU
   rw[<- hK2]
   obtain⟨o1,n1,v1,m1,l1,a1⟩:=e
   have hg:=y9 (args:=xs) _ _ _ _ _ _ _ hy
   rw[Ex.av_mk] at hCo
   repeat' first|refine st ?_|((with_reducible first|apply A9|apply A8);(·exact hCo))|((with_reducible first|apply I6|apply D5);(·exact hU _ _);(try rintro _ _ ⟨rfl,rfl⟩))|((with_reducible apply I7);(·exact hU _ _))|((with_reducible apply H6);refine st ?_;(with_reducible apply I5);(·exact rfl);refine st ?_;(with_reducible apply D5);(·exact hU _ _);(try rintro _ _ ⟨rfl,rfl⟩))|(with_reducible first|apply A5|apply A4)<;>intro _
   rw[hK3]
   exact⟨j+1,rfl,rfl,rfl,by omega,by omega⟩
  |none=>
   have hge:=E4.1 hy
   rw[P2 hge]
   rw[show xs.flatMap Q1=A7X xs from rfl]
   repeat' first|refine st ?_|(with_reducible first|apply A5|apply A4)<;>intro _
   all_goals exact⟨rfl,rfl⟩
end Go.Proofs
end
section
namespace Go.Proofs
open Go.Bi
structure Ch where
 k:Int
 nm:List UInt8
 to:List UInt8
 co:Co
 df:Vl
abbrev chD(k:Int)(nm to cn:List UInt8)(ck:Int)(cl:Bool)(vk vn:Int)(vs:List UInt8):AV:=.agg [.d (eI k),.d (.str nm),.d (.str to),.d (.str cn),.d (eI ck),.d (.bool cl),.d (eI vk),.d (eI vn),.d (.str vs)]
abbrev Ch.av(c:Ch):AV:=chD c.k c.nm c.to c.co.nm c.co.k c.co.nl c.df.k c.df.n c.df.s
def A3f(c:Ch):Bool:=
 if c.k=1 then !(decide (c.nm=[])&&decide (c.to=[]))
 else !((decide (c.k=3)||decide (c.to=[]))&&(decide (c.co.nm=[])&&decide (c.co.k=0)&&!c.co.nl)&&(decide (c.df.k=0)&&decide (c.df.n=0)&&decide (c.df.s=[])))
theorem C0j(c:Ch):Pure Tryz.prog B4m [c.av] (.d (.bool (A3f c))):=by
 obtain⟨k,nm,to,⟨cn,ck,cl⟩,⟨vk,vn,vs⟩⟩:=c
 obtain⟨q,hq⟩:∃q,q=A3f ⟨k,nm,to,⟨cn,ck,cl⟩,⟨vk,vn,vs⟩⟩:=⟨_,rfl⟩
 rw[<- hq]
 simp only[A3f] at hq
 have r1:nm=nm:=rfl
 have r2:to=to:=rfl
 have r3:cn=cn:=rfl
 have r4:vs=vs:=rfl
 have r5:([]:List UInt8)=[]:=rfl
 refine C28.go A6 rfl ?_
 repeat' first|refine st ?_|(with_reducible first|apply A5|apply A4)<;>intro _
 all_goals (have e1:(0=ck)=(ck=0):=propext eq_comm)
 all_goals (have e2:(0=vk)=(vk=0):=propext eq_comm)
 all_goals (have e3:(0=vn)=(vn=0):=propext eq_comm)
 all_goals first
  |(simp_all;done)
  |(simp_all;simp only[e1,e2,e3,Bool.or_assoc])
def A2c(t:Tb)(c:Ch):Int:=
 if 12<=t.cs.length then 13 else if L6 c.co.nm=false then 1 else if ¬(1<=c.co.k/\c.co.k<=3) then 7 else if 0<=D8 c.co.nm t.cs then 10 else if N6 c.df=false then 8
 else if c.df.k=0/\c.co.nl=false then 12 else if c.df.k≠0/\c.df.k≠c.co.k then 7 else 0
theorem C0i(t:Tb)(dc dk df dx:D)(h:O0 t dc dk df dx)(c:Ch)(hcn:c.co.nm.length<=1048576)(hcv:c.df.s.length<=1048576):Pure Tryz.prog B4l [eT t.nm dc dk df dx,c.av] (.d (eI (A2c t c))):=by
 have hF:=S6 t.nm t.cs h.hl dc dk df dx h.dc c.co.nm
 have hN:=A4E c.co.nm hcn
 have hV:=A4G c.df (by omega)
 have hl:=G8 t.cs
 have hdc:=h.dc
 obtain⟨q,hq⟩:∃q,q=A2c t c:=⟨_,rfl⟩
 rw[<- hq]
 unfold A2c at hq
 obtain⟨f,hf⟩:∃f,f=D8 c.co.nm t.cs:=⟨_,rfl⟩
 obtain⟨nb,hnb⟩:∃f,f=L6 c.co.nm:=⟨_,rfl⟩
 obtain⟨vb,hvb⟩:∃f,f=N6 c.df:=⟨_,rfl⟩
 rw[<- hf] at hF hq
 rw[<- hnb] at hN hq
 rw[<- hvb] at hV hq
 obtain⟨k,nm,to,⟨cn,ck,cl⟩,⟨vk,vn,vs⟩⟩:=c
 obtain⟨es,hes⟩:∃es,es=B3 t.cs:=⟨_,rfl⟩
 rw[<- hes] at hl hdc
 dsimp only at hq hF hN hV
 obtain⟨m0,hm0⟩:∃m,m=t.cs.length:=⟨_,rfl⟩
 rw[<- hm0] at hq hl
 clear hf hnb hvb hes hm0
 refine C27.go A6 rfl ?_
 repeat' first|refine st ?_|((with_reducible first|apply A9|apply A8);(·first|exact hF|exact hN|exact hV))|(with_reducible first|apply A5|apply A4)<;>intro _
 all_goals (rw[hq];clear hq hF hN hV)
 all_goals repeat' split
 all_goals first|rfl|(exfalso;omega)|(exfalso;simp_all;done)|(exfalso;simp_all;omega)
end Go.Proofs
end
section
namespace Go.Proofs
open Go.Bi
theorem B6E(nm:List UInt8):∀(l:List Co)(i:Nat),k7 nm i l=-1\/∃(j:Nat)(c:Co),l[j]?=some c/\c.nm=nm/\k7 nm i l=((i+j:Nat):Int)
 |[],i=>.inl rfl
 |c::l,i=>by
  unfold k7
  by_cases h:c.nm=nm
  ·exact .inr ⟨0,c,rfl,h,by simp[h]⟩
  ·rcases B6E nm l (i+1) with e|⟨j,d,h1,h2,h3⟩
   ·exact .inl (by simp[h,e])
   ·exact .inr ⟨j+1,d,by simpa using h1,h2,by simp only[h,if_false];rw[h3];omega⟩
theorem B6A{nm:List UInt8}{l:List Co}(h:0<=D8 nm l):∃c,l[(D8 nm l).toNat]?=some c/\c.nm=nm:=by
 unfold D8 at *
 rcases B6E nm l 0 with e|⟨j,d,h1,h2,h3⟩
 ·omega
 ·exact⟨d,by rw[h3];simpa using h1,h2⟩
def A0D(t:Tb)(i:Int):Int:=match t.cs[i.toNat]? with
 |some c=>c.k
 |none=>0
def A3O(t:Tb)(c:Ch):Int:=
 if D8 c.nm t.cs<0 then 11 else if c.k≠3/\0<(y0 t).count (D8 c.nm t.cs) then 25 else if c.k=4/\A0D t (D8 c.nm t.cs)=2 then 7
 else if c.k=3/\L6 c.to=false then 1 else if c.k=3/\0<=D8 c.to t.cs then 10 else 0
def D7(t:Tb)(c:Ch):Int:=
 if H8 t≠0 then H8 t else if ¬(1<=c.k/\c.k<=4) then 7 else if A3f c then 8 else if c.k=1 then A2c t c else A3O t c
structure I1(c:Ch):Prop where
 nm:c.nm.length<=1048576
 to:c.to.length<=1048576
 cn:c.co.nm.length<=1048576
 vs:c.df.s.length<=1048576
theorem C1n(t:Tb)(dc dk df dx:D)(h:O0 t dc dk df dx):B4 Tryz.prog A8H [eT t.nm dc dk df dx] [] (λr os=>(∀n,x7 n r=.mp (1+n))/\∀n,os.map (U2 n)=[.cells [.d (.str t.nm),.d dc,.d dk,.d df,.d dx],.map (A1t t),.cells [.mp (1+n)]]):=by
 refine(C0k t dc dk df dx h).mono ?_
 rintro r os ⟨rfl,rfl⟩
 refine⟨λn=>rfl,λn=>?_⟩
 have e:(A1t t).map (λp=>(p.1,shG n p.2))=A1t t:=by
  conv=>rhs;rw[<- w4 (A1t t)]
  refine S7 λp hp=>?_
  obtain⟨a,b,rfl⟩:=(B0L t).ks p hp
  rfl
 show[_,AO.map ((A1t t).map λp=>(p.1,shG n p.2)),_]=_
 rw[e]
 rfl
theorem U3(t:Tb)(dc dk df dx:D)(h:O0 t dc dk df dx)(c:Ch)(hc:I1 c):Pure Tryz.prog B4j [eT t.nm dc dk df dx,c.av] (.d (eI (D7 t c))):=by
 have hT:=A6v t dc dk df dx h
 have hS:=C0j c
 have hA:=C0i t dc dk df dx h c hc.cn hc.vs
 have hF:=S6 t.nm t.cs h.hl dc dk df dx h.dc c.nm
 have hG:=S6 t.nm t.cs h.hl dc dk df dx h.dc c.to
 have hN:=A4E c.to hc.to
 have hU:=C1n t dc dk df dx h
 have hl:=G8 t.cs
 have hme:=I3 t.cs
 have hdc:=h.dc
 obtain⟨q,hq⟩:∃q,q=D7 t c:=⟨_,rfl⟩
 rw[<- hq]
 unfold D7 A3O at hq
 have hfs:=λhh=>B6A (nm:=c.nm) (l:=t.cs) hh
 have hm:=(B0L t).str
 have hlk:=(B0L t).lk (D8 c.nm t.cs)
 have hcnt:∃n:Nat,n=(y0 t).count (D8 c.nm t.cs):=⟨_,rfl⟩
 obtain⟨n0,hn0⟩:=hcnt
 rw[<- hn0] at hlk hq
 obtain⟨f,hf⟩:∃f,f=D8 c.nm t.cs:=⟨_,rfl⟩
 rw[<- hf] at hF hq hlk hfs
 obtain⟨g,hg⟩:∃f,f=D8 c.to t.cs:=⟨_,rfl⟩
 rw[<- hg] at hG hq
 obtain⟨nb,hnb⟩:∃f,f=L6 c.to:=⟨_,rfl⟩
 rw[<- hnb] at hN hq
 obtain⟨sb,hsb⟩:∃f,f=A3f c:=⟨_,rfl⟩
 rw[<- hsb] at hS hq
 obtain⟨ae,hae⟩:∃f,f=A2c t c:=⟨_,rfl⟩
 rw[<- hae] at hA hq
 obtain⟨te,hte⟩:∃f,f=H8 t:=⟨_,rfl⟩
 rw[<- hte] at hT hq
 obtain⟨kvs,hkvs⟩:∃f,f=A1t t:=⟨_,rfl⟩
 rw[<- hkvs] at hU hm hlk
 have m1:l6 .i (eI f) kvs:=A5T _ _ hm
 have hix:0<=f->∃s k b,(B3 t.cs)[f.toNat]?=some [.str s,eI k,.bool b]/\A0D t f=k/\f<t.cs.length:=by
  intro hh
  obtain⟨d,h1,h2⟩:=hfs hh
  have h3:=(B2.1 h1).1
  exact⟨d.nm,d.k,d.nl,M8 h1,by unfold A0D;rw[h1],by omega⟩
 obtain⟨k,nm,to,⟨cn,ck,cl⟩,⟨vk,vn,vs⟩⟩:=c
 obtain⟨es,hes⟩:∃es,es=B3 t.cs:=⟨_,rfl⟩
 rw[<- hes] at hl hdc hix hme
 obtain⟨ka,hka⟩:∃x,x=A0D t f:=⟨_,rfl⟩
 rw[<- hka] at hq hix
 obtain⟨m0,hm0⟩:∃m,m=t.cs.length:=⟨_,rfl⟩
 rw[<- hm0] at hl hix
 dsimp only at hq hF hG hN hS hA hT
 clear hfs hf hg hnb hsb hae hte hkvs hm hn0 hes hka hm0 hc h
 by_cases hf0:f<0
 ·clear hix
  refine B1x.go A6 rfl ?_
  repeat' first|refine st ?_|((with_reducible first|apply A9|apply A8);(·first|exact hF|exact hN|exact hG|exact hS|exact hA|exact hT))|(with_reducible first|apply A5|apply A4)<;>intro _
  all_goals (rw[hq];clear hq hF hN hG hS hA hT hU)
  all_goals (try dsimp only at *)
  all_goals repeat' split
  all_goals first|rfl|(exfalso;omega)|(exfalso;simp_all;done)|(exfalso;simp_all;omega)
 ·obtain⟨s,kk,b,hgt,rfl,hlt⟩:=hix (by omega)
  have hf1:0<=f:=by omega
  refine B1x.go A6 rfl ?_
  repeat' first|refine st ?_|((with_reducible apply I6);(· exact hU);(intro _ _ hr);(rw[hr.1,hr.2]))|((with_reducible first|apply A9|apply A8);(·first|exact hF|exact hN|exact hG|exact hS|exact hA|exact hT))|(with_reducible first|apply A5|apply A4)<;>intro _
  all_goals (rw[hq];clear hq hF hN hG hS hA hT hU)
  all_goals (try dsimp only at *)
  all_goals repeat' split
  all_goals first|rfl|(exfalso;omega)|(exfalso;simp_all;done)|(exfalso;simp_all;omega)
end Go.Proofs
end
