/- Texts of this claim, joined. No condition. -/
import Derived.Test.YtfnaleemmeejcaaGreatQ2
import Derived.Test.YtfnaleemmeejcaaGreatBi
import Derived.Shelf.Sort.Plain
import Derived.Shelf.Slices.In.SortNone
import Derived.Shelf.Slices.CompactI
set_option linter.unusedSimpArgs false
set_option linter.unusedVariables false
set_option maxRecDepth 10000
set_option maxHeartbeats 4000000
section
namespace Go.Bi
open Go Go.Proofs Go.Sort Go.Shelf
section
variable {P:Program}{M:Mem}{G:Gh}{os:List AO}{w w':World}
theorem OR.live_lt(he:Env M G os w){id:Nat}{o:AO}(ho:os[id]?=some o)(hl:o.live=true):G.blk id<w.heap.size:=he.lt ⟨o,ho,hl⟩
theorem since_ext(hsys:w'.os=w.os)(htape:w'.tape=w.tape)(hout:w'.output=w.output)(hsz:w.heap.size<=w'.heap.size)(hh:∀b,b<w.heap.size->w'.heap[b]?=w.heap[b]?):Since M G os w M G os w' where
 sys:=hsys
 tape:=htape
 output:=hout
 size:=hsz
 frame:=λb hb _=>hh b hb
 grow:=λ_ _ h=>h
 fresh:=λ_ _ h=>.inl h
 own:=λi h=>.inr ⟨i,h,rfl⟩
 keep:=λi o h=>(Since.refl M G os w).keep i o h
theorem env_ext(he:Env M G os w)(hsys:w'.os=w.os)(htape:w'.tape=w.tape)(hout:w'.output=w.output)(hsz:w.heap.size<=w'.heap.size)(hh:∀b,b<w.heap.size->w'.heap[b]?=w.heap[b]?):Env M G os w' where
 mem:=λa v h=>by
  have h1:=he.mem a v h
  have hlt:a.block<w.heap.size:=by
   unfold World.cell? at h1
   cases hb:w.heap[a.block]? with
   |none=>rw[hb] at h1;cases h1
   |some o=>exact(Array.getElem?_eq_some_iff.1 hb).1
  rw[World.cell?_of_block (w:=w) (hh _ hlt)]
  exact h1
 obj:=λi x hx=>by
  have hold:=he.obj i x hx
  by_cases hlv:x.live=true
  ·exact OR.since (since_ext hsys htape hout hsz hh) hold rfl rfl (hh _ (OR.live_lt he hx hlv)) (λ_ _=>rfl)
  ·cases x with
   |cells cs=>exact absurd rfl hlv
   |iter s p=>exact absurd rfl hlv
   |hole=>trivial
   |map kvs=>exact absurd rfl hlv
   |mit m n s=>exact absurd rfl hlv
   |arr es sz frz nl=>
    cases nl with
    |false=>exact absurd rfl hlv
    |true=>exact⟨hold.1,hold.2.1,hold.2.2.1,hold.2.2.2.1,λh=>by cases h⟩
   |rarr es sz nl=>
    cases nl with
    |false=>exact absurd rfl hlv
    |true=>exact⟨hold.1,hold.2.1,hold.2.2.1,λh=>by cases h⟩
 inj:=he.inj
 sep:=he.sep
 glb:=glb_since (since_ext (M:=M) (G:=G) (os:=os) hsys htape hout hsz hh) he.glb
def ints(zs:List Int):List (List D):=zs.map λz=>[.int .i64 z]
theorem ints_len(zs:List Int):(ints zs).length=zs.length:=by simp[ints]
theorem ints_sz(zs:List Int):∀e∈ints zs,e.length=1:=by
 intro e he
 obtain⟨z,_,rfl⟩:=List.mem_map.1 he
 rfl
theorem mapBlock_other(blk:Nat)(f:Array Value->Array Value)(b:Nat)(h:b≠blk):(mapBlock w blk f).heap[b]?=w.heap[b]?:=by
 unfold mapBlock
 simp only[Array.getElem?_modify]
 rw[if_neg (Ne.symm h)]
theorem row_env(he:Env M G os w){id:Nat}{zs ys:List Int}(ho:os[id]?=some (.arr (ints zs) 1 0 false))(hlen:ys.length=zs.length)(n:Nat) :
  Env M G (os.set id (.arr (ints ys) 1 0 false)) (putRow (Value.int .i64) (Sort.ahead w n) (G.blk id) 0 ys.toArray)/\Since M G os w M G (os.set id (.arr (ints ys) 1 0 false)) (putRow (Value.int .i64) (Sort.ahead w n) (G.blk id) 0 ys.toArray):=by
 obtain⟨h1,h2,h3,h4,h5⟩:=he.obj id _ ho
 obtain⟨ca,t,h6,h7,h8,h9,h10,h11⟩:=h5 rfl
 have hlt:=(List.getElem?_eq_some_iff.1 ho).1
 have hno:∀a v,M a=some v->a.block=G.blk id->False:=λa v ha hb=>by
  obtain⟨es',sz',frz',nl',h12,h13⟩:=he.sep id a v (Live.arr ho) ha hb
  rw[ho] at h12
  cases h12
  omega
 have hk:Keeps G G id (os.set id (.arr (ints ys) 1 0 false)) (.arr (ints zs) 1 0 false):=⟨ints ys,0,false,by simp[hlt],by rw[ints_len,ints_len];omega,λ_=>⟨rfl,rfl,rfl⟩⟩
 have hoth:∀b,b≠G.blk id->(putRow (Value.int .i64) (Sort.ahead w n) (G.blk id) 0 ys.toArray).heap[b]?=w.heap[b]?:=λb hb=>mapBlock_other _ _ b hb
 have hs:=since_upd he (w':=putRow (Value.int .i64) (Sort.ahead w n) (G.blk id) 0 ys.toArray) (M':=M) ho rfl rfl rfl rfl (by simp) hoth (λ_ _ h=>h) (λ_ _ h=>.inl h) hk
 refine⟨env_upd he ho rfl rfl rfl rfl (by simp) hoth (λ_ _ h=>h) (λ_ _ h=>.inl h) hk (λ_ _=>rfl) (λa v ha hb=>(hno a v ha hb).elim) (λa v ha hb=>(hno a v ha hb).elim) ?_,hs⟩
 rw[ints_len] at h8
 refine⟨h1,ints_sz ys,Nat.zero_le _,λh=>(by cases h),λ_=>⟨putCells (Value.int .i64) 0 ys.toArray ca,t,?_,?_,?_,h9,λi j e x hi hj=>?_,λo ho=>(by omega)⟩⟩
 ·show(mapBlock (Sort.ahead w n) (G.blk id) _).heap[G.blk id]?=_
  unfold mapBlock
  simp only[Array.getElem?_modify,if_true]
  show Option.map _ w.heap[G.blk id]?=_
  rw[h6];rfl
 ·unfold putCells
  rw[Array.size_mapIdx,h7]
 ·rw[ints_len];omega
 ·obtain⟨z,hz,rfl⟩:∃z,ys[i]?=some z/\e=[.int .i64 z]:=by
   unfold ints at hi
   rw[List.getElem?_map] at hi
   cases hy:ys[i]? with
   |none=>rw[hy] at hi;cases hi
   |some z=>rw[hy] at hi;cases hi;exact⟨z,rfl,rfl⟩
  have hil:=(List.getElem?_eq_some_iff.1 hz).1
  cases j with
  |succ j=>cases hj
  |zero=>
   cases hj
   refine⟨.int .i64 z,?_,.int _ _⟩
   unfold putCells
   have hic:i*1+0<ca.size:=by rw[h7];omega
   rw[Array.getElem?_mapIdx,Array.getElem?_eq_getElem hic,Option.map_some,if_pos (by simp;omega)]
   have:ys.toArray[i*1+0-0]! = z:=by
    have e:i*1+0-0=i:=by omega
    rw[e,getElem!_pos _ i (by simpa using hil)]
    simpa using(List.getElem?_eq_some_iff.1 hz).2
   rw[this]
theorem row_holds(he:Env M G os w){id:Nat}{zs:List Int}(ho:os[id]?=some (.arr (ints zs) 1 0 false)):Holds (Value.int .i64) w (G.blk id) 0 zs.toArray:=by
 obtain⟨h1,h2,h3,h4,h5⟩:=he.obj id _ ho
 obtain⟨ca,t,h6,h7,h8,h9,h10,h11⟩:=h5 rfl
 intro j hj
 have hj':j<zs.length:=by simpa using hj
 have hz:(ints zs)[j]?=some [.int .i64 zs[j]]:=by unfold ints;rw[List.getElem?_map,List.getElem?_eq_getElem hj'];rfl
 obtain⟨u,hu,hr⟩:=h10 j 0 _ _ hz rfl
 cases hr
 rw[Nat.mul_one,Nat.add_zero] at hu
 refine⟨?_,?_⟩
 ·have:zs.toArray[j]! = zs[j]:=by rw[getElem!_pos _ j hj];simp
  rw[this,Nat.zero_add]
  unfold World.cell?
  rw[h6]
  simpa using hu
 ·unfold World.frozen?
  rw[h6]
  simp
theorem freeze_pre(he:Env M G os w){id m:Nat}{es:List (List D)}{sz:Nat}(ho:os[id]?=some (.arr es sz 0 false))(hm:m<=es.length) :
  Env (Mem.with M w (G.blk id) (m*sz)) G (os.set id (.arr es sz m false)) w/\
  Since M G os w (Mem.with M w (G.blk id) (m*sz)) G (os.set id (.arr es sz m false)) w/\
  Rd (Mem.with M w (G.blk id) (m*sz)) (.sl (es.take m)) (.slice (some ⟨G.blk id,0,none⟩) m (G.cap id)):=by
 obtain⟨h1,h2,h3,h4,h5⟩:=he.obj id _ ho
 obtain⟨ca,t,h6,h7,h8,h9,h10,h11⟩:=h5 rfl
 have hlt:=(List.getElem?_eq_some_iff.1 ho).1
 have hgrow:∀x v,M x=some v->Mem.with M w (G.blk id) (m*sz) x=some v:=λx v hx=>by
  unfold Mem.with
  split
  ·exact he.mem x v hx
  ·exact hx
 have hnew:∀x v,Mem.with M w (G.blk id) (m*sz) x=some v->M x=some v\/x.block=G.blk id:=λx v hx=>by
  unfold Mem.with at hx
  split at hx
  ·rename_i hc;exact .inr hc.1
  ·exact .inl hx
 have hk:Keeps G G id (os.set id (.arr es sz m false)) (.arr es sz 0 false):=⟨es,m,false,by simp[hlt],Nat.le_refl _,λ_=>⟨rfl,rfl,rfl⟩⟩
 have hs:=since_upd he (w':=w) ho rfl rfl rfl rfl rfl (λ_ _=>rfl) hgrow hnew hk
 have hcl:∀o,o<m*sz->Mem.with M w (G.blk id) (m*sz) ⟨G.blk id,o,none⟩=ca[o]?:=λo ho=>by
  unfold Mem.with
  rw[if_pos ⟨rfl,rfl,ho⟩]
  simp[World.cell?,h6]
 refine⟨env_upd he ho rfl rfl rfl rfl rfl (λ_ _=>rfl) hgrow hnew hk (λx hx=>?_) (λx v hx hb=>?_) (λx v hx hb=>?_) ?_,hs,?_⟩
 ·unfold Mem.with
  rw[if_neg (λhc=>hx hc.1)]
 ·unfold Mem.with at hx
  split at hx
  ·exact hx
  ·exact he.mem x v hx
 ·refine⟨_,_,_,_,rfl,?_⟩
  unfold Mem.with at hx
  split at hx
  ·rename_i hc;exact hc.2.2
  ·obtain⟨es',sz',frz',nl',h12,h13⟩:=he.sep id x v (Live.arr ho) hx hb
   rw[ho] at h12
   cases h12
   omega
 ·refine⟨h1,h2,hm,λh=>(by cases h),λ_=>⟨ca,t,h6,h7,h8,h9,λi j e x hi hj=>?_,hcl⟩⟩
  obtain⟨u,hu,hr⟩:=h10 i j e x hi hj
  exact⟨u,hu,hr.mono hgrow⟩
 ·have hlen:(es.take m).length=m:=by rw[List.length_take];omega
  have key:Rd (Mem.with M w (G.blk id) (m*sz)) (.sl (es.take m)) (.slice (some ⟨G.blk id,0,none⟩) (es.take m).length (G.cap id)):=by
   refine Rd.sl (es.take m) (G.blk id) 0 (G.cap id) sz (λi j=>(ca[i*sz+j]?).getD undef) (by omega) (λe hx=>h2 e (List.mem_of_mem_take hx)) (λi j hi hj=>?_) (λi j e d hi hj=>?_)
   ·rw[hlen] at hi
    rw[Nat.zero_add,hcl _ (idx_lt hi hj)]
    have hsz:i*sz+j<ca.size:=by
     rw[h7]
     exact Nat.lt_of_lt_of_le (idx_lt hi hj) (Nat.mul_le_mul_right _ (by omega))
    simp[hsz]
   ·have hil:=(List.getElem?_eq_some_iff.1 hi).1
    rw[List.getElem?_take,if_pos (by omega)] at hi
    obtain⟨u,hu,hr⟩:=h10 i j e d hi hj
    simp only[hu,Option.getD_some]
    exact hr.mono hgrow
  rwa [hlen] at key
theorem sort_own{ρ:Ren}(L:Lays.n189 P ρ)(he:Enters P (ρ.f 189))(zs:List Int)(nl:Bool)(hz:zs.length<4611686018427387904) :
  CallSpec P (ρ.f 189) [.arr 0 (ints zs).length] [.arr (ints zs) 1 0 nl] (λr os'=>r=.tup []/\os'=[.arr (ints (zs.mergeSort λx y=>decide (x<=y))) 1 0 nl]):=by
 refine⟨he,λM G w vs hE hl hv=>?_⟩
 obtain⟨v,rfl⟩:∃v,vs=#[v]:=by
  obtain⟨l⟩:=vs
  match l,hl with
  |[x],_=>exact⟨x,rfl⟩
 have hval:=hv 0 _ v rfl rfl
 obtain⟨h0,es,sz,frz,nl',h1,h2,h3⟩:=hval
 cases h1
 have hv:=h3 rfl
 subst hv
 unfold Gh.slv
 cases nl with
 |true=>
  have hnil:ints zs=[]:=(hE.obj 0 _ rfl).2.2.2.1 rfl
  have hzs:zs=[]:=by unfold ints at hnil;simpa using hnil
  subst hzs
  rw[if_pos rfl]
  refine(Any.slices_Sort_int_none L none 0 w).mono ?_
  rintro e w' ⟨rfl,rfl⟩
  exact⟨_,rfl,M,G,.tup [],_,hE,Since.refl ..,⟨#[],rfl,rfl,by simp⟩,rfl,by simp⟩
 |false=>
  rw[if_neg (by decide),ints_len]
  have hlt:=OR.live_lt hE (id:=0) rfl rfl
  refine(Any.slices_Sort_int L (G.blk 0) 0 (G.cap 0) zs w (row_holds hE (id:=0) rfl) hlt hz).mono ?_
  rintro e w' ⟨rfl,n,xs,rfl⟩
  obtain⟨e1,s1⟩:=row_env hE (id:=0) (ys:=zs.mergeSort λx y=>decide (x<=y)) rfl (by simp) n
  have hh:∀b,b<(putRow (Value.int .i64) (Sort.ahead w n) (G.blk 0) 0 (zs.mergeSort λx y=>decide (x<=y)).toArray).heap.size->(grow (putRow (Value.int .i64) (Sort.ahead w n) (G.blk 0) 0 (zs.mergeSort λx y=>decide (x<=y)).toArray) xs).heap[b]?=(putRow (Value.int .i64) (Sort.ahead w n) (G.blk 0) 0 (zs.mergeSort λx y=>decide (x<=y)).toArray).heap[b]?:=λb hb=>by
   unfold grow
   exact Array.getElem?_append_left hb
  refine⟨_,rfl,M,G,.tup [],_,env_ext e1 rfl rfl rfl (by simp[grow]) hh,s1.trans (since_ext rfl rfl rfl (by simp[grow]) hh),⟨#[],rfl,rfl,by simp⟩,rfl,rfl⟩
theorem compact_len(zs:List Int):(Lib.compact zs).length<=zs.length:=by
 unfold Lib.compact Lib.compactUpTo
 rw[List.length_map]
 exact Nat.le_trans (List.length_filter_le _ _) (by simp)
theorem compact_own{ρ:Ren}(L:Lays2.n20 P ρ)(he:Enters P (ρ.f 20))(zs:List Int)(nl:Bool)(hz:zs.length<=9223372036854775807) :
  CallSpec P (ρ.f 20) [.arr 0 (ints zs).length] [.arr (ints zs) 1 0 nl] (λr os'=>r=.d (if nl then .nil else .sl (ints (Lib.compact zs)))/\os'=[.arr (ints (Lib.compact zs++List.replicate (zs.length-(Lib.compact zs).length) 0)) 1 (if nl then 0 else (Lib.compact zs).length) nl]):=by
 refine⟨he,λM G w vs hE hl hv=>?_⟩
 obtain⟨v,rfl⟩:∃v,vs=#[v]:=by
  obtain⟨l⟩:=vs
  match l,hl with
  |[x],_=>exact⟨x,rfl⟩
 have hval:=hv 0 _ v rfl rfl
 obtain⟨h0,es,sz,frz,nl',h1,h2,h3⟩:=hval
 cases h1
 have hv:=h3 rfl
 subst hv
 unfold Gh.slv
 cases nl with
 |true=>
  have hnil:ints zs=[]:=(hE.obj 0 _ rfl).2.2.2.1 rfl
  have hzs:zs=[]:=by unfold ints at hnil;simpa using hnil
  subst hzs
  rw[if_pos rfl]
  refine(Any.slices_Compact_int_empty L none 0 w).mono ?_
  rintro e w' ⟨rfl,rfl⟩
  exact⟨_,rfl,M,G,.d .nil,_,hE,Since.refl ..,Rd.nil,rfl,rfl⟩
 |false=>
  rw[if_neg (by decide),ints_len]
  obtain⟨h1,h2,h3,h4,h5⟩:=hE.obj 0 _ rfl
  obtain⟨ca,t,h6,h7,h8,h9,h10,h11⟩:=h5 rfl
  rw[ints_len] at h8
  refine(Any.slices_Compact_int L (G.blk 0) 0 (G.cap 0) zs w (row_holds hE (id:=0) rfl) hz h8).mono ?_
  rintro e w' ⟨rfl,n,rfl⟩
  have hcl:=compact_len zs
  have hlen:(Lib.compact zs++List.replicate (zs.length-(Lib.compact zs).length) 0).length=zs.length:=by simp;omega
  obtain⟨e1,s1⟩:=row_env hE (id:=0) (ys:=Lib.compact zs++List.replicate (zs.length-(Lib.compact zs).length) 0) rfl hlen n
  obtain⟨e2,s2,r2⟩:=freeze_pre e1 (id:=0) (m:=(Lib.compact zs).length) rfl (by rw[ints_len,hlen];exact hcl)
  refine⟨_,rfl,_,G,.d (.sl (ints (Lib.compact zs))),_,e2,s1.trans s2,?_,rfl,rfl⟩
  have ht:(ints (Lib.compact zs++List.replicate (zs.length-(Lib.compact zs).length) 0)).take (Lib.compact zs).length=ints (Lib.compact zs):=by
   unfold ints
   rw[<- List.map_take,List.take_left]
  rw[ht] at r2
  exact r2
end
theorem weak_frz{n nb:Nat}{ρ:Rho}{os:List AO}(t:Nat){id len sz frz:Nat}{nl:Bool}{es:List (List D)}(ht:ρ t=.arr id len)(ho:os[id]?=some (.arr es sz frz nl))(hl:len=es.length) :
  Weak n nb ρ os (upd t (.d (if nl then .nil else .sl es)) ρ) (os.set id (.arr es sz es.length nl)):=by
 intro c M G w a hR
 have hv:=hR.tmps t
 rw[ht] at hv
 obtain⟨M1,h1,h2,h3⟩:=frzC_ok hR.env (c:=.arr id len) (x:=if nl then .nil else .sl es) (os1:=os.set id (.arr es sz es.length nl)) (by unfold frzC;dsimp only;rw[ho];dsimp only;rw[if_pos hl]) hv
 exact⟨M1,G,{
  env:=h1,since:=hR.since.trans h2,size:=hR.size,defers:=hR.defers,base:=hR.base
  tmps:=λs=>by
   have hs:=(hR.tmps s).since h2
   unfold upd
   split
   ·rename_i h
    subst h
    exact h3
   ·exact hs}⟩
end Go.Bi
end
section
namespace Go.Proofs
open Go.Bi
theorem C.r21_repeat(es:List (List D))(hm:∀e∈es,e.length=1)(nl:Bool)(rd:D)(k:Int)(hk:es.length+k.toNat<=4194304) :
  CallSpec Tryz.prog N.bt_ref21_repeat [.arr 0 es.length,.d rd,.d (eI k)] [.arr es 1 0 nl] (λr os=>r=.arr 0 (es++List.replicate k.toNat [rd]).length/\os=[.arr (es++List.replicate k.toNat [rd]) 1 0 (nl&&decide (k<=0))]):=by
 refine F.bt_ref21_repeat.goO mixed rfl ?_
 repeat' first|refine st ?_|((with_reducible apply go_i);conv=>whnf)|refine⟨λ_=>?_,λ_=>?_⟩|fail
 refine x_loop2 mixed Lt.bt_ref21_repeat_l0 Lk.bt_ref21_repeat_l0 (λ(i:Nat) (w:List (List D))=>[.arr 0 w.length,.d (eI i)]) (λi w=>[.arr w 1 0 (nl&&decide (i=0))]) (λi w=>i<=k.toNat/\w=es++List.replicate i [rd]) (λi w=>k.toNat-i) 0 es rfl rfl rfl (by cases nl<;>rfl) (λ_ _ _=>⟨rfl,rfl⟩) rfl ⟨Nat.zero_le _,by simp⟩ ?_
 repeat' first|refine st ?_|((with_reducible apply go_i);conv=>whnf)|refine⟨λ_=>?_,λ_=>?_⟩|fail
 intro i w ⟨i1,i2⟩
 have hwl:w.length=es.length+i:=by rw[i2];simp
 have hwm:∀e∈w,e.length=1:=by
  rw[i2]
  intro e he
  rcases List.mem_append.1 he with he|he
  ·exact hm e he
  ·rw[(List.mem_replicate.1 he).2];rfl
 have hbd:(w.length+1)*24<=140737488355328:=by omega
 by_cases h:i<k.toNat
 ·have hil:(i:Int)<k:=by omega
  have i3:w++[[rd]]=es++List.replicate (i+1) [rd]:=by rw[i2,List.replicate_succ',List.append_assoc]
  clear i2
  repeat' first|refine st ?_|((with_reducible apply go_i);conv=>whnf)|refine⟨λ_=>?_,λ_=>?_⟩|fail
  refine⟨i+1,w++[[rd]],?_,rfl,?_,by omega,by omega,i3⟩
  ·simp
  ·simp
 ·have hil:k<=i:=by omega
  have hik:i=k.toNat:=by omega
  have i3:es++List.replicate k.toNat [rd]=w:=by rw[i2,hik]
  have hz:decide (i=0)=decide (k<=0):=by
   by_cases h0:k<=0
   ·rw[decide_eq_true h0,decide_eq_true (by omega)]
   ·rw[decide_eq_false h0,decide_eq_false (by omega)]
  rw[i3,hz]
  clear i2
  repeat' first|refine st ?_|((with_reducible apply go_i);conv=>whnf)|refine⟨λ_=>?_,λ_=>?_⟩|fail
  all_goals exact⟨rfl,rfl⟩
theorem sld_slD'{b:Bool}{es:List (List D)}(h:b=true->es=[]):SlD (slD b es) es:=by
 unfold slD
 cases b with
 |true=>exact .inl ⟨rfl,h rfl⟩
 |false=>exact .inr rfl
theorem vCmp_eq{v w:Vl}:vCmp v w=0↔v=w:=by
 obtain⟨a,b,s⟩:=v
 obtain⟨c,d,t⟩:=w
 have h3:=(cmpB_less s t).2.2.1
 unfold vCmp or3
 constructor
 ·intro h
  by_cases h1:cmpI a c=0
  ·by_cases h2:cmpI b d=0
   ·have h4:cmpB s t=0:=by
     simp[h1,h2] at h;exact h
    rw[cmpI_eq.1 h1,cmpI_eq.1 h2,h3.1 h4]
   ·simp[h1,h2] at h
  ·simp[h1] at h
 ·intro h
  cases h
  have h1:cmpI a a=0:=cmpI_eq.2 rfl
  have h2:cmpI b b=0:=cmpI_eq.2 rfl
  have h4:cmpB s s=0:=h3.2 rfl
  simp[h1,h2,h4]
theorem cmpR_eq:∀{a b:Row},cmpR a b=0↔a=b
 |[],[]=>by simp[cmpR]
 |[],w::s=>by simp[cmpR]
 |v::r,[]=>by simp[cmpR]
 |v::r,w::s=>by
  have ih:=@cmpR_eq r s
  rw[cmpR]
  by_cases h:vCmp v w=0
  ·rw[if_pos h,ih,vCmp_eq.1 h];simp
  ·rw[if_neg h]
   constructor
   ·intro g;exact absurd g h
   ·intro g;cases g;exact absurd (vCmp_eq.2 rfl) h
def cntAdd(w:List (Row×Nat))(x:Row):List (Row×Nat):=match w.getLast? with
 |some p=>if cmpR p.1 x=0 then w.dropLast++[(p.1,p.2+1)] else w++[(x,1)]
 |none=>[(x,1)]
def cntL(l:List Row):List (Row×Nat):=l.foldl cntAdd []
abbrev cR(w:List (Row×Nat)):List (List D):=rD (w.map Prod.fst)
abbrev cN(w:List (Row×Nat)):List (List D):=eIs (w.map λp=>(p.2:Int))
theorem cntAdd_snoc(u:List (Row×Nat))(p x:Row)(n:Nat):cntAdd (u++[(p,n)]) x=if cmpR p x=0 then u++[(p,n+1)] else u++[(p,n)]++[(x,1)]:=by
 unfold cntAdd
 rw[List.getLast?_append]
 simp
theorem foldl_take{β:Type}{f:β->Row->β}{l:List Row}{i:Nat}{x:Row}(b:β)(h:l[i]?=some x):(l.take (i+1)).foldl f b=f ((l.take i).foldl f b) x:=by
 rw[List.take_add_one,h,List.foldl_append];rfl
theorem cnt_idx(B:List (List D))(y:List D):(((B++[y]).length:Int)-1).toNat=B.length:=by
 rw[List.length_append];simp
theorem cnt_new(w:List (Row×Nat))(x:Row):(cN w++[[D.int .i64 0]]).set ((((cN w++[[D.int .i64 0]]).length:Int)-1).toNat) [D.int .i64 (0+1)]=cN (w++[(x,1)]):=by
 rw[cnt_idx,List.set_append_right _ _ (Nat.le_refl _),Nat.sub_self]
 simp[cN,eIs]
theorem cnt_more(u:List (Row×Nat))(p:Row)(n:Nat):(cN (u++[(p,n)])).set (((cN (u++[(p,n)])).length:Int)-1).toNat [D.int .i64 ((n:Int)+1)]=cN (u++[(p,n+1)]):=by
 have e:∀m:Nat,cN (u++[(p,m)])=cN u++[[eI m]]:=λm=>by simp[cN,eIs]
 rw[e,e,cnt_idx,List.set_append_right _ _ (Nat.le_refl _),Nat.sub_self]
 simp
theorem C.r21_counted(l:List Rw)(hl:l.length<=4194304)(hr:∀r∈l,r.vs.length<=4194304)(d:D)(hd:SlD d (eRs l)) :
  ∃d1 d2:D,SlD d1 (cR (cntL (ordR (vsR l))))/\SlD d2 (cN (cntL (ordR (vsR l))))/\Pure Tryz.prog N.bt_ref21_counted [.d d] (.tup [.d d1,.d d2]):=by
 have hO:=C.r8_Sort l hl hr d hd
 have hvl:(vsR l).length=l.length:=by unfold vsR;rw[List.length_map]
 have hol:=ordR_len _ (vsR l) (Nat.le_refl _)
 have hor:∀r∈ordR (vsR l),r.length<=4194304:=λr h=>by
  obtain⟨x,hx,rfl⟩:=List.mem_map.1 (ordR_mem _ _ (Nat.le_refl _) r h)
  exact hr x hx
 obtain⟨Z,hZ⟩:∃z,z=ordR (vsR l):=⟨_,rfl⟩
 rw[<- hZ] at hO hol hor ⊢
 have l1:=rD_len Z
 have m1:=rD_mem Z
 have g1:=λi v=>@rD_get Z i v
 obtain⟨es,hes⟩:∃z,z=rD Z:=⟨_,rfl⟩
 rw[<- hes] at hO l1 m1 g1
 clear hes hZ hd hr
 obtain⟨q,hq⟩:∃q,q=cntL Z:=⟨_,rfl⟩
 rw[<- hq]
 refine⟨slD (cR q).isEmpty (cR q),slD (cN q).isEmpty (cN q),sld_slD' λe=>List.isEmpty_iff.1 e,sld_slD' λe=>List.isEmpty_iff.1 e,?_⟩
 refine F.bt_ref21_counted.go mixed rfl ?_
 repeat' first|refine st ?_|((with_reducible apply go_i);conv=>whnf)|refine⟨λ_=>?_,λ_=>?_⟩|fail
 refine x_nil 5 1 rfl rfl ?_
 refine x_nil 6 1 rfl rfl ?_
 refine x_loop2 mixed Lt.bt_ref21_counted_l0 Lk.bt_ref21_counted_l0 (λ(i:Nat) (w:List (Row×Nat))=>[.arr 0 (cR w).length,.arr 1 (cN w).length,.d (eI i)]) (λi w=>[.arr (cR w) 1 0 (cR w).isEmpty,.arr (cN w) 1 0 (cN w).isEmpty]) (λi w=>i<=Z.length/\w=(Z.take i).foldl cntAdd []/\((i=0/\w=[])\/∃p u n,0<i/\Z[i-1]?=some p/\w=u++[(p,n)])/\w.length<=i/\(∀p∈w,p.2<=i)) (λi w=>Z.length-i) 0 [] rfl rfl rfl rfl (λ_ _ _=>⟨rfl,rfl⟩) rfl ⟨by omega,rfl,.inl ⟨rfl,rfl⟩,Nat.le_refl _,λp hp=>absurd hp (by simp)⟩ ?_
 repeat' first|refine st ?_|((with_reducible apply go_i);conv=>whnf)|refine⟨λ_=>?_,λ_=>?_⟩|fail
 intro i w ⟨i1,i2,i3,i4,i5⟩
 have hw1:(cR w).length=w.length:=by rw[rD_len,List.length_map]
 have hw2:(cN w).length=w.length:=by rw[eIs_len,List.length_map]
 have hwm1:∀e∈cR w,e.length=1:=rD_mem _
 have hwm2:∀e∈cN w,e.length=1:=eIs_mem _
 cases hx:Z[i]? with
 |some x=>
  have hlt:=(List.getElem?_eq_some_iff.1 hx).1
  have hil:(i:Int)<es.length:=by omega
  have e1:es[((i:Nat):Int).toNat]?=some [.sl (eVs x)]:=g1 i x hx
  have hft:=foldl_take (f:=cntAdd) [] hx
  rw[<- i2] at hft
  have happ:∀u:List (Row×Nat),cR (u++[(x,1)])=cR u++[[.sl (eVs x)]]:=λu=>by simp[cR,rD]
  have hbd1:((cR w).length+1)*24<=140737488355328:=by omega
  have hbd2:((cN w).length+1)*8<=140737488355328:=by omega
  have hnw:=cnt_new w x
  have hap:=happ w
  have hn1:(cR w++[[D.sl (eVs x)]]).isEmpty=false:=by simp
  have hn2:(cN (w++[(x,1)])).isEmpty=false:=by simp[cN,eIs]
  have hBl:((cN w++[[D.int .i64 0]]).length:Int)=(cN w).length+1:=by simp
  have hBg:(cN w++[[D.int .i64 0]])[(((cN w++[[D.int .i64 0]]).length:Int)-1).toNat]?=some [D.int .i64 0]:=by rw[cnt_idx];simp
  have hnext:∀p∈w++[(x,1)],p.2<=i+1:=λp hp=>by
   rcases List.mem_append.1 hp with hp|hp
   ·exact Nat.le_succ_of_le (i5 p hp)
   ·rw[List.mem_singleton.1 hp];exact Nat.le_add_left 1 i
  rcases i3 with ⟨h0,hwn⟩|⟨p,u,n,h0,hp,hwu⟩
  ·have hft:(Z.take (i+1)).foldl cntAdd []=w++[(x,1)]:=by rw[hft,hwn];rfl
   have hlast:(i+1=0/\w++[(x,1)]=[])\/∃p u n,0<i+1/\Z[i+1-1]?=some p/\w++[(x,1)]=u++[(p,n)]:=.inr ⟨x,w,1,Nat.succ_pos _,hx,rfl⟩
   obtain⟨A,hA⟩:∃z,z=cR w:=⟨_,rfl⟩
   obtain⟨B,hB⟩:∃z,z=cN w:=⟨_,rfl⟩
   rw[<- hA] at hw1 hwm1 hbd1 hap hn1 ⊢
   rw[<- hB] at hw2 hwm2 hbd2 hnw hBl hBg ⊢
   have hi0:(i:Int)=0:=by omega
   clear i2 hx g1 hA hB happ hwn
   repeat' first|refine st ?_|((with_reducible apply go_i);conv=>whnf)|refine⟨λ_=>?_,λ_=>?_⟩|fail
   exact⟨i+1,w++[(x,1)],by rw[hap,<- hnw];simp,rfl,by rw[hap,<- hnw];simp,by omega,by omega,hft.symm,hlast,by simp;omega,hnext⟩
  ·have hi0:¬(i:Int)=0:=by omega
   have e2:es[((i:Int)-1).toNat]?=some [.sl (eVs p)]:=by rw[show((i:Int)-1).toNat=i-1 by omega];exact g1 (i-1) p hp
   have hE:=C.r8_Equal p x (hor p (List.mem_of_getElem? hp)) (hor x (List.mem_of_getElem? hx)) (.sl (eVs p)) (.sl (eVs x)) (.inr rfl) (.inr rfl)
   have hni:n<=i:=i5 (p,n) (by rw[hwu];simp)
   have hwl:u.length+1=w.length:=by rw[hwu];simp
   have hft2:(Z.take (i+1)).foldl cntAdd []=cntAdd (u++[(p,n)]) x:=by rw[hft,hwu]
   rw[cntAdd_snoc] at hft2
   have hmore:=cnt_more u p n
   have hsame:cR (u++[(p,n+1)])=cR w:=by rw[hwu];simp[cR,rD]
   have hBn:(cN w)[(((cN w).length:Int)-1).toNat]?=some [eI n]:=by
    have e:cN w=cN u++[[eI n]]:=by rw[hwu];simp[cN,eIs]
    rw[e,cnt_idx];simp
   have hB0:(cN w).isEmpty=false:=by rw[hwu];simp[cN,eIs]
   have hB1:(cN (u++[(p,n+1)])).isEmpty=false:=by simp[cN,eIs]
   have hnext2:∀z∈u++[(p,n+1)],z.2<=i+1:=λz hz=>by
    rcases List.mem_append.1 hz with hz|hz
    ·exact Nat.le_succ_of_le (i5 z (by rw[hwu];simp[hz]))
    ·rw[List.mem_singleton.1 hz];exact Nat.add_le_add_right hni 1
   have hpos:0<w.length:=by omega
   by_cases hc:cmpR p x=0
   ·rw[decide_eq_true hc] at hE
    rw[if_pos hc] at hft2
    have hpx:p=x:=cmpR_eq.1 hc
    have hlast:(i+1=0/\u++[(p,n+1)]=[])\/∃p' u' n',0<i+1/\Z[i+1-1]?=some p'/\u++[(p,n+1)]=u'++[(p',n')]:=.inr ⟨p,u,n+1,Nat.succ_pos _,by rw[hpx];exact hx,rfl⟩
    rw[<- hwu] at hmore
    obtain⟨A,hA⟩:∃z,z=cR w:=⟨_,rfl⟩
    obtain⟨B,hB⟩:∃z,z=cN w:=⟨_,rfl⟩
    rw[<- hA] at hw1 hwm1 hbd1 hsame ⊢
    rw[<- hB] at hw2 hwm2 hbd2 hmore hBn hB0 ⊢
    clear i2 hx g1 hA hB happ hft hnw hap hn1 hn2 hBl hBg hnext hpx hp
    repeat' first|refine st ?_|((with_reducible apply go_i);conv=>whnf)|refine⟨λ_=>?_,λ_=>?_⟩|fail
    exact⟨i+1,u++[(p,n+1)],by rw[hsame,<- hmore];simp,rfl,by rw[hsame,<- hmore,hB0];simp;(cases B with|nil=>cases hB0|cons a r=>simp),by omega,by omega,hft2.symm,hlast,by simp;omega,hnext2⟩
   ·rw[decide_eq_false hc] at hE
    rw[if_neg hc,<- hwu] at hft2
    have hlast:(i+1=0/\w++[(x,1)]=[])\/∃p u n,0<i+1/\Z[i+1-1]?=some p/\w++[(x,1)]=u++[(p,n)]:=.inr ⟨x,w,1,Nat.succ_pos _,hx,rfl⟩
    obtain⟨A,hA⟩:∃z,z=cR w:=⟨_,rfl⟩
    obtain⟨B,hB⟩:∃z,z=cN w:=⟨_,rfl⟩
    rw[<- hA] at hw1 hwm1 hbd1 hap hn1 ⊢
    rw[<- hB] at hw2 hwm2 hbd2 hnw hBl hBg ⊢
    clear i2 hx g1 hA hB happ hft hmore hsame hBn hB0 hB1 hnext2 hp hwu
    repeat' first|refine st ?_|((with_reducible apply go_i);conv=>whnf)|refine⟨λ_=>?_,λ_=>?_⟩|fail
    exact⟨i+1,w++[(x,1)],by rw[hap,<- hnw];simp,rfl,by rw[hap,<- hnw];simp,by omega,by omega,hft2.symm,hlast,by simp;omega,hnext⟩
 |none=>
  have hge:=List.getElem?_eq_none_iff.1 hx
  have hil:(es.length:Int)<=i:=by omega
  rw[List.take_of_length_le hge] at i2
  have hqw:q=w:=by rw[hq,i2];rfl
  rw[hqw]
  obtain⟨A,hA⟩:∃z,z=cR w:=⟨_,rfl⟩
  obtain⟨B,hB⟩:∃z,z=cN w:=⟨_,rfl⟩
  rw[<- hA] at hw1 hwm1 ⊢
  rw[<- hB] at hw2 hwm2 ⊢
  obtain⟨b1,hb1⟩:∃b,b=A.isEmpty:=⟨_,rfl⟩
  obtain⟨b2,hb2⟩:∃b,b=B.isEmpty:=⟨_,rfl⟩
  rw[<- hb1,<- hb2]
  clear i2 i3 hx g1 hA hB hq hqw hb1 hb2
  cases b1<;>cases b2
  all_goals skip
  all_goals repeat' first|refine st ?_|((with_reducible apply go_i);conv=>whnf)|refine⟨λ_=>?_,λ_=>?_⟩|fail
  all_goals rfl
end Go.Proofs
end
section
namespace Go.Proofs
open Go.Bi
abbrev dwR(x:Row)(o:List (Row×Nat)):List (Row×Nat):=o.dropWhile λp=>decide (cmpR p.1 x<0)
def hdR(x:Row):List (Row×Nat)->Nat
 |p::_=>if cmpR p.1 x=0 then p.2 else 0
 |[]=>0
def prL:List Row->List (Row×Nat)->List Nat
 |[],_=>[]
 |x::r,o=>hdR x (dwR x o)::prL r (dwR x o)
theorem prL_len:∀(l:List Row)(o:List (Row×Nat)),(prL l o).length=l.length
 |[],_=>rfl
 |x::r,o=>by rw[prL,List.length_cons,prL_len r,List.length_cons]
abbrev eNt(l:List Nat):List (List D):=eIs (l.map Int.ofNat)
theorem dwR_drop{x:Row}{o:List (Row×Nat)}{k:Nat}{p:Row×Nat}(h:o[k]?=some p):dwR x (o.drop k)=if cmpR p.1 x<0 then dwR x (o.drop (k+1)) else o.drop k:=by
 obtain⟨h1,h2⟩:=List.getElem?_eq_some_iff.1 h
 rw[List.drop_eq_getElem_cons h1,h2]
 show List.dropWhile _ (p::_)=_
 rw[List.dropWhile_cons]
 by_cases hc:cmpR p.1 x<0
 ·rw[if_pos (decide_eq_true hc),if_pos hc]
 ·rw[if_neg (by rw[decide_eq_false hc];decide),if_neg hc]
theorem cntAdd_bd{w:List (Row×Nat)}{x:Row}{m:Nat}(h1:w.length<=m)(h2:∀p∈w,p.2<=m):(cntAdd w x).length<=m+1/\(∀p∈cntAdd w x,p.2<=m+1)/\∀p∈cntAdd w x,p.1=x\/∃p'∈w,p'.1=p.1:=by
 unfold cntAdd
 cases hw:w.getLast? with
 |none=>
  refine⟨by simp,λp hp=>?_,λp hp=>?_⟩
  ·rw[List.mem_singleton.1 hp];exact Nat.le_add_left 1 m
  ·rw[List.mem_singleton.1 hp];exact .inl rfl
 |some l=>
  have hl:=List.mem_of_getLast? hw
  dsimp only
  split
  ·refine⟨by rw[List.length_append,List.length_dropLast];simp;omega,λp hp=>?_,λp hp=>?_⟩
   ·rcases List.mem_append.1 hp with hp|hp
    ·exact Nat.le_succ_of_le (h2 p (List.dropLast_subset w hp))
    ·rw[List.mem_singleton.1 hp];exact Nat.add_le_add_right (h2 l hl) 1
   ·rcases List.mem_append.1 hp with hp|hp
    ·exact .inr ⟨p,List.dropLast_subset w hp,rfl⟩
    ·rw[List.mem_singleton.1 hp];exact .inr ⟨l,hl,rfl⟩
  ·refine⟨by simp;omega,λp hp=>?_,λp hp=>?_⟩
   ·rcases List.mem_append.1 hp with hp|hp
    ·exact Nat.le_succ_of_le (h2 p hp)
    ·rw[List.mem_singleton.1 hp];exact Nat.le_add_left 1 m
   ·rcases List.mem_append.1 hp with hp|hp
    ·exact .inr ⟨p,hp,rfl⟩
    ·rw[List.mem_singleton.1 hp];exact .inl rfl
theorem cntFold_bd:∀(l:List Row)(w:List (Row×Nat))(m:Nat),w.length<=m->(∀p∈w,p.2<=m)->(l.foldl cntAdd w).length<=m+l.length/\(∀p∈l.foldl cntAdd w,p.2<=m+l.length)/\∀p∈l.foldl cntAdd w,p.1∈l\/∃p'∈w,p'.1=p.1
 |[],w,m,h1,h2=>⟨h1,h2,λp hp=>.inr ⟨p,hp,rfl⟩⟩
 |x::r,w,m,h1,h2=>by
  obtain⟨a1,a2,a3⟩:=cntAdd_bd (x:=x) h1 h2
  obtain⟨b1,b2,b3⟩:=cntFold_bd r (cntAdd w x) (m+1) a1 a2
  rw[List.foldl_cons,List.length_cons]
  refine⟨by omega,λp hp=>by have:=b2 p hp;omega,λp hp=>?_⟩
  rcases b3 p hp with h|⟨p',hp',he⟩
  ·exact .inl (List.mem_cons_of_mem _ h)
  ·rcases a3 p' hp' with h|⟨p2,hp2,he2⟩
   ·exact .inl (by rw[<- he,h];simp)
   ·exact .inr ⟨p2,hp2,he2.trans he⟩
theorem cnt_bd(l:List Rw)(hl:l.length<=4194304)(hr:∀r∈l,r.vs.length<=4194304):(cntL (ordR (vsR l))).length<=4194304/\∀p∈cntL (ordR (vsR l)),p.1.length<=4194304/\p.2<=4194304:=by
 obtain⟨a1,a2,a3⟩:=cntFold_bd (ordR (vsR l)) [] 0 (Nat.le_refl _) (λp hp=>absurd hp (by simp))
 have hol:=ordR_len _ (vsR l) (Nat.le_refl _)
 have hvl:(vsR l).length=l.length:=by unfold vsR;rw[List.length_map]
 refine⟨by unfold cntL;omega,λp hp=>⟨?_,by have:=a2 p hp;omega⟩⟩
 rcases a3 p hp with h|⟨p',hp',_⟩
 ·obtain⟨x,hx,hxe⟩:=List.mem_map.1 (ordR_mem _ _ (Nat.le_refl _) _ h)
  rw[<- hxe];exact hr x hx
 ·exact absurd hp' (by simp)
theorem C.r21_paired(a b:List Rw)(ha:a.length<=4194304)(hb:b.length<=4194304)(har:∀r∈a,r.vs.length<=4194304)(hbr:∀r∈b,r.vs.length<=4194304)(da db:D)(hda:SlD da (eRs a))(hdb:SlD db (eRs b)) :
  ∃d1 d2 d3:D,SlD d1 (cR (cntL (ordR (vsR a))))/\SlD d2 (cN (cntL (ordR (vsR a))))/\SlD d3 (eNt (prL ((cntL (ordR (vsR a))).map Prod.fst) (cntL (ordR (vsR b)))))/\
   Pure Tryz.prog N.bt_ref21_paired [.d da,.d db] (.tup [.d d1,.d d2,.d d3]):=by
 obtain⟨d1,d2,k1,k2,hA⟩:=C.r21_counted a ha har da hda
 obtain⟨d4,d5,k4,k5,hB⟩:=C.r21_counted b hb hbr db hdb
 have hal:=(cnt_bd a ha har).1
 have hbl:=(cnt_bd b hb hbr).1
 have har':=λp hp=>((cnt_bd a ha har).2 p hp).1
 have hbr':=λp hp=>((cnt_bd b hb hbr).2 p hp).1
 obtain⟨P,hP⟩:∃z,z=cntL (ordR (vsR a)):=⟨_,rfl⟩
 obtain⟨O,hO⟩:∃z,z=cntL (ordR (vsR b)):=⟨_,rfl⟩
 rw[<- hP] at k1 k2 hal har' ⊢
 rw[<- hO] at k4 k5 hbl hbr' ⊢
 clear hP hO hda hdb
 obtain⟨q,hq⟩:∃z,z=prL (P.map Prod.fst) O:=⟨_,rfl⟩
 rw[<- hq]
 have hql:q.length=P.length:=by rw[hq,prL_len,List.length_map]
 refine⟨d1,d2,slD (eNt q).isEmpty (eNt q),k1,k2,sld_slD' λe=>List.isEmpty_iff.1 e,?_⟩
 have l1:(cR P).length=P.length:=by rw[rD_len,List.length_map]
 have l4:(cR O).length=O.length:=by rw[rD_len,List.length_map]
 have l5:(cN O).length=O.length:=by rw[eIs_len,List.length_map]
 have m1:∀e∈cR P,e.length=1:=rD_mem _
 have m4:∀e∈cR O,e.length=1:=rD_mem _
 have m5:∀e∈cN O,e.length=1:=eIs_mem _
 have g1:∀(i:Nat) p,P[i]?=some p->(cR P)[i]?=some [.sl (eVs p.1)]:=λi p h=>rD_get (by rw[List.getElem?_map,h];rfl)
 have g4:∀(i:Nat) p,O[i]?=some p->(cR O)[i]?=some [.sl (eVs p.1)]:=λi p h=>rD_get (by rw[List.getElem?_map,h];rfl)
 have g5:∀(i:Nat) p,O[i]?=some p->(cN O)[i]?=some [eI (p.2:Nat)]:=λi p h=>eIs_get (by rw[List.getElem?_map,h];rfl)
 obtain⟨E1,hE1⟩:∃z,z=cR P:=⟨_,rfl⟩
 obtain⟨E4,hE4⟩:∃z,z=cR O:=⟨_,rfl⟩
 obtain⟨E5,hE5⟩:∃z,z=cN O:=⟨_,rfl⟩
 rw[<- hE1] at k1 l1 m1 g1
 rw[<- hE4] at k4 l4 m4 g4
 rw[<- hE5] at k5 l5 m5 g5
 clear hE1 hE4 hE5 k2
 refine F.bt_ref21_paired.go mixed rfl ?_
 repeat' first|refine st ?_|((with_reducible apply go_i);conv=>whnf)|refine⟨λ_=>?_,λ_=>?_⟩|fail
 refine x_nil 11 1 rfl rfl ?_
 refine x_loop3 mixed Lt.bt_ref21_paired_l1 Lk.bt_ref21_paired_l1 (λ(i k:Nat) (w:List Nat)=>[.arr 0 (eNt w).length,.d (eI k),.d (eI i)]) (λi k w=>[.arr (eNt w) 1 0 (eNt w).isEmpty]) (λi k w=>i<=P.length/\k<=O.length/\w.length=i/\q=w++prL ((P.drop i).map Prod.fst) (O.drop k)) (λi k w=>P.length-i) 0 0 [] rfl rfl rfl rfl (λ_ _ _ _=>⟨rfl,rfl⟩) rfl ⟨by omega,by omega,rfl,hq⟩ ?_
 repeat' first|refine st ?_|((with_reducible apply go_i);conv=>whnf)|refine⟨λ_=>?_,λ_=>?_⟩|fail
 intro i k w ⟨i1,i2,i3,i4⟩
 clear hq
 have hw1:(eNt w).length=w.length:=by rw[eIs_len,List.length_map]
 have hwm:∀e∈eNt w,e.length=1:=eIs_mem _
 have hbd:((eNt w).length+1)*8<=140737488355328:=by omega
 have happ:=λn:Nat=>show eNt (w++[n])=eNt w++[[eI (n:Nat)]] by simp[eNt,eIs]
 have hne:=λn:Nat=>show(eNt (w++[n])).isEmpty=false by simp[eNt,eIs]
 obtain⟨A,hA'⟩:∃z,z=eNt w:=⟨_,rfl⟩
 rw[<- hA'] at hw1 hwm hbd ⊢
 cases hx:P[i]? with
 |some p=>
  have hlt:=(List.getElem?_eq_some_iff.1 hx).1
  have hil:(i:Int)<E1.length:=by omega
  have e1:E1[((i:Nat):Int).toNat]?=some [.sl (eVs p.1)]:=g1 i p hx
  have dx:(P.drop i).map Prod.fst=p.1::(P.drop (i+1)).map Prod.fst:=by rw[List.drop_eq_getElem_cons hlt,(List.getElem?_eq_some_iff.1 hx).2];rfl
  rw[dx,prL] at i4
  have hpr:=har' p (List.mem_of_getElem? hx)
  repeat' first|refine st ?_|((with_reducible apply go_i);conv=>whnf)|refine⟨λ_=>?_,λ_=>?_⟩|fail
  refine x_loop1 mixed Lt.bt_ref21_paired_l0 Lk.bt_ref21_paired_l0 (λ(j:Nat)=>[.d (eI j)]) (λj=>[.arr A 1 0 A.isEmpty]) (λj=>j<=O.length/\dwR p.1 (O.drop k)=dwR p.1 (O.drop j)) (λj=>O.length-j) k rfl rfl rfl rfl (λ_ _=>⟨rfl,rfl⟩) rfl ⟨i2,rfl⟩ ?_
  repeat' first|refine st ?_|((with_reducible apply go_i);conv=>whnf)|refine⟨λ_=>?_,λ_=>?_⟩|fail
  intro j ⟨j1,j2⟩
  cases hy:O[j]? with
  |some o=>
   have hlt2:=(List.getElem?_eq_some_iff.1 hy).1
   have hjl:(j:Int)<E4.length:=by omega
   have hjl5:(j:Int)<E5.length:=by omega
   have e4:E4[((j:Nat):Int).toNat]?=some [.sl (eVs o.1)]:=g4 j o hy
   have e5:E5[((j:Nat):Int).toNat]?=some [eI (o.2:Nat)]:=g5 j o hy
   have hC:=C.r8_Compare o.1 p.1 (hbr' o (List.mem_of_getElem? hy)) hpr (.sl (eVs o.1)) (.sl (eVs p.1)) (.inr rfl) (.inr rfl)
   have hEq:=C.r8_Equal o.1 p.1 (hbr' o (List.mem_of_getElem? hy)) hpr (.sl (eVs o.1)) (.sl (eVs p.1)) (.inr rfl) (.inr rfl)
   have hdw:=dwR_drop (x:=p.1) hy
   have hdo:O.drop j=o::O.drop (j+1):=by rw[List.drop_eq_getElem_cons hlt2,(List.getElem?_eq_some_iff.1 hy).2]
   obtain⟨c,hc⟩:∃c,c=cmpR o.1 p.1:=⟨_,rfl⟩
   rw[<- hc] at hC hEq hdw
   by_cases hc0:c<0
   ·rw[if_pos hc0] at hdw
    clear hx hy g1 g4 g5 happ hne i4 har' hbr' hEq
    repeat' first|refine st ?_|((with_reducible apply go_i);conv=>whnf)|refine⟨λ_=>?_,λ_=>?_⟩|fail
    exact⟨j+1,rfl,rfl,rfl,by omega,by omega,j2.trans hdw⟩
   ·rw[if_neg hc0] at hdw
    rw[j2,hdw] at i4
    by_cases hc1:c=0
    ·rw[decide_eq_true hc1] at hEq
     have i5:q=(w++[o.2])++prL ((P.drop (i+1)).map Prod.fst) (O.drop j):=by
      rw[i4,hdo]
      show w++(hdR p.1 (o::O.drop (j+1))::_)=_
      rw[hdR,if_pos (hc.symm.trans hc1),List.append_assoc];rfl
     have happ:=happ o.2
     have hne:=hne o.2
     rw[<- hA'] at happ
     clear hx hy g1 g4 g5 i4 har' hbr' hdo
     repeat' first|refine st ?_|((with_reducible apply go_i);conv=>whnf)|refine⟨λ_=>?_,λ_=>?_⟩|fail
     exact⟨i+1,j,w++[o.2],by rw[happ];simp,rfl,by rw[hne,happ];simp,by omega,by omega,by omega,by simp;omega,i5⟩
    ·rw[decide_eq_false hc1] at hEq
     have i5:q=(w++[0])++prL ((P.drop (i+1)).map Prod.fst) (O.drop j):=by
      rw[i4,hdo]
      show w++(hdR p.1 (o::O.drop (j+1))::_)=_
      rw[hdR,if_neg (λh=>hc1 (hc.trans h)),List.append_assoc];rfl
     have happ:=happ 0
     have hne:=hne 0
     rw[<- hA'] at happ
     clear hx hy g1 g4 g5 i4 har' hbr' hdo
     repeat' first|refine st ?_|((with_reducible apply go_i);conv=>whnf)|refine⟨λ_=>?_,λ_=>?_⟩|fail
     exact⟨i+1,j,w++[0],by rw[happ];simp,rfl,by rw[hne,happ];simp,by omega,by omega,by omega,by simp;omega,i5⟩
  |none=>
   have hge:=List.getElem?_eq_none_iff.1 hy
   have hjl:(E4.length:Int)<=j:=by omega
   rw[j2,List.drop_eq_nil_of_le hge] at i4
   have i5:q=(w++[0])++prL ((P.drop (i+1)).map Prod.fst) (O.drop j):=by
    rw[i4,List.drop_eq_nil_of_le hge,List.append_assoc];rfl
   have happ:=happ 0
   have hne:=hne 0
   rw[<- hA'] at happ
   clear hx hy g1 g4 g5 i4 har' hbr'
   repeat' first|refine st ?_|((with_reducible apply go_i);conv=>whnf)|refine⟨λ_=>?_,λ_=>?_⟩|fail
   exact⟨i+1,j,w++[0],by rw[happ];simp,rfl,by rw[hne,happ];simp,by omega,by omega,by omega,by simp;omega,i5⟩
 |none=>
  have hge:=List.getElem?_eq_none_iff.1 hx
  have hil:(E1.length:Int)<=i:=by omega
  rw[List.drop_eq_nil_of_le hge] at i4
  have hqw:q=w:=by rw[i4];simp[prL]
  rw[hqw,<- hA']
  obtain⟨b1,hb1⟩:∃b,b=A.isEmpty:=⟨_,rfl⟩
  rw[<- hb1]
  clear i4 hx g1 g4 g5 hqw hb1 happ hne
  cases b1
  all_goals skip
  all_goals repeat' first|refine st ?_|((with_reducible apply go_i);conv=>whnf)|refine⟨λ_=>?_,λ_=>?_⟩|fail
  all_goals rfl
end Go.Proofs
end
section
namespace Go.Proofs
open Go.Bi
def smC(w:List (Row×Nat)):Nat:=(w.map Prod.snd).sum
theorem smC_add(w:List (Row×Nat))(x:Row):smC (cntAdd w x)=smC w+1:=by
 unfold cntAdd
 cases hw:w.getLast? with
 |none=>
  have:w=[]:=by cases w with
   |nil=>rfl
   |cons a r=>simp at hw
  rw[this];rfl
 |some l=>
  obtain⟨ys,hys⟩:=List.getLast?_eq_some_iff.1 hw
  have he:w.dropLast++[l]=w:=by rw[hys];simp
  dsimp only
  split
  ·have:smC w=smC (w.dropLast++[l]):=by rw[he]
   rw[this];simp[smC];omega
  ·simp[smC]
theorem smC_fold:∀(l:List Row)(w:List (Row×Nat)),smC (l.foldl cntAdd w)=smC w+l.length
 |[],w=>rfl
 |x::r,w=>by rw[List.foldl_cons,smC_fold r,smC_add,List.length_cons];omega
theorem smC_cnt(l:List Rw):smC (cntL (ordR (vsR l)))=l.length:=by
 unfold cntL
 rw[smC_fold,ordR_len _ _ (Nat.le_refl _)]
 unfold vsR
 rw[List.length_map]
 simp[smC]
def repL(f:Nat->Nat->Int):List (Row×Nat)->List Nat->List Row
 |p::r,m::ms=>List.replicate (f p.2 m).toNat p.1++repL f r ms
 |_,_=>[]
theorem repL_len(f:Nat->Nat->Int)(hf:∀n m,(f n m).toNat<=n):∀(w:List (Row×Nat))(ms:List Nat),(repL f w ms).length<=smC w
 |[],ms=>by simp[repL]
 |p::r,[]=>by simp[repL]
 |p::r,m::ms=>by
  have h1:=repL_len f hf r ms
  have h2:=hf p.2 m
  simp only[repL,List.length_append,List.length_replicate,smC,List.map_cons,List.sum_cons] at *
  omega
theorem repL_drop{f:Nat->Nat->Int}{w:List (Row×Nat)}{ms:List Nat}{i:Nat}{p:Row×Nat}{m:Nat}(h:w[i]?=some p)(g:ms[i]?=some m):repL f (w.drop i) (ms.drop i)=List.replicate (f p.2 m).toNat p.1++repL f (w.drop (i+1)) (ms.drop (i+1)):=by
 obtain⟨h1,h2⟩:=List.getElem?_eq_some_iff.1 h
 obtain⟨g1,g2⟩:=List.getElem?_eq_some_iff.1 g
 rw[List.drop_eq_getElem_cons h1,List.drop_eq_getElem_cons g1,h2,g2]
 rfl
theorem rD_rep(n:Nat)(r:Row):rD (List.replicate n r)=List.replicate n [.sl (eVs r)]:=by simp[rD]
def exF(n m:Nat):Int:=(n:Int)-m
def inF(n m:Nat):Int:=min (n:Int) m
abbrev setR(f:Nat->Nat->Int)(a b:List Row):List Row:=repL f (cntL (ordR a)) (prL ((cntL (ordR a)).map Prod.fst) (cntL (ordR b)))
theorem C.r21_Except(dk dk':D)(a b:List Rw)(ha:a.length<=4194304)(hb:b.length<=4194304)(har:∀r∈a,r.vs.length<=4194304)(hbr:∀r∈b,r.vs.length<=4194304)(da db:D)(hda:SlD da (eRs a))(hdb:SlD db (eRs b)) :
  Pure Tryz.prog N.bt_ref21_Except [eBag dk da,eBag dk' db] (eBag dk (slD (rD (setR exF (vsR a) (vsR b))).isEmpty (rD (setR exF (vsR a) (vsR b))))):=by
 obtain⟨d1,d2,d3,k1,k2,k3,hP⟩:=C.r21_paired a b ha hb har hbr da db hda hdb
 have hbd:=cnt_bd a ha har
 have hRl:(setR exF (vsR a) (vsR b)).length<=4194304:=Nat.le_trans (repL_len exF (λn m=>by unfold exF;omega) _ _) (by rw[smC_cnt];exact ha)
 obtain⟨R,hR⟩:∃z,z=setR exF (vsR a) (vsR b):=⟨_,rfl⟩
 rw[<- hR] at hRl ⊢
 unfold setR at hR
 have hql:=prL_len ((cntL (ordR (vsR a))).map Prod.fst) (cntL (ordR (vsR b)))
 obtain⟨Q,hQ⟩:∃z,z=prL ((cntL (ordR (vsR a))).map Prod.fst) (cntL (ordR (vsR b))):=⟨_,rfl⟩
 rw[<- hQ] at hR k3 hql
 have hmb:∀m∈Q,m<=4194304:=by
  rw[hQ]
  have hob:=(cnt_bd b hb hbr).2
  have key:∀(l:List Row) (o:List (Row×Nat)),(∀p∈o,p.2<=4194304)->∀m∈prL l o,m<=4194304:=by
   intro l
   induction l with
   |nil=>intro o _ m hm;cases hm
   |cons x r ih=>
    intro o ho m hm
    have hd:∀p∈dwR x o,p.2<=4194304:=λp hp=>ho p ((List.dropWhile_suffix _).subset hp)
    rw[prL] at hm
    rcases List.mem_cons.1 hm with rfl|hm
    ·cases hh:dwR x o with
     |nil=>exact Nat.zero_le _
     |cons p s=>
      rw[hdR]
      split
      ·exact hd p (by rw[hh];simp)
      ·exact Nat.zero_le _
    ·exact ih _ hd m hm
  exact key _ _ λp hp=>(hob p hp).2
 obtain⟨P,hPP⟩:∃z,z=cntL (ordR (vsR a)):=⟨_,rfl⟩
 rw[<- hPP] at hR k1 k2 hql hbd
 rw[List.length_map] at hql
 clear hPP hQ hda hdb
 have l1:(cR P).length=P.length:=by rw[rD_len,List.length_map]
 have l2:(cN P).length=P.length:=by rw[eIs_len,List.length_map]
 have l3:(eNt Q).length=P.length:=by rw[eIs_len,List.length_map,hql]
 have m1:∀e∈cR P,e.length=1:=rD_mem _
 have m2:∀e∈cN P,e.length=1:=eIs_mem _
 have m3:∀e∈eNt Q,e.length=1:=eIs_mem _
 have g1:∀(i:Nat) p,P[i]?=some p->(cR P)[i]?=some [.sl (eVs p.1)]:=λi p h=>rD_get (by rw[List.getElem?_map,h];rfl)
 have g2:∀(i:Nat) p,P[i]?=some p->(cN P)[i]?=some [eI (p.2:Nat)]:=λi p h=>eIs_get (by rw[List.getElem?_map,h];rfl)
 have g3:∀(i:Nat) m,Q[i]?=some m->(eNt Q)[i]?=some [eI (m:Nat)]:=λi m h=>eIs_get (by rw[List.getElem?_map,h];rfl)
 obtain⟨E1,hE1⟩:∃z,z=cR P:=⟨_,rfl⟩
 obtain⟨E2,hE2⟩:∃z,z=cN P:=⟨_,rfl⟩
 obtain⟨E3,hE3⟩:∃z,z=eNt Q:=⟨_,rfl⟩
 rw[<- hE1] at k1 l1 m1 g1
 rw[<- hE2] at k2 l2 m2 g2
 rw[<- hE3] at k3 l3 m3 g3
 clear hE1 hE2 hE3
 have hPl:=hbd.1
 refine F.bt_ref21_Except.go mixed rfl ?_
 repeat' first|refine st ?_|((with_reducible apply go_i);conv=>whnf)|refine⟨λ_=>?_,λ_=>?_⟩|fail
 refine x_nilcc 3 1 1 rfl rfl rfl ?_
 refine x_loop2 mixed Lt.bt_ref21_Except_l0 Lk.bt_ref21_Except_l0 (λ(i:Nat) (w:List Row)=>[.d (eI i)]) (λi w=>[.cells [.d dk,.d da],.cells [.d dk',.d db],.cells [.d .nil,.d .nil],.cells [.d dk,.arr 4 (rD w).length],.arr (rD w) 1 0 (rD w).isEmpty]) (λi w=>i<=P.length/\R=w++repL exF (P.drop i) (Q.drop i)) (λi w=>P.length-i) 0 [] rfl rfl rfl rfl (λ_ _ _=>⟨rfl,rfl⟩) rfl ⟨by omega,hR⟩ ?_
 repeat' first|refine st ?_|((with_reducible apply go_i);conv=>whnf)|refine⟨λ_=>?_,λ_=>?_⟩|fail
 intro i w ⟨i1,i2⟩
 clear hR
 have hwm:=rD_mem w
 have hw1:=rD_len w
 cases hx:P[i]? with
 |some p=>
  have hlt:=(List.getElem?_eq_some_iff.1 hx).1
  have hil:(i:Int)<E1.length:=by omega
  have hil2:(i:Int)<E2.length:=by omega
  have hil3:(i:Int)<E3.length:=by omega
  obtain⟨m,hm⟩:∃m,Q[i]?=some m:=⟨_,List.getElem?_eq_getElem (by omega)⟩
  have e1:E1[((i:Nat):Int).toNat]?=some [.sl (eVs p.1)]:=g1 i p hx
  have e2:E2[((i:Nat):Int).toNat]?=some [eI (p.2:Nat)]:=g2 i p hx
  have e3:E3[((i:Nat):Int).toNat]?=some [eI (m:Nat)]:=g3 i m hm
  have hn:=(hbd.2 p (List.mem_of_getElem? hx)).2
  have hmm:=hmb m (List.mem_of_getElem? hm)
  rw[repL_drop hx hm,<- List.append_assoc] at i2
  have hlen:(rD w).length+(exF p.2 m).toNat<=4194304:=by
   have:=congrArg List.length i2
   rw[List.length_append,List.length_append,List.length_replicate] at this
   omega
  have hRep:=C.r21_repeat (rD w) hwm (rD w).isEmpty (.sl (eVs p.1)) (exF p.2 m) hlen
  have hap:rD w++List.replicate (exF p.2 m).toNat [.sl (eVs p.1)]=rD (w++List.replicate (exF p.2 m).toNat p.1):=by rw[rD_app,rD_rep]
  have hnl:((rD w).isEmpty&&decide (exF p.2 m<=0))=(rD (w++List.replicate (exF p.2 m).toNat p.1)).isEmpty:=by
   rw[rD_app,rD_rep]
   cases rD w with
   |cons z zs=>rfl
   |nil=>
    by_cases h0:exF p.2 m<=0
    ·rw[decide_eq_true h0,show(exF p.2 m).toNat=0 by omega];rfl
    ·rw[decide_eq_false h0]
     obtain⟨z,hz⟩:∃z,(exF p.2 m).toNat=z+1:=⟨(exF p.2 m).toNat-1,by omega⟩
     rw[hz];rfl
  rw[hap,hnl] at hRep
  unfold exF at hRep hap hnl i2
  obtain⟨A,hA⟩:∃z,z=rD w:=⟨_,rfl⟩
  rw[<- hA] at hRep hw1 hwm ⊢
  obtain⟨n,hn'⟩:∃n,n=p.2:=⟨_,rfl⟩
  rw[<- hn'] at hRep e2 hn i2
  obtain⟨W,hW⟩:∃z,z=w++List.replicate ((n:Int)-m:Int).toNat p.1:=⟨_,rfl⟩
  rw[<- hW] at hRep i2
  clear hap hnl hx hm g1 g2 g3 hbd hmb hW hn'
  repeat' first|refine st ?_|((with_reducible apply go_i);conv=>whnf)|refine⟨λ_=>?_,λ_=>?_⟩|fail
  exact⟨i+1,W,rfl,rfl,rfl,by omega,by omega,i2⟩
 |none=>
  have hge:=List.getElem?_eq_none_iff.1 hx
  have hil:(E1.length:Int)<=i:=by omega
  rw[List.drop_eq_nil_of_le hge] at i2
  have hRw:R=w:=by rw[i2];simp[repL]
  rw[hRw]
  obtain⟨A,hA⟩:∃z,z=rD w:=⟨_,rfl⟩
  rw[<- hA] at hw1 hwm ⊢
  obtain⟨b1,hb1⟩:∃b,b=A.isEmpty:=⟨_,rfl⟩
  rw[<- hb1]
  clear i2 hx g1 g2 g3 hRw hb1 hA
  cases b1
  all_goals skip
  all_goals repeat' first|refine st ?_|((with_reducible apply go_i);conv=>whnf)|refine⟨λ_=>?_,λ_=>?_⟩|fail
  all_goals rfl
theorem C.r21_Intersect(dk dk':D)(a b:List Rw)(ha:a.length<=4194304)(hb:b.length<=4194304)(har:∀r∈a,r.vs.length<=4194304)(hbr:∀r∈b,r.vs.length<=4194304)(da db:D)(hda:SlD da (eRs a))(hdb:SlD db (eRs b)) :
  Pure Tryz.prog N.bt_ref21_Intersect [eBag dk da,eBag dk' db] (eBag dk (slD (rD (setR inF (vsR a) (vsR b))).isEmpty (rD (setR inF (vsR a) (vsR b))))):=by
 obtain⟨d1,d2,d3,k1,k2,k3,hP⟩:=C.r21_paired a b ha hb har hbr da db hda hdb
 have hbd:=cnt_bd a ha har
 have hRl:(setR inF (vsR a) (vsR b)).length<=4194304:=Nat.le_trans (repL_len inF (λn m=>by unfold inF;omega) _ _) (by rw[smC_cnt];exact ha)
 obtain⟨R,hR⟩:∃z,z=setR inF (vsR a) (vsR b):=⟨_,rfl⟩
 rw[<- hR] at hRl ⊢
 unfold setR at hR
 have hql:=prL_len ((cntL (ordR (vsR a))).map Prod.fst) (cntL (ordR (vsR b)))
 obtain⟨Q,hQ⟩:∃z,z=prL ((cntL (ordR (vsR a))).map Prod.fst) (cntL (ordR (vsR b))):=⟨_,rfl⟩
 rw[<- hQ] at hR k3 hql
 have hmb:∀m∈Q,m<=4194304:=by
  rw[hQ]
  have hob:=(cnt_bd b hb hbr).2
  have key:∀(l:List Row) (o:List (Row×Nat)),(∀p∈o,p.2<=4194304)->∀m∈prL l o,m<=4194304:=by
   intro l
   induction l with
   |nil=>intro o _ m hm;cases hm
   |cons x r ih=>
    intro o ho m hm
    have hd:∀p∈dwR x o,p.2<=4194304:=λp hp=>ho p ((List.dropWhile_suffix _).subset hp)
    rw[prL] at hm
    rcases List.mem_cons.1 hm with rfl|hm
    ·cases hh:dwR x o with
     |nil=>exact Nat.zero_le _
     |cons p s=>
      rw[hdR]
      split
      ·exact hd p (by rw[hh];simp)
      ·exact Nat.zero_le _
    ·exact ih _ hd m hm
  exact key _ _ λp hp=>(hob p hp).2
 obtain⟨P,hPP⟩:∃z,z=cntL (ordR (vsR a)):=⟨_,rfl⟩
 rw[<- hPP] at hR k1 k2 hql hbd
 rw[List.length_map] at hql
 clear hPP hQ hda hdb
 have l1:(cR P).length=P.length:=by rw[rD_len,List.length_map]
 have l2:(cN P).length=P.length:=by rw[eIs_len,List.length_map]
 have l3:(eNt Q).length=P.length:=by rw[eIs_len,List.length_map,hql]
 have m1:∀e∈cR P,e.length=1:=rD_mem _
 have m2:∀e∈cN P,e.length=1:=eIs_mem _
 have m3:∀e∈eNt Q,e.length=1:=eIs_mem _
 have g1:∀(i:Nat) p,P[i]?=some p->(cR P)[i]?=some [.sl (eVs p.1)]:=λi p h=>rD_get (by rw[List.getElem?_map,h];rfl)
 have g2:∀(i:Nat) p,P[i]?=some p->(cN P)[i]?=some [eI (p.2:Nat)]:=λi p h=>eIs_get (by rw[List.getElem?_map,h];rfl)
 have g3:∀(i:Nat) m,Q[i]?=some m->(eNt Q)[i]?=some [eI (m:Nat)]:=λi m h=>eIs_get (by rw[List.getElem?_map,h];rfl)
 obtain⟨E1,hE1⟩:∃z,z=cR P:=⟨_,rfl⟩
 obtain⟨E2,hE2⟩:∃z,z=cN P:=⟨_,rfl⟩
 obtain⟨E3,hE3⟩:∃z,z=eNt Q:=⟨_,rfl⟩
 rw[<- hE1] at k1 l1 m1 g1
 rw[<- hE2] at k2 l2 m2 g2
 rw[<- hE3] at k3 l3 m3 g3
 clear hE1 hE2 hE3
 have hPl:=hbd.1
 refine F.bt_ref21_Intersect.go mixed rfl ?_
 repeat' first|refine st ?_|((with_reducible apply go_i);conv=>whnf)|refine⟨λ_=>?_,λ_=>?_⟩|fail
 refine x_nilcc 3 1 1 rfl rfl rfl ?_
 refine x_loop2 mixed Lt.bt_ref21_Intersect_l0 Lk.bt_ref21_Intersect_l0 (λ(i:Nat) (w:List Row)=>[.d (eI i)]) (λi w=>[.cells [.d dk,.d da],.cells [.d dk',.d db],.cells [.d .nil,.d .nil],.cells [.d dk,.arr 4 (rD w).length],.arr (rD w) 1 0 (rD w).isEmpty]) (λi w=>i<=P.length/\R=w++repL inF (P.drop i) (Q.drop i)) (λi w=>P.length-i) 0 [] rfl rfl rfl rfl (λ_ _ _=>⟨rfl,rfl⟩) rfl ⟨by omega,hR⟩ ?_
 repeat' first|refine st ?_|((with_reducible apply go_i);conv=>whnf)|refine⟨λ_=>?_,λ_=>?_⟩|fail
 intro i w ⟨i1,i2⟩
 clear hR
 have hwm:=rD_mem w
 have hw1:=rD_len w
 cases hx:P[i]? with
 |some p=>
  have hlt:=(List.getElem?_eq_some_iff.1 hx).1
  have hil:(i:Int)<E1.length:=by omega
  have hil2:(i:Int)<E2.length:=by omega
  have hil3:(i:Int)<E3.length:=by omega
  obtain⟨m,hm⟩:∃m,Q[i]?=some m:=⟨_,List.getElem?_eq_getElem (by omega)⟩
  have e1:E1[((i:Nat):Int).toNat]?=some [.sl (eVs p.1)]:=g1 i p hx
  have e2:E2[((i:Nat):Int).toNat]?=some [eI (p.2:Nat)]:=g2 i p hx
  have e3:E3[((i:Nat):Int).toNat]?=some [eI (m:Nat)]:=g3 i m hm
  have hn:=(hbd.2 p (List.mem_of_getElem? hx)).2
  have hmm:=hmb m (List.mem_of_getElem? hm)
  rw[repL_drop hx hm,<- List.append_assoc] at i2
  have hlen:(rD w).length+(inF p.2 m).toNat<=4194304:=by
   have:=congrArg List.length i2
   rw[List.length_append,List.length_append,List.length_replicate] at this
   omega
  have hRep:=C.r21_repeat (rD w) hwm (rD w).isEmpty (.sl (eVs p.1)) (inF p.2 m) hlen
  have hap:rD w++List.replicate (inF p.2 m).toNat [.sl (eVs p.1)]=rD (w++List.replicate (inF p.2 m).toNat p.1):=by rw[rD_app,rD_rep]
  have hnl:((rD w).isEmpty&&decide (inF p.2 m<=0))=(rD (w++List.replicate (inF p.2 m).toNat p.1)).isEmpty:=by
   rw[rD_app,rD_rep]
   cases rD w with
   |cons z zs=>rfl
   |nil=>
    by_cases h0:inF p.2 m<=0
    ·rw[decide_eq_true h0,show(inF p.2 m).toNat=0 by omega];rfl
    ·rw[decide_eq_false h0]
     obtain⟨z,hz⟩:∃z,(inF p.2 m).toNat=z+1:=⟨(inF p.2 m).toNat-1,by omega⟩
     rw[hz];rfl
  rw[hap,hnl] at hRep
  unfold inF at hRep hap hnl i2
  obtain⟨A,hA⟩:∃z,z=rD w:=⟨_,rfl⟩
  rw[<- hA] at hRep hw1 hwm ⊢
  obtain⟨n,hn'⟩:∃n,n=p.2:=⟨_,rfl⟩
  rw[<- hn'] at hRep e2 hn i2
  obtain⟨W,hW⟩:∃z,z=w++List.replicate (min (n:Int) m:Int).toNat p.1:=⟨_,rfl⟩
  rw[<- hW] at hRep i2
  clear hap hnl hx hm g1 g2 g3 hbd hmb hW hn'
  repeat' first|refine st ?_|((with_reducible apply go_i);conv=>whnf)|refine⟨λ_=>?_,λ_=>?_⟩|fail
  exact⟨i+1,W,rfl,rfl,rfl,by omega,by omega,i2⟩
 |none=>
  have hge:=List.getElem?_eq_none_iff.1 hx
  have hil:(E1.length:Int)<=i:=by omega
  rw[List.drop_eq_nil_of_le hge] at i2
  have hRw:R=w:=by rw[i2];simp[repL]
  rw[hRw]
  obtain⟨A,hA⟩:∃z,z=rD w:=⟨_,rfl⟩
  rw[<- hA] at hw1 hwm ⊢
  obtain⟨b1,hb1⟩:∃b,b=A.isEmpty:=⟨_,rfl⟩
  rw[<- hb1]
  clear i2 hx g1 g2 g3 hRw hb1 hA
  cases b1
  all_goals skip
  all_goals repeat' first|refine st ?_|((with_reducible apply go_i);conv=>whnf)|refine⟨λ_=>?_,λ_=>?_⟩|fail
  all_goals rfl
end Go.Proofs
end
section
namespace Go.Bi
open Go
section
variable {P:Program}{n nb:Nat}{M:Mem}{G:Gh}{os:List AO}{w:World}{ρ:Rho}{a:Act}
end
end Go.Bi
end
section
namespace Go.Proofs
open Go.Bi
theorem nl_D{A:List (List D)}{b:Bool}(h:b=A.isEmpty):SlD (if b then .nil else .sl A) A:=by
 subst h
 cases A with
 |nil=>exact .inl ⟨rfl,rfl⟩
 |cons a r=>exact .inr rfl
theorem C.r21_Distinct(dk:D)(l:List Rw)(hl:l.length<=4194304)(hr:∀r∈l,r.vs.length<=4194304)(dr:D)(hd:SlD dr (eRs l)) :
  Pure Tryz.prog N.bt_ref21_Distinct [eBag dk dr] (eBag dk (.sl (rD (dstR none (ordR (vsR l)))))):=by
 have h:=C.r8_Distinct l hl hr dr hd
 obtain⟨Z,hZ⟩:∃z,z=rD (dstR none (ordR (vsR l))):=⟨_,rfl⟩
 rw[<- hZ] at h ⊢
 refine F.bt_ref21_Distinct.go mixed rfl ?_
 repeat' first|refine st ?_|((with_reducible apply go_i);conv=>whnf)|refine⟨λ_=>?_,λ_=>?_⟩|fail
 all_goals rfl
theorem C.r8_Nulls(n:Nat)(hn:n<=4096):Pure Tryz.prog N.bt_ref08_Nulls [.d (eI n)] (.d (.sl (eVs (List.replicate n vNull)))):=by
 have hN:=C.r7_Null
 refine F.bt_ref08_Nulls.go mixed rfl ?_
 repeat' first|refine st ?_|((with_reducible apply go_i);conv=>whnf)|refine⟨λ_=>?_,λ_=>?_⟩|fail
 refine x_loop2 mixed Lt.bt_ref08_Nulls_l0 Lk.bt_ref08_Nulls_l0 (λ(i:Nat) (w:List (List D))=>[.arr 0 w.length,.d (eI i)]) (λi w=>[.arr w 3 0 false]) (λi w=>i<=n/\w=eVs (List.replicate i vNull)) (λi w=>n-i) 0 [] rfl rfl rfl rfl (λ_ _ _=>⟨rfl,rfl⟩) rfl ⟨Nat.zero_le _,rfl⟩ ?_
 repeat' first|refine st ?_|((with_reducible apply go_i);conv=>whnf)|refine⟨λ_=>?_,λ_=>?_⟩|fail
 intro i w ⟨i1,i2⟩
 have hwl:w.length=i:=by rw[i2,eVs_len,List.length_replicate]
 have hwm:∀e∈w,e.length=3:=by rw[i2];exact eVs_mem _
 have hbd:(w.length+1)*32<=140737488355328:=by omega
 have hn2:(n:Int)<=4096:=by omega
 by_cases h:i<n
 ·have hil:(i:Int)<n:=by omega
  have i3:w++[vNull.ds]=eVs (List.replicate (i+1) vNull):=by rw[i2,List.replicate_succ'];simp[eVs]
  clear i2
  repeat' first|refine st ?_|((with_reducible apply go_i);conv=>whnf)|refine⟨λ_=>?_,λ_=>?_⟩|fail
  refine⟨i+1,w++[vNull.ds],?_,rfl,?_,by omega,by omega,i3⟩
  ·simp
  ·first|rfl|simp
 ·have hil:¬(i:Int)<n:=by omega
  have hin:i=n:=by omega
  rw[<- hin,<- i2]
  clear i2
  repeat' first|refine st ?_|((with_reducible apply go_i);conv=>whnf)|refine⟨λ_=>?_,λ_=>?_⟩|fail
  all_goals rfl
end Go.Proofs
end
section
namespace Go.Proofs
open Go.Bi
theorem C.r21_joined(a b:List Int)(hab:a.length+b.length<=4194304)(da db:D)(hda:SlD da (eIs a))(hdb:SlD db (eIs b)) :
  Pure Tryz.prog N.bt_ref21_joined [.d da,.d db] (.d (slD (eIs (a++b)).isEmpty (eIs (a++b)))):=by
 have l1:=eIs_len a
 have l2:=eIs_len b
 have m1:=eIs_mem a
 have m2:=eIs_mem b
 have e:eIs (a++b)=eIs a++eIs b:=by simp[eIs]
 rw[e]
 obtain⟨es,hes⟩:∃z,z=eIs a:=⟨_,rfl⟩
 obtain⟨fs,hfs⟩:∃z,z=eIs b:=⟨_,rfl⟩
 rw[<- hes] at hda l1 m1 ⊢
 rw[<- hfs] at hdb l2 m2 ⊢
 clear hes hfs e
 have b1:es.length*8<=140737488355328/\es.length<=9223372036854775807:=by omega
 have b2:(es.length+fs.length)*8<=140737488355328/\es.length+fs.length<=9223372036854775807:=by omega
 rcases hda with ⟨rfl,rfl⟩|rfl<;>rcases hdb with ⟨rfl,rfl⟩|rfl
 all_goals refine F.bt_ref21_joined.go mixed rfl ?_
 all_goals repeat' first|refine st ?_|((with_reducible apply go_i);conv=>whnf)|refine⟨λ_=>?_,λ_=>?_⟩|fail
 all_goals first|rfl|(cases fs<;>rfl)|(cases es<;>rfl)|(cases es<;>cases fs<;>rfl)
theorem C.r21_Union(dk dk':D)(a b:List Rw)(hab:a.length+b.length<=4194304)(har:∀r∈a,r.vs.length<=4194304)(hbr:∀r∈b,r.vs.length<=4194304)(da db:D)(hda:SlD da (eRs a))(hdb:SlD db (eRs b)) :
  Pure Tryz.prog N.bt_ref21_Union [eBag dk da,eBag dk' db] (eBag dk (.sl (rD (ordR (vsR a++vsR b))))):=by
 have hS:=C.r8_Sort (a++b) (by simp;omega) (λr h=>by
  rcases List.mem_append.1 h with h|h
  ·exact har r h
  ·exact hbr r h) (if (eRs (a++b)).isEmpty then .nil else .sl (eRs (a++b))) (nl_D rfl)
 rw[show vsR (a++b)=vsR a++vsR b by simp[vsR],eRs_app] at hS
 obtain⟨Z,hZ⟩:∃z,z=rD (ordR (vsR a++vsR b)):=⟨_,rfl⟩
 rw[<- hZ] at hS ⊢
 have l1:=eRs_len a
 have l2:=eRs_len b
 have m1:=eRs_mem a
 have m2:=eRs_mem b
 obtain⟨es,hes⟩:∃z,z=eRs a:=⟨_,rfl⟩
 obtain⟨fs,hfs⟩:∃z,z=eRs b:=⟨_,rfl⟩
 rw[<- hes] at hda l1 m1 hS
 rw[<- hfs] at hdb l2 m2 hS
 clear hes hfs hZ har hbr
 have b1:es.length*24<=140737488355328/\es.length<=9223372036854775807:=by omega
 have b2:(es.length+fs.length)*24<=140737488355328/\es.length+fs.length<=9223372036854775807:=by omega
 have hS:Bi.Pure Tryz.prog N.bt_ref08_Sort [.d (CnD (bif fs.isEmpty then es.isEmpty else false) .nil (.sl (es++fs)))] (.d (.sl Z)):=by
  have e:(CnD (bif fs.isEmpty then es.isEmpty else false) .nil (.sl (es++fs)):D)=if (es++fs).isEmpty then .nil else .sl (es++fs):=by cases es<;>cases fs<;>rfl
  rw[e];exact hS
 rcases hda with ⟨rfl,rfl⟩|rfl<;>rcases hdb with ⟨rfl,rfl⟩|rfl
 all_goals refine F.bt_ref21_Union.go mixed rfl ?_
 all_goals repeat' first|refine st ?_|((with_reducible apply go_i);conv=>whnf)|refine⟨λ_=>?_,λ_=>?_⟩|fail
 all_goals rfl
def vlR(xs:List Ex)(r:Row):Row:=xs.map (ev r)
theorem C.r21_Values(xs:List Ex)(hx:xs.length<=1048576)(hxb:∀e∈xs,e.bk<=1048576)(dx:D)(hdx:SlD dx (xL xs))(r:Row)(hr:RwOk r)(dr:D)(hdr:SlD dr (eVs r)) :
  Pure Tryz.prog N.bt_ref21_Values [.d dx,.d dr] (.d (slD (eVs (vlR xs r)).isEmpty (eVs (vlR xs r)))):=by
 have hE:=λ(e:Ex) (h:e∈xs)=>C.r11_Eval r hr.1 hr.2 dr hdr e (hxb e h)
 have l1:=xL_len xs
 have m1:=xL_mem xs
 have g1:=λi e=>@xL_get xs i e
 obtain⟨es,hes⟩:∃z,z=xL xs:=⟨_,rfl⟩
 rw[<- hes] at hdx l1 m1 g1
 clear hes
 obtain⟨q,hq⟩:∃q,q=eVs (vlR xs r):=⟨_,rfl⟩
 rw[<- hq]
 refine F.bt_ref21_Values.go mixed rfl ?_
 repeat' first|refine st ?_|((with_reducible apply go_i);conv=>whnf)|refine⟨λ_=>?_,λ_=>?_⟩|fail
 refine x_nil 5 3 rfl rfl ?_
 refine x_loop2 mixed Lt.bt_ref21_Values_l0 Lk.bt_ref21_Values_l0 (λ(i:Nat) (w:List (List D))=>[.arr 0 w.length,.d (eI i)]) (λi w=>[.arr w 3 0 w.isEmpty]) (λi w=>i<=xs.length/\w=eVs (vlR (xs.take i) r)) (λi w=>xs.length-i) 0 [] rfl rfl rfl rfl (λ_ _ _=>⟨rfl,rfl⟩) rfl ⟨by omega,rfl⟩ ?_
 repeat' first|refine st ?_|((with_reducible apply go_i);conv=>whnf)|refine⟨λ_=>?_,λ_=>?_⟩|fail
 intro i w ⟨i1,i2⟩
 have hwl:w.length<=i:=by rw[i2,eVs_len];unfold vlR;rw[List.length_map,List.length_take];omega
 have hwm:∀e∈w,e.length=3:=by rw[i2];exact eVs_mem _
 have hbd:(w.length+1)*32<=140737488355328:=by omega
 cases hi:xs[i]? with
 |some e=>
  have hlt:=(List.getElem?_eq_some_iff.1 hi).1
  have hil:(i:Int)<es.length:=by omega
  have hg:=g1 i e hi
  have hE:=hE e (List.mem_of_getElem? hi)
  have i3:eVs (vlR (xs.take (i+1)) r)=w++[(ev r e).ds]:=by
   rw[i2,List.take_add_one,hi];simp[vlR,eVs]
  obtain⟨v,hv⟩:∃v,v=ev r e:=⟨_,rfl⟩
  rw[<- hv] at hE i3
  clear hv
  obtain⟨xo,xn,xv,xm,xl,xa⟩:=e
  rw[Ex.ds_mk] at hg
  rw[Ex.av_mk] at hE
  have hg:es[((i:Nat):Int).toNat]?=some (xds xo xn xv xm (ng xl (xL xa))):=hg
  obtain⟨xd,hxd⟩:∃d,d=ng xl (xL xa):=⟨_,rfl⟩
  rw[<- hxd] at hg hE
  clear i2 hi g1 hxd
  repeat' first|refine st ?_|((with_reducible apply go_i);conv=>whnf)|refine⟨λ_=>?_,λ_=>?_⟩|fail
  exact⟨i+1,w++[v.ds],by simp,rfl,by simp,by omega,by omega,i3.symm⟩
 |none=>
  have hge:=List.getElem?_eq_none_iff.1 hi
  have hil:(es.length:Int)<=i:=by omega
  rw[List.take_of_length_le hge,<- hq] at i2
  subst i2
  clear hi g1 hq
  repeat' first|refine st ?_|((with_reducible apply go_i);conv=>whnf)|refine⟨λ_=>?_,λ_=>?_⟩|fail
  all_goals (cases w<;>rfl)
end Go.Proofs
end
section
namespace Go.Proofs
open Go.Bi
def mx(l:List Nat):Nat:=l.foldl max 0
mutual
def dep:Ex->Nat
 |.mk op n v name nl args=>1+mx (depL args)
def depL:List Ex->List Nat
 |[]=>[]
 |e::es=>dep e::depL es
end
theorem depL_eq:∀l,depL l=l.map dep
 |[]=>by simp[depL]
 |e::es=>by simp[depL,depL_eq es]
theorem dep_mk(op n:Int)(v:Vl)(name:List UInt8)(nl:Bool)(args:List Ex):dep (.mk op n v name nl args)=1+mx (args.map dep):=by rw[dep,depL_eq]
theorem mx_le{l:List Nat}{B:Nat}(h:∀x∈l,x<=B):mx l<=B:=by
 unfold mx
 have key:∀(l:List Nat) (a:Nat),a<=B->(∀x∈l,x<=B)->l.foldl max a<=B:=by
  intro l
  induction l with
  |nil=>intro a ha _;exact ha
  |cons x l ih=>intro a ha hl;exact ih (max a x) (by have:=hl x (by simp);omega) λy hy=>hl y (by simp[hy])
 exact key l 0 (Nat.zero_le _) h
theorem dep_bk:∀e:Ex,dep e<=e.bk:=by
 refine Ex.ind λop n v name nl args ih=>?_
 rw[dep_mk]
 have h1:mx (args.map dep)<=(Ex.mk op n v name nl args).bk-1:=mx_le λx hx=>by
  obtain⟨a,ha,rfl⟩:=List.mem_map.1 hx
  have h2:=ih a ha
  have h3:=Ex.bk_arg (op:=op) (n:=n) (v:=v) (name:=name) (nl:=nl) ha
  omega
 have:=(Ex.mk op n v name nl args).bk_pos
 omega
theorem foldl_take_succ'{α β:Type}(f:β->α->β)(b:β)(l:List α)(i:Nat)(x:α)(h:l[i]?=some x):(l.take (i+1)).foldl f b=f ((l.take i).foldl f b) x:=by
 rw[List.take_add_one,h];simp
theorem mx_succ{l:List Nat}{i x:Nat}(h:l[i]?=some x):mx (l.take (i+1))=max (mx (l.take i)) x:=foldl_take_succ' _ _ _ _ _ h
theorem C.expr_depth:∀e:Ex,e.bk<=1048576->∀m:Nat,1<=m->m<=25->Pure Tryz.prog N.expr_depth [e.av,.d (eI m)] (.d (eI (min m (dep e):Nat))):=by
 refine Ex.ind λop n v name nl args ih hbk m hm1 hm2=>?_
 obtain⟨b1,b2,b3,b4⟩:=Ex.bk_bounds hbk
 have ih':∀a∈args,∀m:Nat,1<=m->m<=25->Pure Tryz.prog N.expr_depth [a.av,.d (eI m)] (.d (eI (min m (dep a):Nat))):=λa ha=>ih a ha (b4 a ha)
 clear ih
 rw[Ex.av_mk,dep_mk]
 refine F.expr_depth.go mixed rfl ?_
 have hlen:=xL_len args
 have hm:=xL_mem args
 have hd:SlD (ng nl (xL args)) (xL args):=sld_ng
 have hget:∀(i:Nat) (op' n':Int) (v':Vl) (name':List UInt8) (nl':Bool) (args':List Ex),args[i]?=some (.mk op' n' v' name' nl' args')->(xL args)[i]?=some (xds op' n' v' name' (ng nl' (xL args'))):=λi op' n' v' name' nl' args' h=>by
  rw[<- Ex.ds_mk];exact xL_get h
 obtain⟨d,hde⟩:∃d,d=ng nl (xL args):=⟨_,rfl⟩
 rw[<- hde] at hd ⊢
 obtain⟨es,hes⟩:∃es,es=xL args:=⟨_,rfl⟩
 rw[<- hes] at hlen hm hd hget
 by_cases h1:m=1
 ·subst h1
  rw[show min 1 (1+mx (args.map dep))=1 by omega]
  repeat' first|refine st ?_|((with_reducible apply go_i);conv=>whnf)|refine⟨λ_=>?_,λ_=>?_⟩|fail
  all_goals rfl
 have h2:¬(m:Int)<=1:=by omega
 repeat' first|refine st ?_|((with_reducible apply go_i);conv=>whnf)|refine⟨λ_=>?_,λ_=>?_⟩|fail
 refine x_loop2 mixed Lt.expr_depth_l0 Lk.expr_depth_l0 (λ(i:Nat) (t:Nat)=>[.d (eI t),.d (eI i)]) (λi t=>[.cells [.d (eI op),.d (eI n),.d (eI v.k),.d (eI v.n),.d (.str v.s),.d (.str name),.d d]]) (λi t=>i<=args.length/\t=min m (1+mx ((args.map dep).take i))) (λi _=>args.length-i) 0 1 rfl rfl rfl rfl (λ_ _ _=>⟨rfl,rfl⟩) rfl ⟨by omega,by simp[mx];omega⟩ ?_
 repeat' first|refine st ?_|((with_reducible apply go_i);conv=>whnf)|refine⟨λ_=>?_,λ_=>?_⟩|fail
 intro i t ⟨h4,h5⟩
 cases hx:args[i]? with
 |some x=>
  have hlt:=(List.getElem?_eq_some_iff.1 hx).1
  have hI:=ih' x (List.mem_of_getElem? hx) (m-1) (by omega) (by omega)
  have hmx:=mx_succ (l:=args.map dep) (i:=i) (x:=dep x) (by rw[List.getElem?_map,hx];rfl)
  rw[show((m-1:Nat):Int)=(m:Int)-1 by omega] at hI
  obtain⟨y,hy⟩:∃y,y=dep x:=⟨_,rfl⟩
  rw[<- hy] at hI hmx
  obtain⟨op',n',v',name',nl',args'⟩:=x
  rw[Ex.av_mk] at hI
  have hg:=hget i _ _ _ _ _ _ hx
  repeat' first|refine st ?_|((with_reducible apply go_i);conv=>whnf)|refine⟨λ_=>?_,λ_=>?_⟩|fail
  refine⟨i+1,max t (1+min (m-1) y),?_,rfl,rfl,by omega,by omega,?_⟩
  ·simp only[List.cons.injEq,AV.d.injEq,D.int.injEq,true_and,and_true]
   omega
  ·rw[hmx];omega
 |none=>
  have hge:=List.getElem?_eq_none_iff.1 hx
  rw[List.take_of_length_le (by simpa using hge)] at h5
  repeat' first|refine st ?_|((with_reducible apply go_i);conv=>whnf)|refine⟨λ_=>?_,λ_=>?_⟩|fail
  rw[h5]
theorem C.expr_Depth(e:Ex)(he:e.bk<=1048576):Pure Tryz.prog N.expr_Depth [e.av] (.d (eI (min 25 (dep e):Nat))):=by
 have h:=C.expr_depth e he 25 (by omega) (by omega)
 obtain⟨op,n,v,name,nl,args⟩:=e
 rw[Ex.av_mk] at h ⊢
 refine F.expr_Depth.go mixed rfl ?_
 repeat' first|refine st ?_|((with_reducible apply go_i);conv=>whnf)|refine⟨λ_=>?_,λ_=>?_⟩|fail
theorem C.r11_depth:∀e:Ex,e.bk<=1048576->Pure Tryz.prog N.bt_ref11_depth [e.av] (.d (eI (dep e:Nat))):=by
 refine Ex.ind λop n v name nl args ih hbk=>?_
 have hdb:=dep_bk (.mk op n v name nl args)
 obtain⟨b1,b2,b3,b4⟩:=Ex.bk_bounds hbk
 have ih':∀a∈args,Pure Tryz.prog N.bt_ref11_depth [a.av] (.d (eI (dep a:Nat))):=λa ha=>ih a ha (b4 a ha)
 clear ih
 rw[dep_mk] at hdb
 rw[Ex.av_mk,dep_mk]
 refine F.bt_ref11_depth.go mixed rfl ?_
 have hlen:=xL_len args
 have hm:=xL_mem args
 have hd:SlD (ng nl (xL args)) (xL args):=sld_ng
 have hget:∀(i:Nat) (op' n':Int) (v':Vl) (name':List UInt8) (nl':Bool) (args':List Ex),args[i]?=some (.mk op' n' v' name' nl' args')->(xL args)[i]?=some (xds op' n' v' name' (ng nl' (xL args'))):=λi op' n' v' name' nl' args' h=>by
  rw[<- Ex.ds_mk];exact xL_get h
 obtain⟨d,hde⟩:∃d,d=ng nl (xL args):=⟨_,rfl⟩
 rw[<- hde] at hd ⊢
 obtain⟨es,hes⟩:∃es,es=xL args:=⟨_,rfl⟩
 rw[<- hes] at hlen hm hd hget
 repeat' first|refine st ?_|((with_reducible apply go_i);conv=>whnf)|refine⟨λ_=>?_,λ_=>?_⟩|fail
 refine x_loop2 mixed Lt.bt_ref11_depth_l0 Lk.bt_ref11_depth_l0 (λ(i:Nat) (t:Nat)=>[.d (eI t),.d (eI i)]) (λi t=>[.cells [.d (eI op),.d (eI n),.d (eI v.k),.d (eI v.n),.d (.str v.s),.d (.str name),.d d]]) (λi t=>i<=args.length/\t=mx ((args.map dep).take i)) (λi _=>args.length-i) 0 0 rfl rfl rfl rfl (λ_ _ _=>⟨rfl,rfl⟩) rfl ⟨by omega,rfl⟩ ?_
 repeat' first|refine st ?_|((with_reducible apply go_i);conv=>whnf)|refine⟨λ_=>?_,λ_=>?_⟩|fail
 intro i t ⟨h4,h5⟩
 cases hx:args[i]? with
 |some x=>
  have hlt:=(List.getElem?_eq_some_iff.1 hx).1
  have hI:=ih' x (List.mem_of_getElem? hx)
  have hmx:=mx_succ (l:=args.map dep) (i:=i) (x:=dep x) (by rw[List.getElem?_map,hx];rfl)
  obtain⟨y,hy⟩:∃y,y=dep x:=⟨_,rfl⟩
  rw[<- hy] at hI hmx
  obtain⟨op',n',v',name',nl',args'⟩:=x
  rw[Ex.av_mk] at hI
  have hg:=hget i _ _ _ _ _ _ hx
  repeat' first|refine st ?_|((with_reducible apply go_i);conv=>whnf)|refine⟨λ_=>?_,λ_=>?_⟩|fail
  refine⟨i+1,max t y,?_,rfl,rfl,by omega,by omega,?_⟩
  ·simp only[List.cons.injEq,AV.d.injEq,D.int.injEq,true_and,and_true]
   omega
  ·rw[hmx,h5]
 |none=>
  have hge:=List.getElem?_eq_none_iff.1 hx
  rw[List.take_of_length_le (by simpa using hge)] at h5
  repeat' first|refine st ?_|((with_reducible apply go_i);conv=>whnf)|refine⟨λ_=>?_,λ_=>?_⟩|fail
  rw[h5]
  simp only[AV.d.injEq,D.int.injEq,true_and]
  omega
end Go.Proofs
end
section
namespace Go.Proofs
open Go.Bi
def uniF(k:Int):List Int->Int×Bool
 |[]=>(k,true)
 |x::l=>if x=0 then uniF k l else if k≠0/\k≠x then (0,false) else uniF x l
def uni(l:List Int):Int×Bool:=uniF 0 l
theorem uniF_drop{k:Int}{l:List Int}{i:Nat}{x:Int}(h:l[i]?=some x):uniF k (l.drop i)=if x=0 then uniF k (l.drop (i+1)) else if k≠0/\k≠x then (0,false) else uniF x (l.drop (i+1)):=by
 obtain⟨hlt,he⟩:=List.getElem?_eq_some_iff.1 h
 rw[List.drop_eq_getElem_cons hlt,he];rfl
theorem C.expr_unite(l:List Int)(hl:l.length<=1048577)(d:D)(hd:SlD d (eIs l)):Pure Tryz.prog N.expr_unite [.d d] (.tup [.d (eI (uni l).1),.d (.bool (uni l).2)]):=by
 refine F.expr_unite.go mixed rfl ?_
 have h1:=eIs_len l
 have hm:=eIs_mem l
 repeat' first|refine st ?_|((with_reducible apply go_i);conv=>whnf)|refine⟨λ_=>?_,λ_=>?_⟩|fail
 refine x_loop2 mixed Lt.expr_unite_l0 Lk.expr_unite_l0 (λ(i:Nat) (k:Int)=>[.d (eI k),.d (eI i)]) (λi k=>[]) (λi k=>i<=l.length/\uni l=uniF k (l.drop i)) (λi _=>l.length-i) 0 0 rfl rfl rfl rfl (λ_ _ _=>⟨rfl,rfl⟩) rfl ⟨by omega,rfl⟩ ?_
 repeat' first|refine st ?_|((with_reducible apply go_i);conv=>whnf)|refine⟨λ_=>?_,λ_=>?_⟩|fail
 intro i k ⟨h2,h3⟩
 cases hx:l[i]? with
 |some x=>
  have hlt:=(List.getElem?_eq_some_iff.1 hx).1
  have hg:=eIs_get hx
  rw[uniF_drop hx] at h3
  by_cases hx0:x=0
  ·rw[if_pos hx0] at h3
   repeat' first|refine st ?_|((with_reducible apply go_i);conv=>whnf)|refine⟨λ_=>?_,λ_=>?_⟩|fail
   exact⟨i+1,_,rfl,rfl,rfl,by omega,by omega,h3⟩
  ·rw[if_neg hx0] at h3
   by_cases hk:k≠0/\k≠x
   ·rw[if_pos hk] at h3
    rw[h3]
    obtain⟨hk1,hk2⟩:=hk
    repeat' first|refine st ?_|((with_reducible apply go_i);conv=>whnf)|refine⟨λ_=>?_,λ_=>?_⟩|fail
    all_goals rfl
   ·rw[if_neg hk] at h3
    by_cases hk0:k=0
    ·repeat' first|refine st ?_|((with_reducible apply go_i);conv=>whnf)|refine⟨λ_=>?_,λ_=>?_⟩|fail
     exact⟨i+1,_,rfl,rfl,rfl,by omega,by omega,h3⟩
    ·have hkx:k=x:=by omega
     repeat' first|refine st ?_|((with_reducible apply go_i);conv=>whnf)|refine⟨λ_=>?_,λ_=>?_⟩|fail
     exact⟨i+1,_,rfl,rfl,rfl,by omega,by omega,h3⟩
 |none=>
  have hge:=List.getElem?_eq_none_iff.1 hx
  rw[List.drop_eq_nil_of_le hge] at h3
  rw[h3]
  repeat' first|refine st ?_|((with_reducible apply go_i);conv=>whnf)|refine⟨λ_=>?_,λ_=>?_⟩|fail
  all_goals rfl
theorem C.r11_Join(l:List Int)(hl:l.length<=1048577)(d:D)(hd:SlD d (eIs l)):Pure Tryz.prog N.bt_ref11_Join [.d d] (.tup [.d (eI (uni l).1),.d (.bool (uni l).2)]):=by
 refine F.bt_ref11_Join.go mixed rfl ?_
 have h1:=eIs_len l
 have hm:=eIs_mem l
 repeat' first|refine st ?_|((with_reducible apply go_i);conv=>whnf)|refine⟨λ_=>?_,λ_=>?_⟩|fail
 refine x_loop2 mixed Lt.bt_ref11_Join_l0 Lk.bt_ref11_Join_l0 (λ(i:Nat) (k:Int)=>[.d (eI k),.d (eI i)]) (λi k=>[]) (λi k=>i<=l.length/\uni l=uniF k (l.drop i)) (λi _=>l.length-i) 0 0 rfl rfl rfl rfl (λ_ _ _=>⟨rfl,rfl⟩) rfl ⟨by omega,rfl⟩ ?_
 repeat' first|refine st ?_|((with_reducible apply go_i);conv=>whnf)|refine⟨λ_=>?_,λ_=>?_⟩|fail
 intro i k ⟨h2,h3⟩
 cases hx:l[i]? with
 |some x=>
  have hlt:=(List.getElem?_eq_some_iff.1 hx).1
  have hg:=eIs_get hx
  rw[uniF_drop hx] at h3
  by_cases hx0:x=0
  ·rw[if_pos hx0] at h3
   repeat' first|refine st ?_|((with_reducible apply go_i);conv=>whnf)|refine⟨λ_=>?_,λ_=>?_⟩|fail
   exact⟨i+1,_,rfl,rfl,rfl,by omega,by omega,h3⟩
  ·rw[if_neg hx0] at h3
   by_cases hk:k≠0/\k≠x
   ·rw[if_pos hk] at h3
    rw[h3]
    obtain⟨hk1,hk2⟩:=hk
    repeat' first|refine st ?_|((with_reducible apply go_i);conv=>whnf)|refine⟨λ_=>?_,λ_=>?_⟩|fail
    all_goals rfl
   ·rw[if_neg hk] at h3
    by_cases hk0:k=0
    ·repeat' first|refine st ?_|((with_reducible apply go_i);conv=>whnf)|refine⟨λ_=>?_,λ_=>?_⟩|fail
     exact⟨i+1,_,rfl,rfl,rfl,by omega,by omega,h3⟩
    ·have hkx:k=x:=by omega
     repeat' first|refine st ?_|((with_reducible apply go_i);conv=>whnf)|refine⟨λ_=>?_,λ_=>?_⟩|fail
     exact⟨i+1,_,rfl,rfl,rfl,by omega,by omega,h3⟩
 |none=>
  have hge:=List.getElem?_eq_none_iff.1 hx
  rw[List.drop_eq_nil_of_le hge] at h3
  rw[h3]
  repeat' first|refine st ?_|((with_reducible apply go_i);conv=>whnf)|refine⟨λ_=>?_,λ_=>?_⟩|fail
  all_goals rfl
def allK(l:List Int)(c:Int):Bool:=l.all λx=>decide (x=c\/x=0)
theorem uni_all(c:Int)(hc:c≠0):∀(l:List Int)(k:Int),((uniF k (l++[c])).2&&decide ((uniF k (l++[c])).1=c))=(decide (k=0\/k=c)&&allK l c)
 |[],k=>by
  simp only[List.nil_append,uniF,if_neg hc,allK,List.all_nil,Bool.and_true]
  by_cases h:k≠0/\k≠c
  ·rw[if_pos h,decide_eq_false (show ¬(k=0\/k=c) by omega)];rfl
  ·rw[if_neg h,decide_eq_true (show k=0\/k=c by omega)];simp
 |x::l,k=>by
  have ih:=uni_all c hc l
  simp only[List.cons_append,uniF,allK,List.all_cons] at ih ⊢
  by_cases hx:x=0
  ·rw[if_pos hx,ih k,decide_eq_true (show x=c\/x=0 from .inr hx)];simp
  ·rw[if_neg hx]
   by_cases h:k≠0/\k≠x
   ·rw[if_pos h]
    by_cases hxc:x=c
    ·rw[decide_eq_false (show ¬(k=0\/k=c) by omega)];simp
    ·rw[decide_eq_false (show ¬(x=c\/x=0) by omega)];simp
   ·rw[if_neg h,ih x]
    by_cases hxc:x=c
    ·rw[decide_eq_true (show x=0\/x=c from .inr hxc),decide_eq_true (show x=c\/x=0 from .inl hxc),decide_eq_true (show k=0\/k=c by omega)];simp
    ·rw[decide_eq_false (show ¬(x=0\/x=c) by omega),decide_eq_false (show ¬(x=c\/x=0) by omega)];simp
theorem C.clone_nil:Pure Tryz.prog N.slices_Clone__int_int [.d .nil] (.d .nil):=by
 refine F.slices_Clone__int_int.go mixed rfl ?_
 repeat' first|refine st ?_|((with_reducible apply go_i);conv=>whnf)|refine⟨λ_=>?_,λ_=>?_⟩|fail
theorem C.clone_sl(es:List (List D))(hl:es.length<=1048577)(hm:∀e∈es,e.length=1):CallSpec Tryz.prog N.slices_Clone__int_int [.d (.sl es)] [] (λr os=>r=.arr 0 es.length/\os=[.arr es 1 0 false]):=by
 refine F.slices_Clone__int_int.goO mixed rfl ?_
 have h0:([]:List (List D)).length=0:=rfl
 have h00:(([]:List (List D))++es).length=es.length:=rfl
 have hb:(([]:List (List D)).length+es.length)*8<=140737488355328/\([]:List (List D)).length+es.length<=9223372036854775807:=by rw[h0];omega
 repeat' first|refine st ?_|((with_reducible apply go_i);conv=>whnf)|refine⟨λ_=>?_,λ_=>?_⟩|fail
 all_goals (refine⟨rfl,?_⟩;cases es<;>rfl)
theorem eIs_app(l:List Int)(x:Int):eIs l++[[eI x]]=eIs (l++[x]):=by simp[eIs]
theorem C.expr_all(l:List Int)(hl:l.length<=1048576)(d:D)(hd:SlD d (eIs l))(c:Int)(hc:c≠0):Pure Tryz.prog N.expr_all [.d d,.d (eI c)] (.d (.bool (allK l c))):=by
 refine F.expr_all.go mixed rfl ?_
 have h1:=eIs_len l
 have hm:=eIs_mem l
 have hU:=C.expr_unite (l++[c]) (by simp;omega) (.sl (eIs (l++[c]))) sld_sl
 have hres:=uni_all c hc l 0
 rw[show decide ((0:Int)=0\/(0:Int)=c)=true from rfl,Bool.true_and] at hres
 rw[<- hres]
 unfold uni at hU
 rw[<- eIs_app] at hU
 obtain⟨x,b⟩:∃x b,uniF 0 (l++[c])=(x,b):=⟨_,_,rfl⟩
 rcases hd with ⟨rfl,he⟩|rfl
 ·rw[he] at hU
  repeat' first|refine st ?_|((with_reducible apply go_i);conv=>whnf)|((with_reducible first|apply k_pn|apply k_pc);(·exact C.clone_nil))|refine⟨λ_=>?_,λ_=>?_⟩|fail
  all_goals simp[*]
 ·have hC:=C.clone_sl (eIs l) (by omega) hm
  have ha:(eIs l++[[eI c]]).length=l.length+1:=by simp[h1]
  repeat' first|refine st ?_|((with_reducible apply go_i);conv=>whnf)|((with_reducible first|apply k_nc|apply k_cs);(·exact hC);(try rintro _ _ ⟨rfl,rfl⟩))|((with_reducible apply k_pr);(·exact hC))|refine⟨λ_=>?_,λ_=>?_⟩|fail
  all_goals simp[*]
theorem C.r11_all(l:List Int)(hl:l.length<=1048577)(d:D)(hd:SlD d (eIs l))(c:Int):Pure Tryz.prog N.bt_ref11_all [.d d,.d (eI c)] (.d (.bool (allK l c))):=by
 refine F.bt_ref11_all.go mixed rfl ?_
 have h1:=eIs_len l
 have hm:=eIs_mem l
 repeat' first|refine st ?_|((with_reducible apply go_i);conv=>whnf)|refine⟨λ_=>?_,λ_=>?_⟩|fail
 refine x_loop1 mixed Lt.bt_ref11_all_l0 Lk.bt_ref11_all_l0 (λ(i:Nat)=>[.d (eI i)]) (λi=>[]) (λi=>i<=l.length/\(l.take i).all (λx=>decide (x=c\/x=0))=true) (λi=>l.length-i) 0 rfl rfl rfl rfl (λ_ _=>⟨rfl,rfl⟩) rfl ⟨by omega,rfl⟩ ?_
 repeat' first|refine st ?_|((with_reducible apply go_i);conv=>whnf)|refine⟨λ_=>?_,λ_=>?_⟩|fail
 intro i ⟨h2,h3⟩
 cases hx:l[i]? with
 |some x=>
  have hlt:=(List.getElem?_eq_some_iff.1 hx).1
  have hg:=eIs_get hx
  by_cases hk:x=c
  ·repeat' first|refine st ?_|((with_reducible apply go_i);conv=>whnf)|refine⟨λ_=>?_,λ_=>?_⟩|fail
   refine⟨i+1,rfl,rfl,rfl,by omega,by omega,?_⟩
   rw[all_take_succ hx,h3,decide_eq_true (show x=c\/x=0 from .inl hk)];rfl
  ·by_cases hk0:x=0
   ·repeat' first|refine st ?_|((with_reducible apply go_i);conv=>whnf)|refine⟨λ_=>?_,λ_=>?_⟩|fail
    refine⟨i+1,rfl,rfl,rfl,by omega,by omega,?_⟩
    rw[all_take_succ hx,h3,decide_eq_true (show x=c\/x=0 from .inr hk0)];rfl
   ·repeat' first|refine st ?_|((with_reducible apply go_i);conv=>whnf)|refine⟨λ_=>?_,λ_=>?_⟩|fail
    rw[allK,all_none hx (decide_eq_false (show ¬(x=c\/x=0) by omega))]
 |none=>
  have hge:=List.getElem?_eq_none_iff.1 hx
  rw[List.take_of_length_le hge] at h3
  repeat' first|refine st ?_|((with_reducible apply go_i);conv=>whnf)|refine⟨λ_=>?_,λ_=>?_⟩|fail
  rw[allK,h3]
end Go.Proofs
end
section
namespace Go.Proofs
open Go.Bi
def res(op:Int)(v:Vl)(l:List Int):Int×Bool:=
 if op=1 then (v.k,true)
 else if op=4\/op=5\/op=6 then (3,allK l 3)
 else if op=7\/op=8\/op=9\/op=10\/op=11\/op=12 then (3,(uni l).2)
 else if op=19 then (2,allK l 2)
 else if op=20 then (1,allK l 2)
 else if op=21 then (3,true)
 else if op=22 then ((uni (l.drop 1)).1,(uni (l.drop 1)).2&&allK (l.take 1) 3)
 else if op=23 then uni l
 else if op=24 then (3,allK l 1) else (1,allK l 1)
theorem eIs_drop(l:List Int)(i:Nat):(eIs l).drop i=eIs (l.drop i):=by simp[eIs]
theorem eIs_take(l:List Int)(i:Nat):(eIs l).take i=eIs (l.take i):=by simp[eIs]
theorem C.expr_result(op n:Int)(v:Vl)(name:List UInt8)(d0:D)(l:List Int)(hl:l.length<=1048576)(d:D)(hd:SlD d (eIs l))(h22:op=22->1<=l.length):Pure Tryz.prog N.expr_result [eX op n v name d0,.d d] (.tup [.d (eI (res op v l).1),.d (.bool (res op v l).2)]):=by
 refine F.expr_result.go mixed rfl ?_
 have h1:=eIs_len l
 have hm:=eIs_mem l
 by_cases h22':op=22
 ·subst h22'
  have hl1:=h22 rfl
  rcases hd with ⟨rfl,he⟩|rfl
  ·rw[he] at h1;simp at h1;omega
  have hU:=C.expr_unite (l.drop 1) (by simp;omega) (.sl (eIs (l.drop 1))) sld_sl
  have hA:=C.expr_all (l.take 1) (by simp;omega) (.sl (eIs (l.take 1))) sld_sl 3 (by decide)
  have hcut:((eIs l).drop (1:Int).toNat).take (((eIs l).length:Int).toNat-(1:Int).toNat)=eIs (l.drop 1):=by
   rw[<- eIs_drop,show(1:Int).toNat=1 from rfl,List.take_of_length_le]
   simp
  have hcut2:((eIs l).drop ((0:Nat):Int).toNat).take ((1:Int).toNat-((0:Nat):Int).toNat)=eIs (l.take 1):=by
   rw[<- eIs_take];rfl
  rw[show res 22 v l=((uni (l.drop 1)).1,(uni (l.drop 1)).2&&allK (l.take 1) 3) from rfl]
  obtain⟨⟨k,b⟩,hkb⟩:∃kb,uni (l.drop 1)=kb:=⟨_,rfl⟩
  rw[hkb] at hU ⊢
  obtain⟨z,hz⟩:∃z,allK (l.take 1) 3=z:=⟨_,rfl⟩
  rw[hz] at hA ⊢
  obtain⟨e1,he1⟩:∃e1,e1=eIs (l.drop 1):=⟨_,rfl⟩
  obtain⟨e2,he2⟩:∃e2,e2=eIs (l.take 1):=⟨_,rfl⟩
  rw[<- he1] at hU hcut
  rw[<- he2] at hA hcut2
  have hel:((eIs l).length:Int)=l.length:=by rw[h1]
  obtain⟨es,hes⟩:∃es,es=eIs l:=⟨_,rfl⟩
  rw[<- hes] at hcut hcut2 hel hm h1 ⊢
  cases b with
  |false=>
   repeat' first|refine st ?_|refine⟨λ_=>?_,λ_=>?_⟩|fail
   all_goals (try rw[hcut])
   repeat' first|refine st ?_|refine⟨λ_=>?_,λ_=>?_⟩|fail
   all_goals rfl
  |true=>
   repeat' first|refine st ?_|refine⟨λ_=>?_,λ_=>?_⟩|fail
   all_goals (try rw[hcut])
   repeat' first|refine st ?_|refine⟨λ_=>?_,λ_=>?_⟩|fail
   all_goals (try rw[hcut2])
   repeat' first|refine st ?_|refine⟨λ_=>?_,λ_=>?_⟩|fail
   all_goals rfl
 have A3:=C.expr_all l hl d hd 3 (by decide)
 have A2:=C.expr_all l hl d hd 2 (by decide)
 have A1:=C.expr_all l hl d hd 1 (by decide)
 have U:=C.expr_unite l (by omega) d hd
 repeat' first|refine st ?_|((with_reducible first|apply k_pn|apply k_pc);(·first|exact A3|exact A2|exact A1|exact U))|refine⟨λ_=>?_,λ_=>?_⟩|fail
 all_goals first
  |(subst_vars;rfl)
  |(simp only[res];rw[if_neg (by omega),if_neg (by omega),if_neg (by omega),if_neg (by omega),if_neg (by omega),if_neg (by omega),if_neg (by omega),if_neg (by omega),if_neg (by omega)])
theorem C.r11_result2(n:Int)(v:Vl)(name:List UInt8)(d0:D)(l ks:List Int)(d:D)(hd:SlD d (eIs l))(dk:D)(hdk:SlD dk (eIs ks))(k:Int)(h0:0<=n)(hk:ks[n.toNat]?=some k):Pure Tryz.prog N.bt_ref11_result [eX 2 n v name d0,.d d,.d dk] (.tup [.d (eI k),.d (.bool true)]):=by
 refine F.bt_ref11_result.go mixed rfl ?_
 have h1:=eIs_len ks
 have hm:=eIs_mem ks
 have hg:=eIs_get hk
 have hlt:=(List.getElem?_eq_some_iff.1 hk).1
 have hn2:n<(eIs ks).length:=by omega
 repeat' first|refine st ?_|refine⟨λ_=>?_,λ_=>?_⟩|fail
 all_goals rfl
theorem C.r11_result(op n:Int)(v:Vl)(name:List UInt8)(d0:D)(l:List Int)(hl:l.length<=1048576)(d:D)(hd:SlD d (eIs l))(dk:D)(h22:op=22->1<=l.length)(hop:op=1\/4<=op/\op<=24)(h2:op≠2):Pure Tryz.prog N.bt_ref11_result [eX op n v name d0,.d d,.d dk] (.tup [.d (eI (res op v l).1),.d (.bool (res op v l).2)]):=by
  refine F.bt_ref11_result.go mixed rfl ?_
  have h1:=eIs_len l
  have hm:=eIs_mem l
  by_cases h22':op=22
  · subst h22'
    have hl1:=h22 rfl
    rcases hd with ⟨rfl,he⟩|rfl
    · rw[he] at h1;simp at h1;omega
    have hU:=C.r11_Join (l.drop 1) (by simp;omega) (.sl (eIs (l.drop 1))) sld_sl
    have hA:=C.r11_all (l.take 1) (by simp;omega) (.sl (eIs (l.take 1))) sld_sl 3
    have hcut:((eIs l).drop (1:Int).toNat).take (((eIs l).length:Int).toNat-(1:Int).toNat)=eIs (l.drop 1):=by
      rw[<- eIs_drop,show(1:Int).toNat=1 from rfl,List.take_of_length_le]
      simp
    have hcut2:((eIs l).drop ((0:Nat):Int).toNat).take ((1:Int).toNat-((0:Nat):Int).toNat)=eIs (l.take 1):=by
      rw[<- eIs_take];rfl
    rw[show res 22 v l=((uni (l.drop 1)).1,(uni (l.drop 1)).2&&allK (l.take 1) 3) from rfl]
    obtain⟨⟨k,b⟩,hkb⟩:∃kb,uni (l.drop 1)=kb:=⟨_,rfl⟩
    rw[hkb] at hU ⊢
    obtain⟨z,hz⟩:∃z,allK (l.take 1) 3=z:=⟨_,rfl⟩
    rw[hz] at hA ⊢
    obtain⟨e1,he1⟩:∃e1,e1=eIs (l.drop 1):=⟨_,rfl⟩
    obtain⟨e2,he2⟩:∃e2,e2=eIs (l.take 1):=⟨_,rfl⟩
    rw[<- he1] at hU hcut
    rw[<- he2] at hA hcut2
    have hel:((eIs l).length:Int)=l.length:=by rw[h1]
    obtain⟨es,hes⟩:∃es,es=eIs l:=⟨_,rfl⟩
    rw[<- hes] at hcut hcut2 hel hm h1 ⊢
    cases b with
    |false=>
      repeat' first|refine st ?_|refine⟨λ_=>?_,λ_=>?_⟩|fail
      all_goals (try rw[hcut])
      repeat' first|refine st ?_|refine⟨λ_=>?_,λ_=>?_⟩|fail
      all_goals rfl
    |true=>
      repeat' first|refine st ?_|refine⟨λ_=>?_,λ_=>?_⟩|fail
      all_goals (try rw[hcut])
      repeat' first|refine st ?_|refine⟨λ_=>?_,λ_=>?_⟩|fail
      all_goals (try rw[hcut2])
      repeat' first|refine st ?_|refine⟨λ_=>?_,λ_=>?_⟩|fail
      all_goals rfl
  have A3:=C.r11_all l (by omega) d hd 3
  have A2:=C.r11_all l (by omega) d hd 2
  have A1:=C.r11_all l (by omega) d hd 1
  have U:=C.r11_Join l (by omega) d hd
  repeat' first|refine st ?_|((with_reducible first|apply k_pn|apply k_pc);(·first|exact A3|exact A2|exact A1|exact U))|refine⟨λ_=>?_,λ_=>?_⟩|fail
  all_goals first
    |(subst_vars;rfl)
    | (have : op = 24 := by omega
       subst this;rfl)
end Go.Proofs
end
