/- The frame rule of contracts: a call touches only the objects that it is handed. No condition. -/
import Derived.Test.YthaildbjjlpdgaaGreatBU
set_option linter.unusedVariables false
namespace Go.Bi
set_option linter.unusedSectionVars false
variable [Globs]
def mC(f:Nat->Nat):AV->AV
 |.ptr id off=>.ptr (f id) off
 |.aptr id len i off=>.aptr (f id) len i off
 |.arr id len=>.arr (f id) len
 |.clo g caps=>.clo g (caps.map f)
 |.bcl g id=>.bcl g (f id)
 |.iter id=>.iter (f id)
 |.mp id=>.mp (f id)
 |.mit id=>.mit (f id)
 |.rs id len=>.rs (f id) len
 |.rp id len i off=>.rp (f id) len i off
 |.sub id tot lo n=>.sub (f id) tot lo n
 |a=>a
def mG(f:Nat->Nat):AV->AV
 |.agg cs=>.agg (cs.map (mC f))
 |a=>mC f a
def mA(f:Nat->Nat):AV->AV
 |.tup cs=>.tup (cs.map (mG f))
 |a=>mG f a
def mO(f:Nat->Nat):AO->AO
 |.cells cs=>.cells (cs.map (mC f))
 |.map kvs=>.map (kvs.map λp=>(p.1,mG f p.2))
 |.mit m n s=>.mit (f m) n s
 |.rarr es sz nl=>.rarr (es.map λe=>e.map (mC f)) sz nl
 |o=>o
theorem mO_live{f:Nat->Nat}{o:AO}:(mO f o).live=o.live:=by
 cases o with
 |rarr es sz nl=>cases nl<;>rfl
 |_=>rfl
def rn(σ:List Nat)(n i:Nat):Nat:=if Nat.blt i σ.length then σ.getD i 0 else n+(i-σ.length)
def putA(f:Nat->Nat):List Nat->List AO->List AO->List AO
 |[],bs,os=>os++bs.map (mO f)
 |s::σ,b::bs,os=>putA f σ bs (os.set s (mO f b))
 |_::_,[],os=>os
theorem putA_get(f:Nat->Nat):∀(σ:List Nat) (bs os:List AO),σ.Nodup->(∀s∈σ,s<os.length)->σ.length<=bs.length->
  (∀(i s:Nat) b,σ[i]?=some s->bs[i]?=some b->(putA f σ bs os)[s]?=some (mO f b))/\(∀j,j<os.length->j∉ σ->(putA f σ bs os)[j]?=os[j]?)/\
  (∀i b,bs[σ.length+i]?=some b->(putA f σ bs os)[os.length+i]?=some (mO f b))/\(putA f σ bs os).length=os.length+(bs.length-σ.length)
 |[],bs,os,_,_,_=>by
  refine⟨λi s b h=>by simp at h,λj hj _=>?_,λi b h=>?_,by simp[putA]⟩
  ·simp only[putA];rw[List.getElem?_append_left hj]
  ·simp only[putA]
   rw[List.getElem?_append_right (by omega)]
   rw[List.getElem?_map,show os.length+i-os.length=i by omega]
   simp at h
   rw[h];rfl
 |s::σ,[],os,_,_,hl=>by simp at hl
 |s::σ,b::bs,os,hn,hs,hl=>by
  have hn':=List.nodup_cons.1 hn
  obtain⟨g1,g2,g3,g4⟩:=putA_get f σ bs (os.set s (mO f b)) hn'.2 (λx hx=>by simpa using hs x (by simp[hx])) (by simpa using hl)
  have hslt:=hs s (by simp)
  refine⟨λi x c h1 h2=>?_,λj hj hjn=>?_,λi c h=>?_,?_⟩
  ·cases i with
   |zero=>
    simp at h1 h2
    subst h1;subst h2
    simp only[putA]
    rw[g2 s (by simpa using hslt) hn'.1]
    simp[hslt]
   |succ i=>exact g1 i x c (by simpa using h1) (by simpa using h2)
  ·simp only[List.mem_cons,not_or] at hjn
   simp only[putA]
   rw[g2 j (by simpa using hj) hjn.2,List.getElem?_set_ne (λe=>hjn.1 e.symm)]
  ·simp only[putA]
   have:=g3 i c (by rw[<- h];simp only[List.length_cons];rw[show σ.length+1+i=(σ.length+i)+1 by omega,List.getElem?_cons_succ])
   simpa using this
  ·simp only[putA,g4,List.length_set,List.length_cons];omega
section
variable {P:Program}{M M':Mem}{G Gb G' G2:Gh}{os bs os' bs':List AO}{w w':World}{f:Nat->Nat}
theorem VC.ren{bs' os':List AO}{G' G2:Gh}(hb:∀i o,bs'[i]?=some o->os'[f i]?=some (mO f o)/\G2.blk (f i)=G'.blk i/\G2.cap (f i)=G'.cap i){c:AV}{u:Value}(h:VC M G' bs' c u):VC M G2 os' (mC f c) u:=by
 cases c with
 |d x=>exact h
 |agg cs=>exact h
 |tup cs=>exact h
 |ptr id off=>
  obtain⟨rfl,cs,h2⟩:=h
  obtain⟨k1,k2,k3⟩:=hb _ _ h2
  exact⟨by rw[k2],_,k1⟩
 |aptr id len i off=>
  obtain⟨h0,es,sz,frz,nl,h1,h2,h3⟩:=h
  obtain⟨k1,k2,k3⟩:=hb _ _ h1
  exact⟨h0,es,sz,frz,nl,k1,h2,λe=>by rw[k2];exact h3 e⟩
 |dptr es i off=>exact h
 |arr id len=>
  obtain⟨h0,es,sz,frz,nl,h1,h2,h3⟩:=h
  obtain⟨k1,k2,k3⟩:=hb _ _ h1
  exact⟨h0,es,sz,frz,nl,k1,h2,λe=>by rw[h3 e,Gh.slv,Gh.slv,k2,k3]⟩
 |clo g caps=>
  obtain⟨rfl,h2⟩:=h
  refine⟨?_,λid hid=>?_⟩
  ·congr 2
   rw[List.map_map]
   refine List.map_congr_left λid hid=>?_
   obtain⟨cs,hc⟩:=h2 id hid
   simp only[Function.comp]
   rw[(hb _ _ hc).2.1]
  ·obtain⟨i,hi,rfl⟩:=List.mem_map.1 hid
   obtain⟨cs,hc⟩:=h2 i hi
   exact⟨_,(hb _ _ hc).1⟩
 |bcl g id=>
  obtain⟨rfl,cs,h2⟩:=h
  obtain⟨k1,k2,k3⟩:=hb _ _ h2
  exact⟨by rw[k2],_,k1⟩
 |iter id=>
  obtain⟨rfl,s,p,h2⟩:=h
  obtain⟨k1,k2,k3⟩:=hb _ _ h2
  exact⟨by rw[k2],s,p,k1⟩
 |mp id=>
  obtain⟨rfl,kvs,h2⟩:=h
  obtain⟨k1,k2,k3⟩:=hb _ _ h2
  exact⟨by rw[k2],_,k1⟩
 |mit id=>
  obtain⟨rfl,m,n,s,h2⟩:=h
  obtain⟨k1,k2,k3⟩:=hb _ _ h2
  exact⟨by rw[k2],_,_,_,k1⟩
 |rs id len=>
  obtain⟨h0,es,sz,nl,h1,h2,h3⟩:=h
  obtain⟨k1,k2,k3⟩:=hb _ _ h1
  exact⟨h0,_,sz,nl,k1,by rw[List.length_map];exact h2,λe=>by rw[List.length_map] at e ⊢;rw[h3 e,Gh.slv,Gh.slv,k2,k3]⟩
 |rp id len i off=>
  obtain⟨h0,es,sz,nl,h1,h2,h3⟩:=h
  obtain⟨k1,k2,k3⟩:=hb _ _ h1
  exact⟨h0,_,sz,nl,k1,by rw[List.length_map];exact h2,λe=>by rw[List.length_map] at e;rw[k2];exact h3 e⟩
 |full es=>exact h
 |sub id tot lo n=>
  obtain⟨h0,es,sz,frz,nl,h1,h2,hln,h3⟩:=h
  obtain⟨k1,k2,k3⟩:=hb _ _ h1
  exact⟨h0,es,sz,frz,nl,k1,h2,hln,λe=>by have:=h3 e;unfold Gh.sbv at this ⊢;rw[k2,k3];exact this⟩
 |junk=>exact h
theorem VG.ren{bs' os':List AO}{G' G2:Gh}(hb:∀i o,bs'[i]?=some o->os'[f i]?=some (mO f o)/\G2.blk (f i)=G'.blk i/\G2.cap (f i)=G'.cap i){c:AV}{u:Value}(h:VG M G' bs' c u):VG M G2 os' (mG f c) u:=by
 cases c with
 |agg cs=>
  obtain⟨vs,rfl,h1,h2⟩:=h
  refine⟨vs,rfl,by simpa using h1,λj c u hc hu=>?_⟩
  rw[List.getElem?_map,Option.map_eq_some_iff] at hc
  obtain⟨c0,hc0,rfl⟩:=hc
  exact(h2 j c0 u hc0 hu).ren hb
 |d x=>exact VC.ren (M:=M) (c:=.d x) hb h
 |ptr id off=>exact VC.ren (M:=M) (c:=.ptr id off) hb h
 |aptr id len i off=>exact VC.ren (M:=M) (c:=.aptr id len i off) hb h
 |dptr es i off=>exact VC.ren (M:=M) (c:=.dptr es i off) hb h
 |arr id len=>exact VC.ren (M:=M) (c:=.arr id len) hb h
 |clo f' caps=>exact VC.ren (M:=M) (c:=.clo f' caps) hb h
 |bcl f id=>exact VC.ren (M:=M) (c:=.bcl f id) hb h
 |iter id=>exact VC.ren (M:=M) (c:=.iter id) hb h
 |mp id=>exact VC.ren (M:=M) (c:=.mp id) hb h
 |mit id=>exact VC.ren (M:=M) (c:=.mit id) hb h
 |rs id len=>exact VC.ren (M:=M) (c:=.rs id len) hb h
 |rp id len i off=>exact VC.ren (M:=M) (c:=.rp id len i off) hb h
 |full es=>exact VC.ren (M:=M) (c:=.full es) hb h
 |sub id tot lo n=>exact VC.ren (M:=M) (c:=.sub id tot lo n) hb h
 |tup cs=>exact h
 |junk=>exact h
theorem VA.ren{bs' os':List AO}{G' G2:Gh}(hb:∀i o,bs'[i]?=some o->os'[f i]?=some (mO f o)/\G2.blk (f i)=G'.blk i/\G2.cap (f i)=G'.cap i){c:AV}{u:Value}(h:VA M G' bs' c u):VA M G2 os' (mA f c) u:=by
 cases c with
 |tup cs=>
  obtain⟨vs,rfl,h1,h2⟩:=h
  refine⟨vs,rfl,by simpa using h1,λj c u hc hu=>?_⟩
  rw[List.getElem?_map,Option.map_eq_some_iff] at hc
  obtain⟨c0,hc0,rfl⟩:=hc
  exact(h2 j c0 u hc0 hu).ren hb
 |agg cs=>exact VG.ren (M:=M) (c:=.agg cs) hb h
 |d x=>exact VG.ren (M:=M) (c:=.d x) hb h
 |ptr id off=>exact VG.ren (M:=M) (c:=.ptr id off) hb h
 |aptr id len i off=>exact VG.ren (M:=M) (c:=.aptr id len i off) hb h
 |dptr es i off=>exact VG.ren (M:=M) (c:=.dptr es i off) hb h
 |arr id len=>exact VG.ren (M:=M) (c:=.arr id len) hb h
 |clo f' caps=>exact VG.ren (M:=M) (c:=.clo f' caps) hb h
 |bcl f id=>exact VG.ren (M:=M) (c:=.bcl f id) hb h
 |iter id=>exact VG.ren (M:=M) (c:=.iter id) hb h
 |mp id=>exact VG.ren (M:=M) (c:=.mp id) hb h
 |mit id=>exact VG.ren (M:=M) (c:=.mit id) hb h
 |rs id len=>exact VG.ren (M:=M) (c:=.rs id len) hb h
 |rp id len i off=>exact VG.ren (M:=M) (c:=.rp id len i off) hb h
 |full es=>exact VG.ren (M:=M) (c:=.full es) hb h
 |sub id tot lo n=>exact VG.ren (M:=M) (c:=.sub id tot lo n) hb h
 |junk=>trivial
theorem VC.unren{bs os:List AO}(hb:∀i,i<bs.length->∃o,bs[i]?=some o/\os[f i]?=some (mO f o)/\Gb.blk i=G.blk (f i)/\Gb.cap i=G.cap (f i)){c:AV}(hc:c.bnd1 bs.length){u:Value}(h:VC M G os (mC f c) u):VC M Gb bs c u:=by
 cases c with
 |d x=>exact h
 |agg cs=>exact h
 |tup cs=>exact h
 |ptr id off=>
  obtain⟨rfl,cs,h2⟩:=h
  obtain⟨o,k0,k1,k2,k3⟩:=hb id hc
  rw[k1] at h2
  cases o with
  |cells cs'=>exact⟨by rw[k2],cs',k0⟩
  |_=>cases h2
 |aptr id len i off=>
  obtain⟨h0,es,sz,frz,nl,h1,h2,h3⟩:=h
  obtain⟨o,k0,k1,k2,k3⟩:=hb id hc
  rw[k1] at h1
  cases o with
  |arr es' sz' frz' nl'=>cases h1;exact⟨h0,es,sz,frz,nl,k0,h2,λe=>by rw[k2];exact h3 e⟩
  |_=>cases h1
 |dptr es i off=>exact h
 |arr id len=>
  obtain⟨h0,es,sz,frz,nl,h1,h2,h3⟩:=h
  obtain⟨o,k0,k1,k2,k3⟩:=hb id hc
  rw[k1] at h1
  cases o with
  |arr es' sz' frz' nl'=>cases h1;exact⟨h0,es,sz,frz,nl,k0,h2,λe=>by rw[h3 e,Gh.slv,Gh.slv,k2,k3]⟩
  |_=>cases h1
 |clo g caps=>
  obtain⟨rfl,h2⟩:=h
  refine⟨?_,λid hid=>?_⟩
  ·congr 2
   rw[List.map_map]
   refine List.map_congr_left λid hid=>?_
   obtain⟨o,k0,k1,k2,k3⟩:=hb id (hc id hid)
   simp only[Function.comp]
   rw[k2]
  ·obtain⟨o,k0,k1,k2,k3⟩:=hb id (hc id hid)
   obtain⟨cs,h3⟩:=h2 (f id) (List.mem_map.2 ⟨id,hid,rfl⟩)
   rw[k1] at h3
   cases o with
   |cells cs'=>exact⟨cs',k0⟩
   |_=>cases h3
 |bcl g id=>
  obtain⟨rfl,cs,h2⟩:=h
  obtain⟨o,k0,k1,k2,k3⟩:=hb id hc
  rw[k1] at h2
  cases o with
  |cells cs'=>exact⟨by rw[k2],cs',k0⟩
  |_=>cases h2
 |iter id=>
  obtain⟨rfl,s,p,h2⟩:=h
  obtain⟨o,k0,k1,k2,k3⟩:=hb id hc
  rw[k1] at h2
  cases o with
  |iter s' p'=>exact⟨by rw[k2],s',p',k0⟩
  |_=>cases h2
 |mp id=>
  obtain⟨rfl,kvs,h2⟩:=h
  obtain⟨o,k0,k1,k2,k3⟩:=hb id hc
  rw[k1] at h2
  cases o with
  |map kvs'=>exact⟨by rw[k2],kvs',k0⟩
  |_=>cases h2
 |mit id=>
  obtain⟨rfl,m,n,s,h2⟩:=h
  obtain⟨o,k0,k1,k2,k3⟩:=hb id hc
  rw[k1] at h2
  cases o with
  |mit m' n' s'=>exact⟨by rw[k2],m',n',s',k0⟩
  |_=>cases h2
 |rs id len=>
  obtain⟨h0,es,sz,nl,h1,h2,h3⟩:=h
  obtain⟨o,k0,k1,k2,k3⟩:=hb id hc
  rw[k1] at h1
  cases o with
  |rarr es' sz' nl'=>cases h1;rw[List.length_map] at h2 h3;exact⟨h0,es',sz,nl,k0,h2,λe=>by rw[h3 e,Gh.slv,Gh.slv,k2,k3]⟩
  |_=>cases h1
 |rp id len i off=>
  obtain⟨h0,es,sz,nl,h1,h2,h3⟩:=h
  obtain⟨o,k0,k1,k2,k3⟩:=hb id hc
  rw[k1] at h1
  cases o with
  |rarr es' sz' nl'=>cases h1;rw[List.length_map] at h2 h3;exact⟨h0,es',sz,nl,k0,h2,λe=>by rw[k2];exact h3 e⟩
  |_=>cases h1
 |full es=>exact h
 |sub id tot lo n=>
  obtain⟨h0,es,sz,frz,nl,h1,h2,hln,h3⟩:=h
  obtain⟨o,k0,k1,k2,k3⟩:=hb id hc
  rw[k1] at h1
  cases o with
  |arr es' sz' frz' nl'=>cases h1;exact⟨h0,es,sz,frz,nl,k0,h2,hln,λe=>by have:=h3 e;unfold Gh.sbv at this ⊢;rw[k2,k3];exact this⟩
  |_=>cases h1
 |junk=>exact h
theorem VG.unren{bs os:List AO}(hb:∀i,i<bs.length->∃o,bs[i]?=some o/\os[f i]?=some (mO f o)/\Gb.blk i=G.blk (f i)/\Gb.cap i=G.cap (f i)){c:AV}(hc:c.bnd2 bs.length){u:Value}(h:VG M G os (mG f c) u):VG M Gb bs c u:=by
 cases c with
 |agg cs=>
  obtain⟨vs,rfl,h1,h2⟩:=h
  exact⟨vs,rfl,by simpa using h1,λj c u hj hu=>(h2 j (mC f c) u (by rw[List.getElem?_map,hj];rfl) hu).unren hb (hc c (List.mem_of_getElem? hj))⟩
 |d x=>exact VC.unren (M:=M) (c:=.d x) hb hc h
 |ptr id off=>exact VC.unren (M:=M) (c:=.ptr id off) hb hc h
 |aptr id len i off=>exact VC.unren (M:=M) (c:=.aptr id len i off) hb hc h
 |dptr es i off=>exact VC.unren (M:=M) (c:=.dptr es i off) hb hc h
 |arr id len=>exact VC.unren (M:=M) (c:=.arr id len) hb hc h
 |clo f' caps=>exact VC.unren (M:=M) (c:=.clo f' caps) hb hc h
 |bcl f id=>exact VC.unren (M:=M) (c:=.bcl f id) hb hc h
 |iter id=>exact VC.unren (M:=M) (c:=.iter id) hb hc h
 |mp id=>exact VC.unren (M:=M) (c:=.mp id) hb hc h
 |mit id=>exact VC.unren (M:=M) (c:=.mit id) hb hc h
 |rs id len=>exact VC.unren (M:=M) (c:=.rs id len) hb hc h
 |rp id len i off=>exact VC.unren (M:=M) (c:=.rp id len i off) hb hc h
 |full es=>exact VC.unren (M:=M) (c:=.full es) hb hc h
 |sub id tot lo n=>exact VC.unren (M:=M) (c:=.sub id tot lo n) hb hc h
 |tup cs=>exact h
 |junk=>exact h
theorem rn_lt{σ:List Nat}{n i:Nat}(h:i<σ.length):rn σ n i=σ.getD i 0:=by unfold rn;rw[show Nat.blt i σ.length=true from Nat.ble_eq_true_of_le h];rfl
theorem rn_ge{σ:List Nat}{n i:Nat}(h:σ.length<=i):rn σ n i=n+(i-σ.length):=by
 unfold rn
 cases hb:Nat.blt i σ.length with
 |false=>rfl
 |true=>exact absurd (Nat.le_of_ble_eq_true hb) (by omega)
theorem CallSpec.frame{g:FuncId}{args:List AV}{bs:List AO}{Q:AV->List AO->Prop}(h:CallSpec P g args bs Q)(σ:List Nat)(os:List AO)(hl:σ.length=bs.length)(hn:σ.Nodup)
  (hb:∀(i:Nat) o,bs[i]?=some o->os[σ.getD i 0]?=some (mO (rn σ os.length) o)) (hba:∀a∈args,a.bnd2 bs.length) (hbo:∀o∈bs,o.bnd bs.length) {K:AV->List AO->Prop}
  (hk:∀r bs',Q r bs'->K (mA (rn σ os.length) r) (putA (rn σ os.length) σ bs' os)):CallSpec P g (args.map (mG (rn σ os.length))) os K:=by
 refine⟨h.1,λM G w vs he hsz hv=>?_⟩
 let f:=rn σ os.length
 let Gb:Gh:=⟨λi=>G.blk (f i),λi=>G.cap (f i)⟩
 have hfi:∀i,i<bs.length->f i=σ.getD i 0:=λi hi=>rn_lt (by omega)
 have hold:∀i,i<bs.length->∃o,bs[i]?=some o/\os[f i]?=some (mO f o)/\Gb.blk i=G.blk (f i)/\Gb.cap i=G.cap (f i):=λi hi=>
  ⟨bs[i],List.getElem?_eq_getElem hi,by rw[hfi i hi];exact hb i _ (List.getElem?_eq_getElem hi),rfl,rfl⟩
 have hlive:∀i,Live bs i->i<bs.length/\Live os (f i):=by
  rintro i ⟨o,ho,hlv⟩
  have hi:=(List.getElem?_eq_some_iff.1 ho).1
  exact⟨hi,mO f o,by rw[hfi i hi];exact hb i o ho,by rw[mO_live];exact hlv⟩
 have hinj:∀i j,i<bs.length->j<bs.length->f i=f j->i=j:=by
  intro i j hi hj e
  rw[hfi i hi,hfi j hj,List.getD_eq_getElem?_getD,List.getD_eq_getElem?_getD,List.getElem?_eq_getElem (by omega:i<σ.length),List.getElem?_eq_getElem (by omega:j<σ.length)] at e
  exact(List.getElem_inj hn).1 e
 have hEb:Env M Gb bs w:=by
  refine⟨he.mem,λi o ho=>?_,λi j hi hj e=>?_,λi a v hi ha hab=>?_,λb hb=>⟨(he.glb b hb).1,λi hi=>(he.glb b hb).2 (f i) (hlive i hi).2⟩⟩
  ·have hi:=(List.getElem?_eq_some_iff.1 ho).1
   have h1:=he.obj (f i) (mO f o) (by rw[hfi i hi];exact hb i o ho)
   have hbo':=hbo o (List.mem_of_getElem? ho)
   cases o with
   |cells cs=>
    obtain⟨ca,t,h2,h3,h4⟩:=h1
    exact⟨ca,t,h2,by simpa using h3,λj c u hc hu=>(h4 j (mC f c) u (by rw[List.getElem?_map,hc];rfl) hu).unren hold (hbo' c (List.mem_of_getElem? hc))⟩
   |arr es sz frz nl=>exact h1
   |rarr es sz nl=>
    obtain⟨h3,h4,h5,h6⟩:=h1
    refine⟨h3,λe he=>?_,λhn=>?_,λhn=>?_⟩
    ·have:=h4 _ (List.mem_map.2 ⟨e,he,rfl⟩)
     rwa [List.length_map] at this
    ·exact List.map_eq_nil_iff.1 (h5 hn)
    ·obtain⟨ca,t,k1,k2,k3,k4,k5⟩:=h6 hn
     refine⟨ca,t,k1,k2,by rw[List.length_map] at k3;exact k3,k4,λi' j e c he hc=>?_⟩
     obtain⟨u,hu,hv⟩:=k5 i' j (e.map (mC f)) (mC f c) (by rw[List.getElem?_map,he];rfl) (by rw[List.getElem?_map,hc];rfl)
     exact⟨u,hu,hv.unren hold (hbo' e (List.mem_of_getElem? he) c (List.mem_of_getElem? hc))⟩
   |iter s p=>exact h1
   |hole=>trivial
   |map kvs=>
    obtain⟨es,clock,h2,h3,h4⟩:=h1
    refine⟨es,clock,h2,by simpa using h3,λj p e hp he=>?_⟩
    obtain⟨a2,a3⟩:=h4 j (p.1,mG f p.2) e (by rw[List.getElem?_map,hp];rfl) he
    exact⟨a2,a3.unren hold (hbo' p (List.mem_of_getElem? hp))⟩
   |mit m n s=>
    obtain⟨h2,kvs,h3⟩:=h1
    obtain⟨o,k0,k1,k2,k3⟩:=hold m hbo'
    rw[k1] at h3
    cases o with
    |map kvs'=>exact⟨h2,kvs',k0⟩
    |_=>cases h3
  ·obtain⟨hi1,hi2⟩:=hlive i hi
   obtain⟨hj1,hj2⟩:=hlive j hj
   exact hinj i j hi1 hj1 (he.inj _ _ hi2 hj2 e)
  ·obtain⟨hi1,hi2⟩:=hlive i hi
   obtain⟨es,sz,frz,nl,h1,h2⟩:=he.sep _ a v hi2 ha hab
   obtain⟨o,k0,k1,_⟩:=hold i hi1
   rw[k1] at h1
   cases o with
   |arr es' sz' frz' nl'=>cases h1;exact⟨es,sz,frz,nl,k0,h2⟩
   |_=>cases h1
 refine(h.2 M Gb w vs hEb (by simpa using hsz) (λj a v ha hvj=>?_)).mono λe w' hp=>?_
 ·exact(hv j (mG f a) v (by rw[List.getElem?_map,ha];rfl) hvj).unren hold (hba a (List.mem_of_getElem? ha))
 ·obtain⟨v,rfl,M',G',r,bs',hE',hS',hV',hQ⟩:=hp
  have hlen':bs.length<=bs'.length:=by
   cases hbs:bs.length with
   |zero=>omega
   |succ k=>
    have hk:k<bs.length:=by omega
    have:=hS'.keep k bs[k] (List.getElem?_eq_getElem hk)
    obtain⟨o',h1⟩:=this.ex
    have:=(List.getElem?_eq_some_iff.1 h1).1
    omega
  have hσlt:∀s∈σ,s<os.length:=by
   intro s hs
   obtain⟨i,hi⟩:=List.getElem?_of_mem hs
   have hil:=(List.getElem?_eq_some_iff.1 hi).1
   obtain⟨o,k0,k1,_⟩:=hold i (by omega)
   rw[hfi i (by omega),List.getD_eq_getElem?_getD,hi] at k1
   exact(List.getElem?_eq_some_iff.1 k1).1
  obtain⟨p1,p2,p3,p4⟩:=putA_get f σ bs' os hn hσlt (by omega)
  have hfge:∀i,bs.length<=i->f i=os.length+(i-bs.length):=λi hi=>by rw[<- hl];exact rn_ge (by omega)
  -- every object of the callee's stands in its place
  have hput:∀i o,bs'[i]?=some o->(putA f σ bs' os)[f i]?=some (mO f o):=by
   intro i o ho
   by_cases hi:i<bs.length
   ·rw[hfi i hi]
    refine p1 i _ o ?_ ho
    rw[List.getD_eq_getElem?_getD,List.getElem?_eq_getElem (by omega:i<σ.length)];rfl
   ·rw[hfge i (by omega)]
    refine p3 _ o ?_
    rw[show σ.length+(i-bs.length)=i by omega];exact ho
  have hσmem:∀s,s∈σ->∃i,i<bs.length/\f i=s:=by
   intro s hs
   obtain⟨i,hi⟩:=List.getElem?_of_mem hs
   have hil:=(List.getElem?_eq_some_iff.1 hi).1
   exact⟨i,by omega,by rw[hfi i (by omega),List.getD_eq_getElem?_getD,hi];rfl⟩
  let inv:Nat->Nat:=λj=>if j<os.length then σ.idxOf j else bs.length+(j-os.length)
  have hinv:∀i,i<bs'.length->inv (f i)=i:=by
   intro i hi
   by_cases hib:i<bs.length
   ·have hlt:f i<os.length:=by obtain⟨o,_,k1,_⟩:=hold i hib;exact(List.getElem?_eq_some_iff.1 k1).1
    simp only[inv,hlt,if_true]
    rw[hfi i hib,List.getD_eq_getElem?_getD,List.getElem?_eq_getElem (by omega:i<σ.length)]
    simp only[Option.getD_some]
    exact List.Nodup.idxOf_getElem hn i (by omega)
   ·have hge:¬f i<os.length:=by rw[hfge i (by omega)];omega
    simp only[inv,hge,if_false]
    rw[hfge i (by omega)];omega
  let G2:Gh:=⟨λj=>if j<os.length/\j∉ σ then G.blk j else G'.blk (inv j),λj=>if j<os.length/\j∉ σ then G.cap j else G'.cap (inv j)⟩
  have hfin:∀i,i<bs'.length->¬(f i<os.length/\f i∉ σ):=by
   intro i hi hc
   by_cases hib:i<bs.length
   ·refine hc.2 ?_
    rw[hfi i hib,List.getD_eq_getElem?_getD,List.getElem?_eq_getElem (by omega:i<σ.length)]
    exact List.getElem_mem _
   ·rw[hfge i (by omega)] at hc;omega
  have hren:∀i o,bs'[i]?=some o->(putA f σ bs' os)[f i]?=some (mO f o)/\G2.blk (f i)=G'.blk i/\G2.cap (f i)=G'.cap i:=by
   intro i o ho
   have hi:=(List.getElem?_eq_some_iff.1 ho).1
   refine⟨hput i o ho,?_,?_⟩
   ·simp only[G2];rw[if_neg (hfin i hi),hinv i hi]
   ·simp only[G2];rw[if_neg (hfin i hi),hinv i hi]
  -- what each place holds
  have hcase:∀j o,(putA f σ bs' os)[j]?=some o->(∃i o',bs'[i]?=some o'/\j=f i/\o=mO f o')\/(j<os.length/\j∉ σ/\os[j]?=some o):=by
   intro j o ho
   by_cases hj:j<os.length
   ·by_cases hjs:j∈σ
    ·obtain⟨i,hi,rfl⟩:=hσmem j hjs
     have h1:bs'[i]?=some bs'[i]:=List.getElem?_eq_getElem (by omega)
     rw[hput i _ h1] at ho
     cases ho
     exact .inl ⟨i,_,h1,rfl,rfl⟩
    ·rw[p2 j hj hjs] at ho
     exact .inr ⟨hj,hjs,ho⟩
   ·have hjl:=(List.getElem?_eq_some_iff.1 ho).1
    rw[p4] at hjl
    have hlt:bs.length+(j-os.length)<bs'.length:=by omega
    have h1:bs'[bs.length+(j-os.length)]?=some bs'[bs.length+(j-os.length)]:=List.getElem?_eq_getElem hlt
    have hfj:f (bs.length+(j-os.length))=j:=by rw[hfge _ (by omega)];omega
    have h2:=hput _ _ h1
    rw[hfj] at h2
    rw[h2] at ho
    cases ho
    exact .inl ⟨_,_,h1,hfj.symm,rfl⟩
  have hliveb:∀i,Live os (f i)->i<bs.length->Live bs i:=by
   rintro i ⟨o,ho,hlv⟩ hi
   obtain⟨o',k0,k1,_⟩:=hold i hi
   rw[k1] at ho
   cases ho
   exact⟨o',k0,by rwa [mO_live] at hlv⟩
  have hblk:∀j,Live os j->G.blk j<w.heap.size:=by
   rintro j ⟨o,ho,hlv⟩
   have h1:=he.obj j o ho
   have hh:∀{x},w.heap[G.blk j]?=some x->G.blk j<w.heap.size:=λhx=>(Array.getElem?_eq_some_iff.1 hx).1
   cases o with
   |cells cs=>obtain⟨ca,t,h2,_⟩:=h1;exact hh h2
   |iter s p=>exact hh h1
   |hole=>cases hlv
   |map kvs=>obtain⟨es,clock,h2,_⟩:=h1;exact hh h2
   |mit m n s=>exact hh h1.1
   |arr es sz frz nl=>
    obtain⟨_,_,_,_,h2⟩:=h1
    cases nl with
    |true=>cases hlv
    |false=>obtain⟨ca,t,h3,_⟩:=h2 rfl;exact hh h3
   |rarr es sz nl=>
    obtain⟨_,_,_,h2⟩:=h1
    cases nl with
    |true=>cases hlv
    |false=>obtain⟨ca,t,h3,_⟩:=h2 rfl;exact hh h3
  have hlive2:∀j,Live (putA f σ bs' os) j->(∃i,Live bs' i/\j=f i)\/(j<os.length/\j∉ σ/\Live os j):=by
   rintro j ⟨o,ho,hlv⟩
   rcases hcase j o ho with ⟨i,o',h1,h2,h3⟩|⟨h1,h2,h3⟩
   ·exact .inl ⟨i,⟨o',h1,by rw[h3,mO_live] at hlv;exact hlv⟩,h2⟩
   ·exact .inr ⟨h1,h2,o,h3,hlv⟩
  have hG2o:∀j,j<os.length->j∉ σ->G2.blk j=G.blk j/\G2.cap j=G.cap j:=λj h1 h2=>by simp only[G2];rw[if_pos ⟨h1,h2⟩,if_pos ⟨h1,h2⟩];exact⟨rfl,rfl⟩
  have hG2f:∀i,i<bs'.length->G2.blk (f i)=G'.blk i:=λi hi=>(hren i _ (List.getElem?_eq_getElem hi)).2.1
  have hlb:∀i,Live bs' i->i<bs'.length:=λi ⟨o,ho,_⟩=>(List.getElem?_eq_some_iff.1 ho).1
  -- the block of an object that is not handed over is left alone
  have hother:∀j,j<os.length->j∉ σ->Live os j->∀i,Live bs i->Gb.blk i≠G.blk j:=by
   intro j h1 h2 h3 i hi e
   obtain⟨hi1,hi2⟩:=hlive i hi
   have:=he.inj _ _ hi2 h3 e
   refine h2 ?_
   rw[<- this,hfi i hi1,List.getD_eq_getElem?_getD,List.getElem?_eq_getElem (by omega:i<σ.length)]
   exact List.getElem_mem _
  have hS2:Since M G os w M' G2 (putA f σ bs' os) w':=by
   refine⟨hS'.sys,hS'.tape,hS'.output,hS'.size,λb hb1 hb2=>hS'.frame b hb1 λi hi=>hb2 _ (hlive i hi).2,hS'.grow,λa v hm=>?_,λj hj=>?_,λj o ho=>?_⟩
   ·rcases hS'.fresh a v hm with h1|h1|⟨i,hi,e⟩
    ·exact .inl h1
    ·exact .inr (.inl h1)
    ·exact .inr (.inr ⟨f i,(hlive i hi).2,e⟩)
   ·rcases hlive2 j hj with ⟨i,hi,rfl⟩|⟨h1,h2,h3⟩
    ·rw[hG2f i (hlb i hi)]
     rcases hS'.own i hi with h1|⟨k,hk,e⟩
     ·exact .inl h1
     ·exact .inr ⟨f k,(hlive k hk).2,e⟩
    ·rw[(hG2o j h1 h2).1]
     exact .inr ⟨j,h3,rfl⟩
   ·have hj:=(List.getElem?_eq_some_iff.1 ho).1
    by_cases hjs:j∈σ
    ·obtain⟨i,hi,rfl⟩:=hσmem j hjs
     obtain⟨o',k0,k1,_⟩:=hold i hi
     rw[k1] at ho
     cases ho
     have hkp:=hS'.keep i o' k0
     cases o' with
     |cells cs=>
      obtain⟨e,cs',h1⟩:=hkp
      exact⟨by rw[hG2f i (by omega)];exact e,_,(hren i _ h1).1⟩
     |iter s p=>
      obtain⟨e,s',p',h1⟩:=hkp
      exact⟨by rw[hG2f i (by omega)];exact e,s',p',(hren i _ h1).1⟩
     |hole=>
      obtain⟨o',h1⟩:=hkp
      exact⟨_,(hren i _ h1).1⟩
     |map kvs=>
      obtain⟨e,kvs',h1⟩:=hkp
      exact⟨by rw[hG2f i (by omega)];exact e,_,(hren i _ h1).1⟩
     |mit m n s=>
      obtain⟨e,m',n',s',h1⟩:=hkp
      exact⟨by rw[hG2f i (by omega)];exact e,_,_,_,(hren i _ h1).1⟩
     |arr es sz frz nl=>
      obtain⟨es',frz',nl',h1,h2,h3⟩:=hkp
      obtain⟨r1,r2,r3⟩:=hren i _ h1
      exact⟨es',frz',nl',r1,h2,λe=>by rw[r2,r3];exact h3 e⟩
     |rarr es sz nl=>
      obtain⟨es',nl',h1,h2,h3⟩:=hkp
      obtain⟨r1,r2,r3⟩:=hren i _ h1
      exact⟨_,nl',r1,by rw[List.length_map,List.length_map];exact h2,λe=>by rw[List.length_map,List.length_map] at e;rw[r2,r3];exact h3 e⟩
    ·have h1:=p2 j hj hjs
     obtain⟨r1,r2⟩:=hG2o j hj hjs
     rw[ho] at h1
     cases o with
     |cells cs=>exact⟨r1,cs,h1⟩
     |iter s p=>exact⟨r1,s,p,h1⟩
     |hole=>exact⟨_,h1⟩
     |map kvs=>exact⟨r1,_,h1⟩
     |mit m n s=>exact⟨r1,_,_,_,h1⟩
     |arr es sz frz nl=>exact⟨es,frz,nl,h1,Nat.le_refl _,λ_=>⟨r1,r2,rfl⟩⟩
     |rarr es sz nl=>exact⟨es,nl,h1,Nat.le_refl _,λ_=>⟨r1,r2,rfl⟩⟩
  have hE2:Env M' G2 (putA f σ bs' os) w':=by
   refine⟨hE'.mem,λj o ho=>?_,λj1 j2 hj1 hj2 e=>?_,λj a v hj ha hab=>?_,glb_since hS2 he.glb⟩
   ·rcases hcase j o ho with ⟨i,o',h1,rfl,rfl⟩|⟨h1,h2,h3⟩
    ·have hor:=hE'.obj i o' h1
     obtain⟨r1,r2,r3⟩:=hren i o' h1
     cases o' with
     |cells cs=>
      obtain⟨ca,t,q1,q2,q3⟩:=hor
      refine⟨ca,t,by rw[r2];exact q1,by simpa using q2,λk c u hc hu=>?_⟩
      rw[List.getElem?_map,Option.map_eq_some_iff] at hc
      obtain⟨c0,hc0,rfl⟩:=hc
      exact(q3 k c0 u hc0 hu).ren hren
     |iter s p=>show w'.heap[G2.blk (f i)]?=_;rw[r2];exact hor
     |hole=>trivial
     |map kvs=>
      obtain⟨es,clock,q1,q2,q3⟩:=hor
      refine⟨es,clock,by rw[r2];exact q1,by simpa using q2,λk p e hp he=>?_⟩
      rw[List.getElem?_map,Option.map_eq_some_iff] at hp
      obtain⟨p0,hp0,rfl⟩:=hp
      obtain⟨a2,a3⟩:=q3 k p0 e hp0 he
      exact⟨a2,a3.ren hren⟩
     |mit m n s=>
      obtain⟨q1,kvs,q2⟩:=hor
      obtain⟨k1,k2,k3⟩:=hren m _ q2
      exact⟨by rw[r2,k2];exact q1,_,k1⟩
     |arr es sz frz nl=>
      obtain⟨q1,q2,q3,q4,q5⟩:=hor
      refine⟨q1,q2,q3,q4,λhnl=>?_⟩
      obtain⟨ca,t,k1,k2,k3,k4,k5,k6⟩:=q5 hnl
      exact⟨ca,t,by rw[r2];exact k1,by rw[r3];exact k2,by rw[r3];exact k3,by rw[r3];exact k4,k5,by rw[r2];exact k6⟩
     |rarr es sz nl=>
      obtain⟨q1,q2,q4,q5⟩:=hor
      refine⟨q1,λe he=>?_,λhnl=>by rw[q4 hnl];rfl,λhnl=>?_⟩
      ·obtain⟨e',he',rfl⟩:=List.mem_map.1 he
       rw[List.length_map];exact q2 e' he'
      obtain⟨ca,t,k1,k2,k3,k4,k5⟩:=q5 hnl
      refine⟨ca,t,by rw[r2];exact k1,by rw[r3];exact k2,by rw[r3,List.length_map];exact k3,by rw[r3];exact k4,λi' k e c he hc=>?_⟩
      rw[List.getElem?_map] at he
      obtain⟨e',he',rfl⟩:=Option.map_eq_some_iff.1 he
      rw[List.getElem?_map] at hc
      obtain⟨c',hc',rfl⟩:=Option.map_eq_some_iff.1 hc
      obtain⟨u,hu,hv⟩:=k5 i' k e' c' he' hc'
      exact⟨u,hu,hv.ren hren⟩
    ·have hor:=he.obj j o h3
     obtain⟨r1,r2⟩:=hG2o j h1 h2
     have hheap:Live os j->w'.heap[G.blk j]?=w.heap[G.blk j]?:=λhlv=>hS'.frame _ (hblk j hlv) (hother j h1 h2 hlv)
     cases o with
     |cells cs=>
      obtain⟨ca,t,q1,q2,q3⟩:=hor
      exact⟨ca,t,by rw[r1,hheap ⟨_,h3,rfl⟩];exact q1,q2,λk c u hc hu=>(q3 k c u hc hu).since hS2⟩
     |iter s p=>show w'.heap[G2.blk j]?=_;rw[r1,hheap ⟨_,h3,rfl⟩];exact hor
     |hole=>trivial
     |map kvs=>
      obtain⟨es,clock,q1,q2,q3⟩:=hor
      refine⟨es,clock,by rw[r1,hheap ⟨_,h3,rfl⟩];exact q1,q2,λk p e hp he=>?_⟩
      obtain⟨a2,a3⟩:=q3 k p e hp he
      exact⟨a2.mono hS'.grow,a3.since hS2⟩
     |mit m n s=>
      obtain⟨q1,kvs,q2⟩:=hor
      obtain⟨k1,k2⟩:=hS2.keep m _ q2
      exact⟨by rw[r1,hheap ⟨_,h3,rfl⟩,k1];exact q1,k2⟩
     |rarr es sz nl=>
      obtain⟨q1,q2,q4,q5⟩:=hor
      refine⟨q1,q2,q4,λhnl=>?_⟩
      subst hnl
      obtain⟨ca,t,k1,k2,k3,k4,k5⟩:=q5 rfl
      refine⟨ca,t,by rw[r1,hheap ⟨_,h3,rfl⟩];exact k1,by rw[r2];exact k2,by rw[r2];exact k3,by rw[r2];exact k4,λi l e x h1 h2=>?_⟩
      obtain⟨u,hu,hr⟩:=k5 i l e x h1 h2;exact⟨u,hu,hr.since hS2⟩
     |arr es sz frz nl=>
      obtain⟨q1,q2,q3,q4,q5⟩:=hor
      refine⟨q1,q2,q3,q4,λhnl=>?_⟩
      subst hnl
      obtain⟨ca,t,k1,k2,k3,k4,k5,k6⟩:=q5 rfl
      refine⟨ca,t,by rw[r1,hheap ⟨_,h3,rfl⟩];exact k1,by rw[r2];exact k2,by rw[r2];exact k3,by rw[r2];exact k4,λi l e x h1 h2=>?_,λo ho=>?_⟩
      ·obtain⟨u,hu,hr⟩:=k5 i l e x h1 h2;exact⟨u,hu,hr.mono hS'.grow⟩
      ·rw[r1]
       have h5:=k6 o ho
       have h6:o<ca.size:=by
        rw[k2]
        exact Nat.lt_of_lt_of_le ho (Nat.mul_le_mul (Nat.le_trans q3 k3) (Nat.le_refl _))
       have h7:ca[o]?=some ca[o]:=Array.getElem?_eq_getElem h6
       rw[h7] at h5 ⊢
       exact hS'.grow _ _ h5
   ·have cross:∀i j,Live bs' i->j<os.length->j∉ σ->Live os j->G'.blk i≠G.blk j:=by
     intro i j hi h1 h2 h3 e
     rcases hS'.own i hi with h4|⟨k,hk,e'⟩
     ·have:=hblk j h3;omega
     ·exact hother j h1 h2 h3 k hk (e'.trans e)
    rcases hlive2 j1 hj1 with ⟨i1,hi1,rfl⟩|⟨a1,a2,a3⟩
    ·rcases hlive2 j2 hj2 with ⟨i2,hi2,rfl⟩|⟨b1,b2,b3⟩
     ·rw[hG2f _ (hlb _ hi1),hG2f _ (hlb _ hi2)] at e
      rw[hE'.inj _ _ hi1 hi2 e]
     ·rw[hG2f _ (hlb _ hi1),(hG2o j2 b1 b2).1] at e
      exact absurd e (cross i1 j2 hi1 b1 b2 b3)
    ·rcases hlive2 j2 hj2 with ⟨i2,hi2,rfl⟩|⟨b1,b2,b3⟩
     ·rw[hG2f _ (hlb _ hi2),(hG2o j1 a1 a2).1] at e
      exact absurd e.symm (cross i2 j1 hi2 a1 a2 a3)
     ·rw[(hG2o j1 a1 a2).1,(hG2o j2 b1 b2).1] at e
      exact he.inj _ _ a3 b3 e
   ·rcases hlive2 j hj with ⟨i,hi,rfl⟩|⟨h1,h2,h3⟩
    ·rw[hG2f _ (hlb _ hi)] at hab
     obtain⟨es,sz,frz,nl,k1,k2⟩:=hE'.sep i a v hi ha hab
     exact⟨es,sz,frz,nl,(hren i _ k1).1,k2⟩
    ·rw[(hG2o j h1 h2).1] at hab
     rcases hS'.fresh a v ha with h4|h4|⟨k,hk,e⟩
     ·obtain⟨es,sz,frz,nl,k1,k2⟩:=he.sep j a v h3 h4 hab
      exact⟨es,sz,frz,nl,by rw[p2 j h1 h2];exact k1,k2⟩
     ·have:=hblk j h3;omega
     ·exact absurd (e.trans hab) (hother j h1 h2 h3 k hk)
  exact⟨v,rfl,M',G2,_,_,hE2,hS2,hV'.ren hren,hk r bs' hQ⟩
end
theorem mC_isd{f:Nat->Nat}{m:Nat}{c:AV}(h:c.isd=true):mC f c=c/\c.bnd1 m:=by
 cases c with
 |d x=>exact⟨rfl,trivial⟩
 |_=>cases h
theorem mG_isDB{f:Nat->Nat}{m:Nat}{c:AV}(h:c.isDB=true):mG f c=c/\c.bnd2 m:=by
 cases c with
 |d x=>exact⟨rfl,trivial⟩
 |agg cs=>
  have h:cs.all AV.isd=true:=h
  refine⟨?_,λc hc=>(mC_isd (f:=f) (List.all_eq_true.1 h c hc)).2⟩
  show AV.agg (cs.map (mC f))=.agg cs
  congr 1
  exact(List.map_congr_left λc hc=>(mC_isd (m:=0) (List.all_eq_true.1 h c hc)).1).trans (List.map_id _)
 |_=>cases h
theorem k_co{P:Program}{g:FuncId}{id len:Nat}{as:List AV}{es es':List (List D)}{sz frz:Nat}{nl nl':Bool}{K:List (List D)->Bool->Prop}(hd:as.all AV.isDB=true)
  (h:CallSpec P g (.arr 0 len::as) [.arr es sz frz nl] (λr os2=>r=.arr 0 es'.length/\os2=[.arr es' sz frz nl'])) (k:Go (K es' nl')):InPl P g id len as es sz frz nl K:=by
 refine⟨⟨es',nl',λos2 ho=>?_,k⟩⟩
 have hid:=(List.getElem?_eq_some_iff.1 ho).1
 have hf:=CallSpec.frame (K:=λr os3=>r=.arr id es'.length/\os3=os2.set id (.arr es' sz frz nl')) h [id] os2 rfl (by simp) (λi o hi=>?_) (λa ha=>?_) (λo ho=>?_) (λr bs' hq=>?_)
 ·have e:(AV.arr 0 len::as).map (mG (rn [id] os2.length))=.arr id len::as:=by
   rw[List.map_cons]
   congr 1
   exact(List.map_congr_left λc hc=>(mG_isDB (m:=0) (List.all_eq_true.1 hd c hc)).1).trans (List.map_id _)
  rw[e] at hf
  exact hf
 ·cases i with
  |zero=>simp at hi;subst hi;exact ho
  |succ i=>simp at hi
 ·rcases List.mem_cons.1 ha with rfl|ha
  ·exact Nat.zero_lt_one
  ·exact(mG_isDB (f:=λi=>i) (List.all_eq_true.1 hd a ha)).2
 ·rw[List.mem_singleton.1 ho];trivial
 ·obtain⟨rfl,rfl⟩:=hq
  exact⟨rfl,by simp[putA,mO]⟩
end Go.Bi
