/- Weaker states; the return; contracts of functions. No condition. -/
import Derived.Test.YtfnaleemmeejcaaGreatBO
set_option linter.unusedVariables false
namespace Go.Bi
set_option linter.unusedSectionVars false
variable [N0]
def AV.bnd1(m:Nat):AV->Prop
 |.ptr id _=>id<m
 |.aptr id _ _ _=>id<m
 |.arr id _=>id<m
 |.clo _ caps=>∀id∈caps,id<m
 |.bcl _ id=>id<m
 |.iter id=>id<m
 |.mp id=>id<m
 |.mit id=>id<m
 |.rs id _=>id<m
 |.rp id _ _ _=>id<m
 |_=>True
def AV.bnd2(m:Nat):AV->Prop
 |.agg cs=>∀c∈cs,c.bnd1 m
 |a=>a.bnd1 m
def AV.bnd(m:Nat):AV->Prop
 |.tup cs=>∀c∈cs,c.bnd2 m
 |a=>a.bnd2 m
def AO.bnd(m:Nat):AO->Prop
 |.cells cs=>∀c∈cs,c.bnd1 m
 |.map kvs=>∀p∈kvs,p.2.bnd2 m
 |.mit k _ _=>k<m
 |.rarr es _ _=>∀e∈es,∀c∈e,c.bnd1 m
 |_=>True
section
variable {P:Program}{n nb:Nat}{M:D4}{G:Gh}{os:List AO}{w:World}{ρ:D5}{a:Act}
theorem f7{m i:Nat}(h:i<m):(os.take m)[i]?=os[i]?:=by rw[A02,if_pos h]
theorem C3Z{m i:Nat}{o:AO}(h:(os.take m)[i]?=some o):i<m/\os[i]?=some o:=by
 rw[A02] at h
 split at h
 ·exact⟨‹_›,h⟩
 ·cases h
theorem VC.take{m:Nat}{c:AV}{v:Value}(hb:c.bnd1 m)(h:VC M G os c v):VC M G (os.take m) c v:=by
 cases c with
 |ptr id off=>obtain⟨h1,cs,h2⟩:=h;exact⟨h1,cs,by rw[f7 hb];exact h2⟩
 |aptr id len i off=>obtain⟨h0,es,sz,frz,nl,h1,h2⟩:=h;exact⟨h0,es,sz,frz,nl,by rw[f7 hb];exact h1,h2⟩
 |arr id len=>obtain⟨h0,es,sz,frz,nl,h1,h2⟩:=h;exact⟨h0,es,sz,frz,nl,by rw[f7 hb];exact h1,h2⟩
 |clo f caps=>obtain⟨h1,h2⟩:=h;exact⟨h1,λid hid=>let ⟨cs,hc⟩:=h2 id hid;⟨cs,by rw[f7 (hb id hid)];exact hc⟩⟩
 |bcl f id=>obtain⟨h1,cs,h2⟩:=h;exact⟨h1,cs,by rw[f7 hb];exact h2⟩
 |iter id=>obtain⟨h1,s,p,h2⟩:=h;exact⟨h1,s,p,by rw[f7 hb];exact h2⟩
 |mp id=>obtain⟨h1,kvs,h2⟩:=h;exact⟨h1,kvs,by rw[f7 hb];exact h2⟩
 |mit id=>obtain⟨h1,m',n,s,h2⟩:=h;exact⟨h1,m',n,s,by rw[f7 hb];exact h2⟩
 |rs id len=>obtain⟨h0,es,sz,nl,h1,h2⟩:=h;exact⟨h0,es,sz,nl,by rw[f7 hb];exact h1,h2⟩
 |rp id len i off=>obtain⟨h0,es,sz,nl,h1,h2⟩:=h;exact⟨h0,es,sz,nl,by rw[f7 hb];exact h1,h2⟩
 |d x=>exact h
 |agg cs=>exact h
 |tup cs=>exact h
 |dptr es i off=>exact h
 |junk=>exact h
theorem VG.take{m:Nat}{c:AV}{v:Value}(hb:c.bnd2 m)(h:VG M G os c v):VG M G (os.take m) c v:=by
 cases c with
 |agg cs=>
  obtain⟨vs,h1,h2,h3⟩:=h
  exact⟨vs,h1,h2,λj c u hc hu=>(h3 j c u hc hu).take (hb c (C3 hc))⟩
 |ptr id off=>exact VC.take (M:=M) (G:=G) (os:=os) (c:=.ptr id off) hb h
 |aptr id len i off=>exact VC.take (M:=M) (G:=G) (os:=os) (c:=.aptr id len i off) hb h
 |arr id len=>exact VC.take (M:=M) (G:=G) (os:=os) (c:=.arr id len) hb h
 |clo f caps=>exact VC.take (M:=M) (G:=G) (os:=os) (c:=.clo f caps) hb h
 |bcl f id=>exact VC.take (M:=M) (G:=G) (os:=os) (c:=.bcl f id) hb h
 |iter id=>exact VC.take (M:=M) (G:=G) (os:=os) (c:=.iter id) hb h
 |mp id=>exact VC.take (M:=M) (G:=G) (os:=os) (c:=.mp id) hb h
 |mit id=>exact VC.take (M:=M) (G:=G) (os:=os) (c:=.mit id) hb h
 |rs id len=>exact VC.take (M:=M) (G:=G) (os:=os) (c:=.rs id len) hb h
 |rp id len i off=>exact VC.take (M:=M) (G:=G) (os:=os) (c:=.rp id len i off) hb h
 |d x=>exact h
 |tup cs=>exact h
 |dptr es i off=>exact h
 |junk=>exact h
theorem VA.take{m:Nat}{c:AV}{v:Value}(hb:c.bnd m)(h:VA M G os c v):VA M G (os.take m) c v:=by
 cases c with
 |tup cs=>
  obtain⟨vs,h1,h2,h3⟩:=h
  exact⟨vs,h1,h2,λj c u hc hu=>(h3 j c u hc hu).take (hb c (C3 hc))⟩
 |agg cs=>exact VG.take (M:=M) (G:=G) (os:=os) (c:=.agg cs) hb h
 |ptr id off=>exact VG.take (M:=M) (G:=G) (os:=os) (c:=.ptr id off) hb h
 |aptr id len i off=>exact VG.take (M:=M) (G:=G) (os:=os) (c:=.aptr id len i off) hb h
 |arr id len=>exact VG.take (M:=M) (G:=G) (os:=os) (c:=.arr id len) hb h
 |clo f caps=>exact VG.take (M:=M) (G:=G) (os:=os) (c:=.clo f caps) hb h
 |bcl f id=>exact VG.take (M:=M) (G:=G) (os:=os) (c:=.bcl f id) hb h
 |iter id=>exact VG.take (M:=M) (G:=G) (os:=os) (c:=.iter id) hb h
 |mp id=>exact VG.take (M:=M) (G:=G) (os:=os) (c:=.mp id) hb h
 |mit id=>exact VG.take (M:=M) (G:=G) (os:=os) (c:=.mit id) hb h
 |rs id len=>exact VG.take (M:=M) (G:=G) (os:=os) (c:=.rs id len) hb h
 |rp id len i off=>exact VG.take (M:=M) (G:=G) (os:=os) (c:=.rp id len i off) hb h
 |d x=>exact h
 |dptr es i off=>exact h
 |junk=>trivial
theorem A73{m i:Nat}(h:H6 (os.take m) i):i<m/\H6 os i:=by
 obtain⟨o,ho,hl⟩:=h
 obtain⟨h1,h2⟩:=C3Z ho
 exact⟨h1,o,h2,hl⟩
theorem C9.take{m:Nat}(he:C9 M G os w)(ho:∀o∈os.take m,o.bnd m):C9 M G (os.take m) w where
 glb:=λb hb=>⟨(he.glb b hb).1,λi hi=>(he.glb b hb).2 i (A73 hi).2⟩
 mem:=he.mem
 obj:=λid o hid=>by
  obtain⟨h1,h2⟩:=C3Z hid
  have hold:=he.obj id o h2
  have hb:=ho o (C3 hid)
  cases o with
  |cells cs=>
   obtain⟨ca,t,h3,h4,h5⟩:=hold
   exact⟨ca,t,h3,h4,λj c u hc hu=>(h5 j c u hc hu).take (hb c (C3 hc))⟩
  |iter s p=>exact hold
  |hole=>trivial
  |map kvs=>
   obtain⟨es,h3,h4,h5⟩:=hold
   refine⟨es,h3,h4,λj p e hp he=>?_⟩
   obtain⟨a1,a2,a3⟩:=h5 j p e hp he
   exact⟨a1,a2,a3.take (hb p (C3 hp))⟩
  |mit k n s=>
   obtain⟨h3,kvs,h4⟩:=hold
   exact⟨h3,kvs,by rw[f7 hb];exact h4⟩
  |arr es sz frz nl=>exact hold
  |rarr es sz nl=>
   obtain⟨h3,h4,h5,h6⟩:=hold
   refine⟨h3,h4,h5,λhn=>?_⟩
   obtain⟨ca,t,k1,k2,k3,k4,k5⟩:=h6 hn
   refine⟨ca,t,k1,k2,k3,k4,λi j e c he hc=>?_⟩
   obtain⟨u,hu,hv⟩:=k5 i j e c he hc
   exact⟨u,hu,hv.take (hb e (C3 he) c (C3 hc))⟩
 inj:=λi j hi hj=>he.inj i j (A73 hi).2 (A73 hj).2
 sep:=λi a v hi ha hb=>by
  obtain⟨h1,h2⟩:=A73 hi
  obtain⟨es,sz,frz,nl,h3,h4⟩:=he.sep i a v h2 ha hb
  exact⟨es,sz,frz,nl,by rw[f7 h1];exact h3,h4⟩
theorem G7.take{M0:D4}{G0:Gh}{os0:List AO}{w0:World}{m:Nat}(h:G7 M0 G0 os0 w0 M G os w)(hm:os0.length<=m):G7 M0 G0 os0 w0 M G (os.take m) w where
 sys:=h.sys
 tape:=h.tape
 output:=h.output
 size:=h.size
 frame:=h.frame
 grow:=h.grow
 fresh:=h.fresh
 own:=λi hi=>h.own i (A73 hi).2
 keep:=λi o ho=>by
  have hlt:i<m:=A3e (B4.1 ho).1 hm
  have:=h.keep i o ho
  cases o with
  |cells cs=>exact⟨this.1,by rw[f7 hlt];exact this.2⟩
  |iter s p=>exact⟨this.1,by rw[f7 hlt];exact this.2⟩
  |hole=>obtain⟨o',h1⟩:=this;exact⟨o',by rw[f7 hlt];exact h1⟩
  |map kvs=>exact⟨this.1,by rw[f7 hlt];exact this.2⟩
  |mit k n s=>exact⟨this.1,by rw[f7 hlt];exact this.2⟩
  |arr es sz frz nl=>
   obtain⟨es',frz',nl',h1,h2⟩:=this
   exact⟨es',frz',nl',by rw[f7 hlt];exact h1,h2⟩
  |rarr es sz nl=>
   obtain⟨es',nl',h1,h2⟩:=this
   exact⟨es',nl',by rw[f7 hlt];exact h1,h2⟩
theorem E05{ρ':D5}(m:Nat)(hm:nb<=m)(hρ:∀t,ρ' t=.junk\/(ρ' t=ρ t/\(ρ t).bnd m))(ho:∀o∈os.take m,o.bnd m):A05 n nb ρ os ρ' (os.take m):=by
 intro c M G w a hR
 refine⟨M,G,?_⟩
 exact {
  env:=hR.env.take ho,since:=hR.since.take (by rw[hR.base];exact hm),size:=hR.size,defers:=hR.defers,base:=hR.base
  tmps:=λt=>by
   rcases hρ t with h|⟨h,hb⟩
   ·rw[h];trivial
   ·rw[h];exact(hR.tmps t).take hb}
theorem E04(t sz:Nat)(hsz:0<sz)(ht:ρ t=.d .nil):A05 n nb ρ os (upd t (.arr os.length 0) ρ) (os++[.arr [] sz 0 true]):=by
 intro c M G w a hR
 obtain⟨n1,n2⟩:=A8T hR.env sz hsz
 refine⟨M,G,?_⟩
 exact {
  env:=n1,since:=hR.since.trans n2,size:=hR.size,defers:=hR.defers,base:=hR.base
  tmps:=λs=>by
   have hs:=(hR.tmps s).since n2
   unfold upd
   split
   ·rename_i h
    subst h
    have:=hR.tmps s
    rw[ht] at this
    exact⟨by rw[A1R this];rfl,_,_,_,_,A3S ..,D3 _,λ_=>by rw[A1R this];simp[Gh.slv]⟩
   ·exact hs}
theorem C1g(he:C9 M G os w)(id off sz:Nat)(hsz:0<sz){cs:List AV}(ho:os[id]?=some (.cells cs))(hn:cs[off]?=some (.d .nil)) :
  C9 M G ((os++[AO.arr [] sz 0 true]).set id (.cells (cs.set off (.arr os.length 0)))) w/\G7 M G os w M G ((os++[AO.arr [] sz 0 true]).set id (.cells (cs.set off (.arr os.length 0)))) w:=by
 obtain⟨n1,n2⟩:=A8T he sz hsz
 have hlt:=(B4.1 ho).1
 have ho':(os++[AO.arr [] sz 0 true])[id]?=some (.cells cs):=by rw[P8 hlt];exact ho
 have hk:P4 G G id ((os++[AO.arr [] sz 0 true]).set id (.cells (cs.set off (.arr os.length 0)))) (.cells cs):=⟨rfl,_,X7 ho'⟩
 have hsu:G7 M G (os++[AO.arr [] sz 0 true]) w M G ((os++[AO.arr [] sz 0 true]).set id (.cells (cs.set off (.arr os.length 0)))) w:=
  A0B n1 ho' rfl rfl rfl rfl rfl (λ_ _=>rfl) (λ_ _ h=>h) (λ_ _ h=>.inl h) hk
 have hnew:((os++[AO.arr [] sz 0 true]).set id (.cells (cs.set off (.arr os.length 0))))[os.length]?=some (.arr [] sz 0 true):=by
  rw[i0 (by omega)];exact A3S ..
 have hnoM:∀y u,M y=some u->y.block=G.blk id->False:=λy u hy hb=>by
  obtain⟨es,sz,frz,nl,h6,_⟩:=n1.sep id y u (H6.cells ho') hy hb
  rw[ho'] at h6;cases h6
 refine⟨A1B n1 ho' rfl rfl rfl rfl rfl (λ_ _=>rfl) (λ_ _ h=>h) (λ_ _ h=>.inl h) hk (λ_ _=>rfl) (λy u hy hb=>(hnoM y u hy hb).elim) (λy u hy hb=>(hnoM y u hy hb).elim) ?_,n2.trans hsu⟩
 obtain⟨ca,t,h1,h2,h3⟩:=n1.obj id _ ho'
 refine⟨ca,t,h1,by simp[h2],λj c u hc hu=>?_⟩
 by_cases hj:off=j
 ·subst hj
  have hol:=(B4.1 hn).1
  rw[List.getElem?_set_self hol] at hc
  cases hc
  have hv:=A1R (M:=M) (G:=G) (os:=os++[AO.arr [] sz 0 true]) (h3 off _ u hn hu)
  exact⟨by rw[hv];rfl,_,_,_,_,hnew,D3 _,λ_=>by rw[hv];simp[Gh.slv]⟩
 ·rw[i0 hj] at hc
  exact(h3 j c u hc hu).since hsu
theorem C4k(id off sz:Nat)(hsz:0<sz){cs:List AV}(ho:os[id]?=some (.cells cs))(hn:cs[off]?=some (.d .nil)):A05 n nb ρ os ρ ((os++[AO.arr [] sz 0 true]).set id (.cells (cs.set off (.arr os.length 0)))):=by
 intro c M G w a hR
 obtain⟨n1,n2⟩:=C1g hR.env id off sz hsz ho hn
 exact⟨M,G,{env:=n1,since:=hR.since.trans n2,size:=hR.size,defers:=hR.defers,base:=hR.base,tmps:=λs=>(hR.tmps s).since n2}⟩
theorem B9.nilc{g:FuncId}{args:List AV}{Q:AV->List AO->Prop}(id off sz:Nat)(hsz:Nat.blt 0 sz=true){cs:List AV}(ho:os[id]?=some (.cells cs))(hn:cs[off]?=some (.d .nil))
  (h:B9 P g args ((os++[AO.arr [] sz 0 true]).set id (.cells (cs.set off (.arr os.length 0)))) Q):B9 P g args os Q:=by
 refine⟨h.1,λM G w vs he hl hv=>?_⟩
 obtain⟨n1,n2⟩:=C1g he id off sz (R3 hsz) ho hn
 refine(h.2 M G w vs n1 hl λj a v ha hva=>(hv j a v ha hva).since n2).mono ?_
 rintro e w' ⟨v,rfl,M',G',r,os',h1,h2,h3,h4⟩
 exact⟨v,rfl,M',G',r,os',h1,n2.trans h2,h3,h4⟩
inductive RV where
 |t (n:Nat)
 |cell (t n:Nat) (g:Bool)
 deriving Inhabited
def cRV(P:Program):ResultVar->Option RV
 |.tmp t=>some (.t t)
 |.cell t ty=>match M3 P ty,P1 P ty with
  |some n,some g=>some (.cell t n g)
  |_,_=>none
def r6(ρ:D5)(os:List AO):List RV->(List AV->Prop)->Prop
 |[],K=>K []
 |.t s::rs,K=>r6 ρ os rs λl=>K (ρ s::l)
 |.cell s m g::rs,K=>Y5 os g m (ρ s) λv=>r6 ρ os rs λl=>K (v::l)
def A9B:List AV->AV
 |[v]=>v
 |l=>.tup l
def A0l(nb:Nat)(Q:AV->List AO->Prop)(rs:List RV)(ρ:D5)(os:List AO):Prop:=
 r6 ρ os rs λl=>match Z5 os l with
  |some (l',os')=>(∀o∈os'.take nb,o.bnd nb)/\Q (A9B l') (os'.take nb)
  |none=>False
def A7m(a:Act)(r:ResultVar):Sem Value:=match r with
 |.tmp t=>pure (a.tmps.getD t undef)
 |.cell t ty=>do loadVar ty (<- asAddr (a.tmps.getD t undef))
theorem D98{ty:TypeId}{v u:Value}(h:(Instr.loadAt ty v).run P w=.ok u w):(do loadVar ty (<- asAddr v):Sem Value).run P w=.ok u w:=by
 unfold Instr.loadAt at h
 cases v with
 |pointer p=>
  cases p with
  |none=>simp[Instr.sureAddr] at h
  |some x=>simpa[Instr.sureAddr,asAddr] using h
 |_=>simp[Instr.sureAddr] at h
theorem A9A(he:C9 M G os w)(ht:J3 M G os ρ a):∀(rvs:List ResultVar)(rs:List RV),rvs.mapM (cRV P)=some rs->∀(K:List AV->Prop),r6 ρ os rs K->
  ∃l vs,K l/\(rvs.mapM (A7m a)).run P w=.ok vs w/\vs.length=l.length/\∀(j:Nat) c u,l[j]?=some c->vs[j]?=some u->VA M G os c u
 |[],rs,h,K,hk=>by
  simp at h
  subst h
  exact⟨[],[],hk,rfl,rfl,λj c u hj=>by simp at hj⟩
 |r::rvs,rs,h,K,hk=>by
  simp only[A0L,A3g,i7] at h
  obtain⟨y,hy,ys,hys,hp⟩:=h
  simp at hp
  subst hp
  have step:∀(c:AV) (u:Value),(A7m a r).run P w=.ok u w->VA M G os c u->r6 ρ os ys (λl=>K (c::l))->
    ∃l vs,K l/\((r::rvs).mapM (A7m a)).run P w=.ok vs w/\vs.length=l.length/\∀(j:Nat) c u,l[j]?=some c->vs[j]?=some u->VA M G os c u:=by
   intro c u hr hv hk
   obtain⟨l,vs,h1,h2,h3,h4⟩:=A9A he ht rvs ys hys _ hk
   refine⟨c::l,u::vs,h1,?_,by simp[h3],λj c' u' hc hu=>?_⟩
   ·simp only[A0L,Sem.run_bind,hr,Result.andThen_ok,h2,Sem.run_pure]
   ·cases j with
    |zero=>simp at hc hu;subst hc;subst hu;exact hv
    |succ j=>exact h4 j c' u' (by simpa using hc) (by simpa using hu)
  cases r with
  |tmp t=>
   simp only[cRV] at hy
   cases hy
   exact step (ρ t) _ rfl (ht t) hk
  |cell t ty=>
   simp only[cRV] at hy
   split at hy
   ·rename_i m g h1 h2
    cases hy
    simp only[r6] at hk
    exact C2q (K:=λv _=>r6 ρ os ys λl=>K (v::l)) he h2 h1 (ht t) (λu c hr hv hk=>step c u (D98 hr) hv hk) hk
   ·cases hy
theorem B31{fn:Func}{vs:List Value}(h:(fn.results.toList.mapM (A7m a)).run P w=.ok vs w):(results fn a.tmps).run P w=.ok (if h:vs.length=1 then vs[0] else .tuple vs.toArray) w:=by
 have:(fn.results.mapM fun
   |.tmp t=>pure (a.tmps.getD t undef)
   |.cell x t=>do loadVar t (<- asAddr (a.tmps.getD x undef)):Sem (Array Value))=List.toArray <$> fn.results.toList.mapM (A7m a):=by
  rw[Array.mapM_eq_mapM_toList]
  congr 1
 unfold results
 simp only[Sem.run_bind]
 erw [this]
 rw[Sem.run_map,h]
 simp only[Result.andThen_ok,Sem.run_pure]
 congr 1
theorem D96{c:u9}(hR:Y7 n nb c M G os w ρ a){fn:Func}{rs:List RV}(hrs:fn.results.toList.mapM (cRV P)=some rs){Q:AV->List AO->Prop}(h:A0l nb Q rs ρ os) :
  ∃v,(results fn a.tmps).run P w=.ok v w/\∃M' G' r os',C9 M' G' os' w/\G7 c.M c.G c.os c.w M' G' os' w/\VA M' G' os' r v/\Q r os':=by
 obtain⟨l,vs,h1,h2,h3,h4⟩:=A9A hR.env hR.tmps _ rs hrs _ h
 split at h1
 ·rename_i l' os' hf
  obtain⟨hb,hq⟩:=h1
  have hpv:=B2a hf
  obtain⟨M1,p1,p2,p3,p4,p5⟩:=A96 l hR.env hf h3 (λj c u hc hu=>A32 (h4 j c u hc hu) (hpv c (C3 hc)).1 (hpv c (C3 hc)).2)
  refine⟨_,B31 h2,M1,G,A9B l',os'.take nb,p1.take hb,(hR.since.trans p2).take (by rw[hR.base];exact D3 _),?_,hq⟩
  have p6:∀(j:Nat) x u,l'[j]?=some x->vs[j]?=some u->VG M1 G (os'.take nb) x u:=λj x u hx hu=>(p5 j x u hx hu).of_isD (p4 x (C3 hx))
  have hlen:vs.length=l'.length:=by rw[h3,p3]
  match l',hlen with
  |[x],hlen=>
   simp only[H9,l9] at hlen
   rw[dif_pos (by omega)]
   have:=p6 0 x vs[0] rfl (F4 (by omega))
   have hd:=p4 x (by simp)
   cases x with
   |d y=>exact this
   |agg cs=>exact this
   |_=>exact hd.elim
  |[],hlen=>
   rw[dif_neg (by simp at hlen;simp[hlen])]
   exact⟨vs.toArray,rfl,by simpa using hlen,λj c u hc hu=>by simp at hc⟩
  |x::y::l'',hlen=>
   rw[dif_neg (by simp at hlen;omega)]
   exact⟨vs.toArray,rfl,by simpa using hlen,λj c u hc hu=>p6 j c u hc (by simpa using hu)⟩
 ·exact h1.elim
def A1Z(args:List AV):D5:=λt=>args.getD t .junk
theorem D6p(hm:P.follows .mixedOrders=true){f:FuncId}{fn:Func}{code:Code}{ic:IC}{rs:List RV}(hf:P.funcs[f]?=some fn)(hname:fn.name≠ "runtime.NumGoroutine")(hb:fn.body=some code)(hc:cC P fn.ntmps code=some ic)
  (hrs:fn.results.toList.mapM (cRV P)=some rs) {args:List AV} {bs:List AO} (hargs:args.length<=fn.ntmps) {Q:AV->List AO->Prop}
  (h:Z3 P fn.ntmps bs.length ic {norm:=A0l bs.length Q rs,exit:=λ_ _ _=>False,ret:=A0l bs.length Q rs} (A1Z args) bs):B9 P f args bs Q:=by
 refine⟨⟨fn,hf,by rw[hb];rfl,hname⟩,λM G w vs he hl hv=>?_⟩
 refine calls_of_wp hf hb (wp_mono (A7N hm code ic hc _ _ _ h ⟨M,G,bs,w⟩ M G w {tmps:=vs++Array.replicate (fn.ntmps-vs.size) undef,defers:=[]} ?_) λe a' w' hp=>?_)
 ·exact {
   env:=he,since:=G7.refl ..,size:=by simp;omega,defers:=rfl,base:=rfl
   tmps:=λt=>by
    unfold A1Z
    by_cases ht:t<args.length
    ·have h1:(vs++Array.replicate (fn.ntmps-vs.size) undef).getD t undef=vs[t]:=by
      simp[A2t (show t<vs.size by omega),show t<vs.size by omega]
     have h2:args.getD t .junk=args[t]:=by simp[ht]
     show VA M G bs (args.getD t .junk) ((vs++Array.replicate (fn.ntmps-vs.size) undef).getD t undef)
     rw[h1,h2]
     have:=hv t args[t] vs[t] (F4 ht) (O0 (by omega))
     generalize args[t]=c at this
     cases c with
     |tup cs=>exact this.elim
     |junk=>trivial
     |_=>exact this
    ·have:args.getD t .junk=.junk:=by simp[I4,A1m (Nat.le_of_not_lt ht)]
     rw[this]
     trivial}
 ·have fin:A0H fn.ntmps bs.length ⟨M,G,bs,w⟩ (A0l bs.length Q rs) a' w'->a'.defers=[]/\∃v,(results fn a'.tmps).run P w'=.ok v w'/\∃v',Ending.returned v=.returned v'/\∃M' G' r os',C9 M' G' os' w'/\G7 M G bs w M' G' os' w'/\VA M' G' os' r v'/\Q r os':=by
   rintro⟨M',G',os',ρ',hR,hk⟩
   obtain⟨v,h1,h2⟩:=D96 hR hrs hk
   exact⟨hR.defers,v,h1,v,rfl,h2⟩
  cases e with
  |normal=>exact fin hp
  |ret=>exact fin hp
  |exit id=>obtain⟨_,_,_,_,_,hk⟩:=hp;exact hk.elim
  |_=>exact hp.elim
def Pure(P:Program)(f:FuncId)(args:List AV)(r:AV):Prop:=B9 P f args [] λr' os=>r'=r/\os=[]
theorem Pure.calld{f:FuncId}{args:List AV}{r:AV}(h:Pure P f args r){K:AV->Prop}(hk:K r):∃r,B9 P f args [] (λr' os2=>r'=r/\os2=[])/\K r:=⟨r,h,hk⟩
end
end Go.Bi
