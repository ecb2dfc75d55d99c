/- Weaker states; the return; contracts of functions. No condition. -/
import Derived.Test.YthaildbjjlpdgaaGreatBO
set_option linter.unusedVariables false
namespace Go.Bi
set_option linter.unusedSectionVars false
variable [Globs]
def AV.bnd1(m:Nat):AV->Prop
 |.ptr id _=>id<m
 |.aptr id _ _ _=>id<m
 |.arr id _=>id<m
 |.clo _ caps=>∀id∈caps,id<m
 |.bcl _ id=>id<m
 |.iter id=>id<m
 |.mp id=>id<m
 |.mit id=>id<m
 |.rs id _=>id<m
 |.rp id _ _ _=>id<m
 |.sub id _ _ _=>id<m
 |_=>True
def AV.bnd2(m:Nat):AV->Prop
 |.agg cs=>∀c∈cs,c.bnd1 m
 |a=>a.bnd1 m
def AV.bnd(m:Nat):AV->Prop
 |.tup cs=>∀c∈cs,c.bnd2 m
 |a=>a.bnd2 m
def AO.bnd(m:Nat):AO->Prop
 |.cells cs=>∀c∈cs,c.bnd1 m
 |.map kvs=>∀p∈kvs,p.2.bnd2 m
 |.mit k _ _=>k<m
 |.rarr es _ _=>∀e∈es,∀c∈e,c.bnd1 m
 |_=>True
section
variable {P:Program}{n nb:Nat}{M:Mem}{G:Gh}{os:List AO}{w:World}{ρ:Rho}{a:Act}
theorem take_get{m i:Nat}(h:i<m):(os.take m)[i]?=os[i]?:=by rw[List.getElem?_take,if_pos h]
theorem take_some{m i:Nat}{o:AO}(h:(os.take m)[i]?=some o):i<m/\os[i]?=some o:=by
 rw[List.getElem?_take] at h
 split at h
 ·exact⟨‹_›,h⟩
 ·cases h
theorem VC.take{m:Nat}{c:AV}{v:Value}(hb:c.bnd1 m)(h:VC M G os c v):VC M G (os.take m) c v:=by
 cases c with
 |ptr id off=>obtain⟨h1,cs,h2⟩:=h;exact⟨h1,cs,by rw[take_get hb];exact h2⟩
 |aptr id len i off=>obtain⟨h0,es,sz,frz,nl,h1,h2⟩:=h;exact⟨h0,es,sz,frz,nl,by rw[take_get hb];exact h1,h2⟩
 |arr id len=>obtain⟨h0,es,sz,frz,nl,h1,h2⟩:=h;exact⟨h0,es,sz,frz,nl,by rw[take_get hb];exact h1,h2⟩
 |clo f caps=>obtain⟨h1,h2⟩:=h;exact⟨h1,λid hid=>let ⟨cs,hc⟩:=h2 id hid;⟨cs,by rw[take_get (hb id hid)];exact hc⟩⟩
 |bcl f id=>obtain⟨h1,cs,h2⟩:=h;exact⟨h1,cs,by rw[take_get hb];exact h2⟩
 |iter id=>obtain⟨h1,s,p,h2⟩:=h;exact⟨h1,s,p,by rw[take_get hb];exact h2⟩
 |mp id=>obtain⟨h1,kvs,h2⟩:=h;exact⟨h1,kvs,by rw[take_get hb];exact h2⟩
 |mit id=>obtain⟨h1,m',n,s,h2⟩:=h;exact⟨h1,m',n,s,by rw[take_get hb];exact h2⟩
 |rs id len=>obtain⟨h0,es,sz,nl,h1,h2⟩:=h;exact⟨h0,es,sz,nl,by rw[take_get hb];exact h1,h2⟩
 |rp id len i off=>obtain⟨h0,es,sz,nl,h1,h2⟩:=h;exact⟨h0,es,sz,nl,by rw[take_get hb];exact h1,h2⟩
 |sub id tot lo n=>obtain⟨h0,es,sz,frz,nl,h1,h2⟩:=h;exact⟨h0,es,sz,frz,nl,by rw[take_get hb];exact h1,h2⟩
 |full es=>exact h
 |d x=>exact h
 |agg cs=>exact h
 |tup cs=>exact h
 |dptr es i off=>exact h
 |junk=>exact h
theorem VG.take{m:Nat}{c:AV}{v:Value}(hb:c.bnd2 m)(h:VG M G os c v):VG M G (os.take m) c v:=by
 cases c with
 |agg cs=>
  obtain⟨vs,h1,h2,h3⟩:=h
  exact⟨vs,h1,h2,λj c u hc hu=>(h3 j c u hc hu).take (hb c (List.mem_of_getElem? hc))⟩
 |ptr id off=>exact VC.take (M:=M) (G:=G) (os:=os) (c:=.ptr id off) hb h
 |aptr id len i off=>exact VC.take (M:=M) (G:=G) (os:=os) (c:=.aptr id len i off) hb h
 |arr id len=>exact VC.take (M:=M) (G:=G) (os:=os) (c:=.arr id len) hb h
 |clo f caps=>exact VC.take (M:=M) (G:=G) (os:=os) (c:=.clo f caps) hb h
 |bcl f id=>exact VC.take (M:=M) (G:=G) (os:=os) (c:=.bcl f id) hb h
 |iter id=>exact VC.take (M:=M) (G:=G) (os:=os) (c:=.iter id) hb h
 |mp id=>exact VC.take (M:=M) (G:=G) (os:=os) (c:=.mp id) hb h
 |mit id=>exact VC.take (M:=M) (G:=G) (os:=os) (c:=.mit id) hb h
 |rs id len=>exact VC.take (M:=M) (G:=G) (os:=os) (c:=.rs id len) hb h
 |rp id len i off=>exact VC.take (M:=M) (G:=G) (os:=os) (c:=.rp id len i off) hb h
 |full es=>exact VC.take (M:=M) (G:=G) (os:=os) (c:=.full es) (m:=m) hb h
 |sub id tot lo n=>exact VC.take (M:=M) (G:=G) (os:=os) (c:=.sub id tot lo n) hb h
 |d x=>exact h
 |tup cs=>exact h
 |dptr es i off=>exact h
 |junk=>exact h
theorem VA.take{m:Nat}{c:AV}{v:Value}(hb:c.bnd m)(h:VA M G os c v):VA M G (os.take m) c v:=by
 cases c with
 |tup cs=>
  obtain⟨vs,h1,h2,h3⟩:=h
  exact⟨vs,h1,h2,λj c u hc hu=>(h3 j c u hc hu).take (hb c (List.mem_of_getElem? hc))⟩
 |agg cs=>exact VG.take (M:=M) (G:=G) (os:=os) (c:=.agg cs) hb h
 |ptr id off=>exact VG.take (M:=M) (G:=G) (os:=os) (c:=.ptr id off) hb h
 |aptr id len i off=>exact VG.take (M:=M) (G:=G) (os:=os) (c:=.aptr id len i off) hb h
 |arr id len=>exact VG.take (M:=M) (G:=G) (os:=os) (c:=.arr id len) hb h
 |clo f caps=>exact VG.take (M:=M) (G:=G) (os:=os) (c:=.clo f caps) hb h
 |bcl f id=>exact VG.take (M:=M) (G:=G) (os:=os) (c:=.bcl f id) hb h
 |iter id=>exact VG.take (M:=M) (G:=G) (os:=os) (c:=.iter id) hb h
 |mp id=>exact VG.take (M:=M) (G:=G) (os:=os) (c:=.mp id) hb h
 |mit id=>exact VG.take (M:=M) (G:=G) (os:=os) (c:=.mit id) hb h
 |rs id len=>exact VG.take (M:=M) (G:=G) (os:=os) (c:=.rs id len) hb h
 |rp id len i off=>exact VG.take (M:=M) (G:=G) (os:=os) (c:=.rp id len i off) hb h
 |full es=>exact VG.take (M:=M) (G:=G) (os:=os) (c:=.full es) (m:=m) hb h
 |sub id tot lo n=>exact VG.take (M:=M) (G:=G) (os:=os) (c:=.sub id tot lo n) hb h
 |d x=>exact h
 |dptr es i off=>exact h
 |junk=>trivial
theorem live_take{m i:Nat}(h:Live (os.take m) i):i<m/\Live os i:=by
 obtain⟨o,ho,hl⟩:=h
 obtain⟨h1,h2⟩:=take_some ho
 exact⟨h1,o,h2,hl⟩
theorem Env.take{m:Nat}(he:Env M G os w)(ho:∀o∈os.take m,o.bnd m):Env M G (os.take m) w where
 glb:=λb hb=>⟨(he.glb b hb).1,λi hi=>(he.glb b hb).2 i (live_take hi).2⟩
 mem:=he.mem
 obj:=λid o hid=>by
  obtain⟨h1,h2⟩:=take_some hid
  have hold:=he.obj id o h2
  have hb:=ho o (List.mem_of_getElem? hid)
  cases o with
  |cells cs=>
   obtain⟨ca,t,h3,h4,h5⟩:=hold
   exact⟨ca,t,h3,h4,λj c u hc hu=>(h5 j c u hc hu).take (hb c (List.mem_of_getElem? hc))⟩
  |iter s p=>exact hold
  |hole=>trivial
  |map kvs=>
   obtain⟨es,clock,h3,h4,h5⟩:=hold
   refine⟨es,clock,h3,h4,λj p e hp he=>?_⟩
   obtain⟨a2,a3⟩:=h5 j p e hp he
   exact⟨a2,a3.take (hb p (List.mem_of_getElem? hp))⟩
  |mit k n s=>
   obtain⟨h3,kvs,h4⟩:=hold
   exact⟨h3,kvs,by rw[take_get hb];exact h4⟩
  |arr es sz frz nl=>exact hold
  |rarr es sz nl=>
   obtain⟨h3,h4,h5,h6⟩:=hold
   refine⟨h3,h4,h5,λhn=>?_⟩
   obtain⟨ca,t,k1,k2,k3,k4,k5⟩:=h6 hn
   refine⟨ca,t,k1,k2,k3,k4,λi j e c he hc=>?_⟩
   obtain⟨u,hu,hv⟩:=k5 i j e c he hc
   exact⟨u,hu,hv.take (hb e (List.mem_of_getElem? he) c (List.mem_of_getElem? hc))⟩
 inj:=λi j hi hj=>he.inj i j (live_take hi).2 (live_take hj).2
 sep:=λi a v hi ha hb=>by
  obtain⟨h1,h2⟩:=live_take hi
  obtain⟨es,sz,frz,nl,h3,h4⟩:=he.sep i a v h2 ha hb
  exact⟨es,sz,frz,nl,by rw[take_get h1];exact h3,h4⟩
theorem Since.take{M0:Mem}{G0:Gh}{os0:List AO}{w0:World}{m:Nat}(h:Since M0 G0 os0 w0 M G os w)(hm:os0.length<=m):Since M0 G0 os0 w0 M G (os.take m) w where
 sys:=h.sys
 tape:=h.tape
 output:=h.output
 size:=h.size
 frame:=h.frame
 grow:=h.grow
 fresh:=h.fresh
 own:=λi hi=>h.own i (live_take hi).2
 keep:=λi o ho=>by
  have hlt:i<m:=Nat.lt_of_lt_of_le (List.getElem?_eq_some_iff.1 ho).1 hm
  have:=h.keep i o ho
  cases o with
  |cells cs=>exact⟨this.1,by rw[take_get hlt];exact this.2⟩
  |iter s p=>exact⟨this.1,by rw[take_get hlt];exact this.2⟩
  |hole=>obtain⟨o',h1⟩:=this;exact⟨o',by rw[take_get hlt];exact h1⟩
  |map kvs=>exact⟨this.1,by rw[take_get hlt];exact this.2⟩
  |mit k n s=>exact⟨this.1,by rw[take_get hlt];exact this.2⟩
  |arr es sz frz nl=>
   obtain⟨es',frz',nl',h1,h2⟩:=this
   exact⟨es',frz',nl',by rw[take_get hlt];exact h1,h2⟩
  |rarr es sz nl=>
   obtain⟨es',nl',h1,h2⟩:=this
   exact⟨es',nl',by rw[take_get hlt];exact h1,h2⟩
theorem weak_take{ρ':Rho}(m:Nat)(hm:nb<=m)(hρ:∀t,ρ' t=.junk\/(ρ' t=ρ t/\(ρ t).bnd m))(ho:∀o∈os.take m,o.bnd m):Weak n nb ρ os ρ' (os.take m):=by
 intro c M G w a hR
 refine⟨M,G,?_⟩
 exact {
  env:=hR.env.take ho,since:=hR.since.take (by rw[hR.base];exact hm),size:=hR.size,defers:=hR.defers,base:=hR.base
  tmps:=λt=>by
   rcases hρ t with h|⟨h,hb⟩
   ·rw[h];trivial
   ·rw[h];exact(hR.tmps t).take hb}
theorem weak_nil(t sz:Nat)(hsz:0<sz)(ht:ρ t=.d .nil):Weak n nb ρ os (upd t (.arr os.length 0) ρ) (os++[.arr [] sz 0 true]):=by
 intro c M G w a hR
 obtain⟨n1,n2⟩:=env_nil hR.env sz hsz
 refine⟨M,G,?_⟩
 exact {
  env:=n1,since:=hR.since.trans n2,size:=hR.size,defers:=hR.defers,base:=hR.base
  tmps:=λs=>by
   have hs:=(hR.tmps s).since n2
   unfold upd
   split
   ·rename_i h
    subst h
    have:=hR.tmps s
    rw[ht] at this
    exact⟨by rw[va_nil this];rfl,_,_,_,_,snoc_self ..,Nat.le_refl _,λ_=>by rw[va_nil this];simp[Gh.slv]⟩
   ·exact hs}
theorem env_nilc(he:Env M G os w)(id off sz:Nat)(hsz:0<sz){cs:List AV}(ho:os[id]?=some (.cells cs))(hn:cs[off]?=some (.d .nil)) :
  Env M G ((os++[AO.arr [] sz 0 true]).set id (.cells (cs.set off (.arr os.length 0)))) w/\Since M G os w M G ((os++[AO.arr [] sz 0 true]).set id (.cells (cs.set off (.arr os.length 0)))) w:=by
 obtain⟨n1,n2⟩:=env_nil he sz hsz
 have hlt:=(List.getElem?_eq_some_iff.1 ho).1
 have ho':(os++[AO.arr [] sz 0 true])[id]?=some (.cells cs):=by rw[List.getElem?_append_left hlt];exact ho
 have hk:Keeps G G id ((os++[AO.arr [] sz 0 true]).set id (.cells (cs.set off (.arr os.length 0)))) (.cells cs):=⟨rfl,_,set_self ho'⟩
 have hsu:Since M G (os++[AO.arr [] sz 0 true]) w M G ((os++[AO.arr [] sz 0 true]).set id (.cells (cs.set off (.arr os.length 0)))) w:=
  since_upd n1 ho' rfl rfl rfl rfl rfl (λ_ _=>rfl) (λ_ _ h=>h) (λ_ _ h=>.inl h) hk
 have hnew:((os++[AO.arr [] sz 0 true]).set id (.cells (cs.set off (.arr os.length 0))))[os.length]?=some (.arr [] sz 0 true):=by
  rw[List.getElem?_set_ne (by omega)];exact snoc_self ..
 have hnoM:∀y u,M y=some u->y.block=G.blk id->False:=λy u hy hb=>by
  obtain⟨es,sz,frz,nl,h6,_⟩:=n1.sep id y u (Live.cells ho') hy hb
  rw[ho'] at h6;cases h6
 refine⟨env_upd n1 ho' rfl rfl rfl rfl rfl (λ_ _=>rfl) (λ_ _ h=>h) (λ_ _ h=>.inl h) hk (λ_ _=>rfl) (λy u hy hb=>(hnoM y u hy hb).elim) (λy u hy hb=>(hnoM y u hy hb).elim) ?_,n2.trans hsu⟩
 obtain⟨ca,t,h1,h2,h3⟩:=n1.obj id _ ho'
 refine⟨ca,t,h1,by simp[h2],λj c u hc hu=>?_⟩
 by_cases hj:off=j
 ·subst hj
  have hol:=(List.getElem?_eq_some_iff.1 hn).1
  rw[List.getElem?_set_self hol] at hc
  cases hc
  have hv:=va_nil (M:=M) (G:=G) (os:=os++[AO.arr [] sz 0 true]) (h3 off _ u hn hu)
  exact⟨by rw[hv];rfl,_,_,_,_,hnew,Nat.le_refl _,λ_=>by rw[hv];simp[Gh.slv]⟩
 ·rw[List.getElem?_set_ne hj] at hc
  exact(h3 j c u hc hu).since hsu
theorem weak_nilc(id off sz:Nat)(hsz:0<sz){cs:List AV}(ho:os[id]?=some (.cells cs))(hn:cs[off]?=some (.d .nil)):Weak n nb ρ os ρ ((os++[AO.arr [] sz 0 true]).set id (.cells (cs.set off (.arr os.length 0)))):=by
 intro c M G w a hR
 obtain⟨n1,n2⟩:=env_nilc hR.env id off sz hsz ho hn
 exact⟨M,G,{env:=n1,since:=hR.since.trans n2,size:=hR.size,defers:=hR.defers,base:=hR.base,tmps:=λs=>(hR.tmps s).since n2}⟩
inductive RV where
 |t (n:Nat)
 |cell (t n:Nat) (g:Bool)
 deriving Inhabited
def cRV(P:Program):ResultVar->Option RV
 |.tmp t=>some (.t t)
 |.cell t ty=>match tsz P ty,tagg P ty with
  |some n,some g=>some (.cell t n g)
  |_,_=>none
def resI(ρ:Rho)(os:List AO):List RV->(List AV->Prop)->Prop
 |[],K=>K []
 |.t s::rs,K=>resI ρ os rs λl=>K (ρ s::l)
 |.cell s m g::rs,K=>loadI os g m (ρ s) λv=>resI ρ os rs λl=>K (v::l)
def ret1:List AV->AV
 |[v]=>v
 |l=>.tup l
def retI(nb:Nat)(Q:AV->List AO->Prop)(rs:List RV)(ρ:Rho)(os:List AO):Prop:=
 resI ρ os rs λl=>match frzGs os l with
  |some (l',os')=>(∀o∈os'.take nb,o.bnd nb)/\Q (ret1 l') (os'.take nb)
  |none=>False
def resSem(a:Act)(r:ResultVar):Sem Value:=match r with
 |.tmp t=>pure (a.tmps.getD t undef)
 |.cell t ty=>do loadVar ty (<- asAddr (a.tmps.getD t undef))
theorem run_cell{ty:TypeId}{v u:Value}(h:(Instr.loadAt ty v).run P w=.ok u w):(do loadVar ty (<- asAddr v):Sem Value).run P w=.ok u w:=by
 unfold Instr.loadAt at h
 cases v with
 |pointer p=>
  cases p with
  |none=>simp[Instr.sureAddr] at h
  |some x=>simpa[Instr.sureAddr,asAddr] using h
 |_=>simp[Instr.sureAddr] at h
theorem resI_run(he:Env M G os w)(ht:Tmps M G os ρ a):∀(rvs:List ResultVar) (rs:List RV),rvs.mapM (cRV P)=some rs->∀(K:List AV->Prop),resI ρ os rs K->
  ∃l vs,K l/\(rvs.mapM (resSem a)).run P w=.ok vs w/\vs.length=l.length/\∀(j:Nat) c u,l[j]?=some c->vs[j]?=some u->VA M G os c u
 |[],rs,h,K,hk=>by
  simp at h
  subst h
  exact⟨[],[],hk,rfl,rfl,λj c u hj=>by simp at hj⟩
 |r::rvs,rs,h,K,hk=>by
  simp only[List.mapM_cons,Option.bind_eq_bind,Option.bind_eq_some_iff] at h
  obtain⟨y,hy,ys,hys,hp⟩:=h
  simp at hp
  subst hp
  have step:∀(c:AV) (u:Value),(resSem a r).run P w=.ok u w->VA M G os c u->resI ρ os ys (λl=>K (c::l))->
    ∃l vs,K l/\((r::rvs).mapM (resSem a)).run P w=.ok vs w/\vs.length=l.length/\∀(j:Nat) c u,l[j]?=some c->vs[j]?=some u->VA M G os c u:=by
   intro c u hr hv hk
   obtain⟨l,vs,h1,h2,h3,h4⟩:=resI_run he ht rvs ys hys _ hk
   refine⟨c::l,u::vs,h1,?_,by simp[h3],λj c' u' hc hu=>?_⟩
   ·simp only[List.mapM_cons,Sem.run_bind,hr,Result.andThen_ok,h2,Sem.run_pure]
   ·cases j with
    |zero=>simp at hc hu;subst hc;subst hu;exact hv
    |succ j=>exact h4 j c' u' (by simpa using hc) (by simpa using hu)
  cases r with
  |tmp t=>
   simp only[cRV] at hy
   cases hy
   exact step (ρ t) _ rfl (ht t) hk
  |cell t ty=>
   simp only[cRV] at hy
   split at hy
   ·rename_i m g h1 h2
    cases hy
    simp only[resI] at hk
    exact loadI_run (K:=λv _=>resI ρ os ys λl=>K (v::l)) he h2 h1 (ht t) (λu c hr hv hk=>step c u (run_cell hr) hv hk) hk
   ·cases hy
theorem run_results{fn:Func}{vs:List Value}(h:(fn.results.toList.mapM (resSem a)).run P w=.ok vs w):(results fn a.tmps).run P w=.ok (if h:vs.length=1 then vs[0] else .tuple vs.toArray) w:=by
 have:(fn.results.mapM fun
   |.tmp t=>pure (a.tmps.getD t undef)
   |.cell x t=>do loadVar t (<- asAddr (a.tmps.getD x undef)):Sem (Array Value))=List.toArray <$> fn.results.toList.mapM (resSem a):=by
  rw[Array.mapM_eq_mapM_toList]
  congr 1
 unfold results
 simp only[Sem.run_bind]
 erw [this]
 rw[Sem.run_map,h]
 simp only[Result.andThen_ok,Sem.run_pure]
 congr 1
theorem ret_ok{c:Ctx}(hR:Rel n nb c M G os w ρ a){fn:Func}{rs:List RV}(hrs:fn.results.toList.mapM (cRV P)=some rs){Q:AV->List AO->Prop}(h:retI nb Q rs ρ os) :
  ∃v,(results fn a.tmps).run P w=.ok v w/\∃M' G' r os',Env M' G' os' w/\Since c.M c.G c.os c.w M' G' os' w/\VA M' G' os' r v/\Q r os':=by
 obtain⟨l,vs,h1,h2,h3,h4⟩:=resI_run hR.env hR.tmps _ rs hrs _ h
 split at h1
 ·rename_i l' os' hf
  obtain⟨hb,hq⟩:=h1
  have hpv:=frz_vg hf
  obtain⟨M1,p1,p2,p3,p4,p5⟩:=frzGs_ok l hR.env hf h3 (λj c u hc hu=>va_vg (h4 j c u hc hu) (hpv c (List.mem_of_getElem? hc)).1 (hpv c (List.mem_of_getElem? hc)).2)
  refine⟨_,run_results h2,M1,G,ret1 l',os'.take nb,p1.take hb,(hR.since.trans p2).take (by rw[hR.base];exact Nat.le_refl _),?_,hq⟩
  have p6:∀(j:Nat) x u,l'[j]?=some x->vs[j]?=some u->VG M1 G (os'.take nb) x u:=λj x u hx hu=>(p5 j x u hx hu).of_isD (p4 x (List.mem_of_getElem? hx))
  have hlen:vs.length=l'.length:=by rw[h3,p3]
  match l',hlen with
  |[x],hlen=>
   simp only[List.length_cons,List.length_nil] at hlen
   rw[dif_pos (by omega)]
   have:=p6 0 x vs[0] rfl (List.getElem?_eq_getElem (by omega))
   have hd:=p4 x (by simp)
   cases x with
   |d y=>exact this
   |agg cs=>exact this
   |_=>exact hd.elim
  |[],hlen=>
   rw[dif_neg (by simp at hlen;simp[hlen])]
   exact⟨vs.toArray,rfl,by simpa using hlen,λj c u hc hu=>by simp at hc⟩
  |x::y::l'',hlen=>
   rw[dif_neg (by simp at hlen;omega)]
   exact⟨vs.toArray,rfl,by simpa using hlen,λj c u hc hu=>p6 j c u hc (by simpa using hu)⟩
 ·exact h1.elim
def argsRho(args:List AV):Rho:=λt=>args.getD t .junk
theorem fn_intro(hm:P.follows .mixedOrders=true){f:FuncId}{fn:Func}{code:Code}{ic:IC}{rs:List RV}(hf:P.funcs[f]?=some fn)(hname:fn.name≠ "runtime.NumGoroutine")(hb:fn.body=some code)(hc:cC P fn.ntmps code=some ic)
  (hrs:fn.results.toList.mapM (cRV P)=some rs) {args:List AV} {bs:List AO} (hargs:args.length<=fn.ntmps) {Q:AV->List AO->Prop}
  (h:wpI P fn.ntmps bs.length ic {norm:=retI bs.length Q rs,exit:=λ_ _ _=>False,ret:=retI bs.length Q rs} (argsRho args) bs):CallSpec P f args bs Q:=by
 refine⟨⟨fn,hf,by rw[hb];rfl,hname⟩,λM G w vs he hl hv=>?_⟩
 refine calls_of_wp hf hb (wp_mono (wpI_tri hm code ic hc _ _ _ h ⟨M,G,bs,w⟩ M G w {tmps:=vs++Array.replicate (fn.ntmps-vs.size) undef,defers:=[]} ?_) λe a' w' hp=>?_)
 ·exact {
   env:=he,since:=Since.refl ..,size:=by simp;omega,defers:=rfl,base:=rfl
   tmps:=λt=>by
    unfold argsRho
    by_cases ht:t<args.length
    ·have h1:(vs++Array.replicate (fn.ntmps-vs.size) undef).getD t undef=vs[t]:=by
      simp[Array.getElem?_append_left (show t<vs.size by omega),show t<vs.size by omega]
     have h2:args.getD t .junk=args[t]:=by simp[ht]
     show VA M G bs (args.getD t .junk) ((vs++Array.replicate (fn.ntmps-vs.size) undef).getD t undef)
     rw[h1,h2]
     have:=hv t args[t] vs[t] (List.getElem?_eq_getElem ht) (Array.getElem?_eq_getElem (by omega))
     generalize args[t]=c at this
     cases c with
     |tup cs=>exact this.elim
     |junk=>trivial
     |_=>exact this
    ·have:args.getD t .junk=.junk:=by simp[List.getD_eq_getElem?_getD,List.getElem?_eq_none (Nat.le_of_not_lt ht)]
     rw[this]
     trivial}
 ·have fin:Fits fn.ntmps bs.length ⟨M,G,bs,w⟩ (retI bs.length Q rs) a' w'->a'.defers=[]/\∃v,(results fn a'.tmps).run P w'=.ok v w'/\∃v',Ending.returned v=.returned v'/\∃M' G' r os',Env M' G' os' w'/\Since M G bs w M' G' os' w'/\VA M' G' os' r v'/\Q r os':=by
   rintro⟨M',G',os',ρ',hR,hk⟩
   obtain⟨v,h1,h2⟩:=ret_ok hR hrs hk
   exact⟨hR.defers,v,h1,v,rfl,h2⟩
  cases e with
  |normal=>exact fin hp
  |ret=>exact fin hp
  |exit id=>obtain⟨_,_,_,_,_,hk⟩:=hp;exact hk.elim
  |_=>exact hp.elim
def Pure(P:Program)(f:FuncId)(args:List AV)(r:AV):Prop:=CallSpec P f args [] λr' os=>r'=r/\os=[]
theorem Pure.calld{f:FuncId}{args:List AV}{r:AV}(h:Pure P f args r){K:AV->Prop}(hk:K r):∃r,CallSpec P f args [] (λr' os2=>r'=r/\os2=[])/\K r:=⟨r,h,hk⟩
end
end Go.Bi
