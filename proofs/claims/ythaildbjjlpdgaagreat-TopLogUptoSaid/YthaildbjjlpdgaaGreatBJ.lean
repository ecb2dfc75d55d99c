/- Soundness of calls, of iterators over strings, of closures, of comparisons of several cells. No condition. -/
import Derived.Test.YthaildbjjlpdgaaGreatBI
set_option linter.unusedVariables false
namespace Go.Bi
set_option linter.unusedSectionVars false
variable [Globs]
section
variable {P:Program}{M:Mem}{G:Gh}{os:List AO}{w:World}{ρ:Rho}{a:Act}{K:AV->List AO->Prop}
theorem run_enter{g:FuncId}(h:Enters P g)(args:Array Value)(w:World):(callFunc g args).run P w=.ok (.enter g args) w:=by
 obtain⟨fn,h1,h2,h3⟩:=h
 have hb:fn.body.isNone=false:=by cases hq:fn.body<;>simp_all
 unfold callFunc
 simp only[Sem.run_bind,run_program,Result.andThen_ok,h1]
 rw[if_neg (by simpa using h3),if_neg (by simp[hb])]
 rfl
theorem prepGs_ok:∀(cs:List AV) {M:Mem} {os:List AO} (he:Env M G os w) {xs:List AV} {os1:List AO} (h:prepGs os cs=some (xs,os1)) {vs:List Value} (hl:vs.length=cs.length)
  (hv:∀(j:Nat) c u,cs[j]?=some c->vs[j]?=some u->VG M G os c u),
  ∃M1,Env M1 G os1 w/\Since M G os w M1 G os1 w/\xs.length=cs.length/\(∀x∈xs,x.ref=true\/x.isD)/\∀(j:Nat) x u,xs[j]?=some x->vs[j]?=some u->VG M1 G os1 x u
 |[],M,os,he,xs,os1,h,vs,hl,hv=>by
  simp only[prepGs] at h
  cases h
  exact⟨M,he,Since.refl ..,rfl,(λ_ h=>by cases h),λj x u hj=>by simp at hj⟩
 |c::cs,M,os,he,xs,os1,h,vs,hl,hv=>by
  cases vs with
  |nil=>simp at hl
  |cons v vs=>
  simp only[prepGs] at h
  split at h
  ·rename_i hc
   split at h
   ·rename_i ys os2 h1
    cases h
    obtain⟨M2,e2,s2,l2,d2,r2⟩:=prepGs_ok cs he h1 (vs:=vs) (by simpa using hl) (λj c' u hj hu=>hv (j+1) c' u (by simpa using hj) (by simpa using hu))
    refine⟨M2,e2,s2,by simp[l2],λy hy=>?_,λj y u hj hu=>?_⟩
    ·cases hy with
     |head=>exact .inl hc
     |tail _ hy=>exact d2 y hy
    ·cases j with
     |zero=>simp at hj hu;subst hj;subst hu;exact(hv 0 c v rfl rfl).since s2
     |succ j=>exact r2 j y u (by simpa using hj) (by simpa using hu)
   ·cases h
  ·split at h
   ·rename_i x os2 h1
    split at h
    ·rename_i ys os3 h2
     cases h
     obtain⟨M1,e1,s1,r1,d1⟩:=frzG_ok he h1 (hv 0 c v rfl rfl)
     obtain⟨M2,e2,s2,l2,d2,r2⟩:=prepGs_ok cs e1 h2 (vs:=vs) (by simpa using hl) (λj c' u hj hu=>(hv (j+1) c' u (by simpa using hj) (by simpa using hu)).since s1)
     refine⟨M2,e2,s1.trans s2,by simp[l2],λy hy=>?_,λj y u hj hu=>?_⟩
     ·cases hy with
      |head=>exact .inr d1
      |tail _ hy=>exact d2 y hy
     ·cases j with
      |zero=>simp at hj hu;subst hj;subst hu;exact r1.since s2
      |succ j=>exact r2 j y u (by simpa using hj) (by simpa using hu)
    ·cases h
   ·cases h
def Gh.join(G G':Gh)(n:Nat):Gh:={blk:=λi=>if i<n then G.blk i else G'.blk (i-n),cap:=λi=>if i<n then G.cap i else G'.cap (i-n)}
theorem shO_live(n:Nat)(o:AO):(shO n o).live=o.live:=by
 cases o with
 |rarr es sz nl=>cases nl<;>rfl
 |_=>rfl
theorem join_get{os os2:List AO}{i:Nat}(h:os.length<=i):(os++os2.map (shO os.length))[i]?=(os2[i-os.length]?).map (shO os.length):=by
 rw[List.getElem?_append_right h,List.getElem?_map]
theorem VC.shift{M:Mem}{G G':Gh}{os os2:List AO}{c:AV}{v:Value}(h:VC M G' os2 c v):VC M (G.join G' os.length) (os++os2.map (shO os.length)) (shC os.length c) v:=by
 have hb:∀id,(G.join G' os.length).blk (id+os.length)=G'.blk id:=λid=>by simp only[Gh.join];rw[if_neg (by omega),Nat.add_sub_cancel]
 have hc:∀id,(G.join G' os.length).cap (id+os.length)=G'.cap id:=λid=>by simp only[Gh.join];rw[if_neg (by omega),Nat.add_sub_cancel]
 have hg:∀id,(os++os2.map (shO os.length))[id+os.length]?=(os2[id]?).map (shO os.length):=λid=>by rw[join_get (by omega),Nat.add_sub_cancel]
 cases c with
 |d x=>exact h
 |agg cs=>exact h
 |tup cs=>exact h
 |junk=>exact h
 |dptr es i off=>exact h
 |ptr id off=>
  obtain⟨rfl,cs,h2⟩:=h
  exact⟨by rw[hb],_,by rw[hg,h2];rfl⟩
 |aptr id len i off=>
  obtain⟨h0,es,sz,frz,nl,h1,h2,h3⟩:=h
  exact⟨h0,es,sz,frz,nl,by rw[hg,h1];rfl,h2,λe=>by rw[h3 e,hb]⟩
 |arr id len=>
  obtain⟨h0,es,sz,frz,nl,h1,h2,h3⟩:=h
  exact⟨h0,es,sz,frz,nl,by rw[hg,h1];rfl,h2,λe=>by rw[h3 e,Gh.slv,Gh.slv,hb,hc]⟩
 |rs id len=>
  obtain⟨h0,es,sz,nl,h1,h2,h3⟩:=h
  exact⟨h0,es.map λe=>e.map (shC os.length),sz,nl,by rw[hg,h1];rfl,by rw[List.length_map];exact h2,λe=>by rw[List.length_map] at e ⊢;rw[h3 e,Gh.slv,Gh.slv,hb,hc]⟩
 |rp id len i off=>
  obtain⟨h0,es,sz,nl,h1,h2,h3⟩:=h
  exact⟨h0,es.map λe=>e.map (shC os.length),sz,nl,by rw[hg,h1];rfl,by rw[List.length_map];exact h2,λe=>by rw[List.length_map] at e;rw[h3 e,hb]⟩
 |full es=>exact h
 |sub id tot lo n=>
  obtain⟨h0,es,sz,frz,nl,h1,h2,hln,h3⟩:=h
  refine⟨h0,es,sz,frz,nl,by rw[hg,h1];rfl,h2,hln,λe=>?_⟩
  have h4:=h3 e
  unfold Gh.sbv at h4 ⊢
  rw[hb,hc];exact h4
 |clo f caps=>
  obtain⟨rfl,h2⟩:=h
  refine⟨?_,λid hid=>?_⟩
  ·congr 2
   rw[List.map_map]
   exact List.map_congr_left λid _=>by simp[hb]
  ·obtain⟨id',hid',rfl⟩:=List.mem_map.1 hid
   obtain⟨cs,hcs⟩:=h2 id' hid'
   exact⟨_,by rw[hg,hcs];rfl⟩
 |bcl f id=>
  obtain⟨rfl,cs,h2⟩:=h
  exact⟨by rw[hb],_,by rw[hg,h2];rfl⟩
 |iter id=>
  obtain⟨rfl,s,p,h2⟩:=h
  exact⟨by rw[hb],s,p,by rw[hg,h2];rfl⟩
 |mp id=>
  obtain⟨rfl,kvs,h2⟩:=h
  exact⟨by rw[hb],_,by rw[hg,h2];rfl⟩
 |mit id=>
  obtain⟨rfl,m,n,s,h2⟩:=h
  exact⟨by rw[hb],_,_,_,by rw[hg,h2];rfl⟩
theorem VG.shift{M:Mem}{G G':Gh}{os os2:List AO}{c:AV}{v:Value}(h:VG M G' os2 c v):VG M (G.join G' os.length) (os++os2.map (shO os.length)) (shG os.length c) v:=by
 cases c with
 |agg cs=>
  obtain⟨vs,rfl,h2,h3⟩:=h
  refine⟨vs,rfl,by simp[h2],λj c u hj hu=>?_⟩
  rw[List.getElem?_map] at hj
  obtain⟨c',hc',rfl⟩:=Option.map_eq_some_iff.1 hj
  exact(h3 j c' u hc' hu).shift
 |d x=>exact VC.shift (M:=M) (G:=G) (G':=G') (os:=os) (os2:=os2) (c:=.d x) h
 |tup cs=>exact h.elim
 |junk=>exact h
 |dptr es i off=>exact VC.shift (M:=M) (G:=G) (G':=G') (os:=os) (os2:=os2) (c:=.dptr es i off) h
 |ptr id off=>exact VC.shift (M:=M) (G:=G) (G':=G') (os:=os) (os2:=os2) (c:=.ptr id off) h
 |aptr id len i off=>exact VC.shift (M:=M) (G:=G) (G':=G') (os:=os) (os2:=os2) (c:=.aptr id len i off) h
 |arr id len=>exact VC.shift (M:=M) (G:=G) (G':=G') (os:=os) (os2:=os2) (c:=.arr id len) h
 |clo f caps=>exact VC.shift (M:=M) (G:=G) (G':=G') (os:=os) (os2:=os2) (c:=.clo f caps) h
 |bcl f id=>exact VC.shift (M:=M) (G:=G) (G':=G') (os:=os) (os2:=os2) (c:=.bcl f id) h
 |iter id=>exact VC.shift (M:=M) (G:=G) (G':=G') (os:=os) (os2:=os2) (c:=.iter id) h
 |mp id=>exact VC.shift (M:=M) (G:=G) (G':=G') (os:=os) (os2:=os2) (c:=.mp id) h
 |mit id=>exact VC.shift (M:=M) (G:=G) (G':=G') (os:=os) (os2:=os2) (c:=.mit id) h
 |rs id len=>exact VC.shift (M:=M) (G:=G) (G':=G') (os:=os) (os2:=os2) (c:=.rs id len) h
 |rp id len i off=>exact VC.shift (M:=M) (G:=G) (G':=G') (os:=os) (os2:=os2) (c:=.rp id len i off) h
 |full es=>exact VC.shift (M:=M) (G:=G) (G':=G') (os:=os) (os2:=os2) (c:=.full es) h
 |sub id tot lo n=>exact VC.shift (M:=M) (G:=G) (G':=G') (os:=os) (os2:=os2) (c:=.sub id tot lo n) h
theorem VA.shift{M:Mem}{G G':Gh}{os os2:List AO}{c:AV}{v:Value}(h:VA M G' os2 c v):VA M (G.join G' os.length) (os++os2.map (shO os.length)) (shA os.length c) v:=by
 cases c with
 |tup cs=>
  obtain⟨vs,rfl,h2,h3⟩:=h
  refine⟨vs,rfl,by simp[h2],λj c u hj hu=>?_⟩
  rw[List.getElem?_map] at hj
  obtain⟨c',hc',rfl⟩:=Option.map_eq_some_iff.1 hj
  exact(h3 j c' u hc' hu).shift
 |junk=>trivial
 |d x=>exact VG.shift (M:=M) (G:=G) (G':=G') (os:=os) (os2:=os2) (c:=.d x) h
 |agg cs=>exact VG.shift (M:=M) (G:=G) (G':=G') (os:=os) (os2:=os2) (c:=.agg cs) h
 |dptr es i off=>exact VG.shift (M:=M) (G:=G) (G':=G') (os:=os) (os2:=os2) (c:=.dptr es i off) h
 |ptr id off=>exact VG.shift (M:=M) (G:=G) (G':=G') (os:=os) (os2:=os2) (c:=.ptr id off) h
 |aptr id len i off=>exact VG.shift (M:=M) (G:=G) (G':=G') (os:=os) (os2:=os2) (c:=.aptr id len i off) h
 |arr id len=>exact VG.shift (M:=M) (G:=G) (G':=G') (os:=os) (os2:=os2) (c:=.arr id len) h
 |clo f caps=>exact VG.shift (M:=M) (G:=G) (G':=G') (os:=os) (os2:=os2) (c:=.clo f caps) h
 |bcl f id=>exact VG.shift (M:=M) (G:=G) (G':=G') (os:=os) (os2:=os2) (c:=.bcl f id) h
 |iter id=>exact VG.shift (M:=M) (G:=G) (G':=G') (os:=os) (os2:=os2) (c:=.iter id) h
 |mp id=>exact VG.shift (M:=M) (G:=G) (G':=G') (os:=os) (os2:=os2) (c:=.mp id) h
 |mit id=>exact VG.shift (M:=M) (G:=G) (G':=G') (os:=os) (os2:=os2) (c:=.mit id) h
 |rs id len=>exact VG.shift (M:=M) (G:=G) (G':=G') (os:=os) (os2:=os2) (c:=.rs id len) h
 |rp id len i off=>exact VG.shift (M:=M) (G:=G) (G':=G') (os:=os) (os2:=os2) (c:=.rp id len i off) h
 |full es=>exact VG.shift (M:=M) (G:=G) (G':=G') (os:=os) (os2:=os2) (c:=.full es) h
 |sub id tot lo n=>exact VG.shift (M:=M) (G:=G) (G':=G') (os:=os) (os2:=os2) (c:=.sub id tot lo n) h
theorem live_nil{i:Nat}(h:Live [] i):False:=by obtain⟨o,ho,_⟩:=h;simp at ho
theorem live_join{os os2:List AO}{i:Nat}(h:Live (os++os2.map (shO os.length)) i):(i<os.length/\Live os i)\/(os.length<=i/\Live os2 (i-os.length)):=by
 obtain⟨o,ho,hl⟩:=h
 by_cases hi:i<os.length
 ·rw[List.getElem?_append_left hi] at ho
  exact .inl ⟨hi,o,ho,hl⟩
 ·rw[join_get (by omega)] at ho
  obtain⟨o',ho',rfl⟩:=Option.map_eq_some_iff.1 ho
  exact .inr ⟨by omega,o',ho',by rw[<- hl,shO_live]⟩
theorem env_join{M M':Mem}{G G':Gh}{os os2:List AO}{w w':World}(he:Env M G os w)(he':Env M' G' os2 w')(hs:Since M G [] w M' G' os2 w') :
  Env M' (G.join G' os.length) (os++os2.map (shO os.length)) w'/\Since M G os w M' (G.join G' os.length) (os++os2.map (shO os.length)) w':=by
 have hblk:∀i,i<os.length->(G.join G' os.length).blk i=G.blk i:=λi hi=>by simp[Gh.join,hi]
 have hcap:∀i,i<os.length->(G.join G' os.length).cap i=G.cap i:=λi hi=>by simp[Gh.join,hi]
 have hblk':∀i,os.length<=i->(G.join G' os.length).blk i=G'.blk (i-os.length):=λi hi=>by simp[Gh.join];omega
 have hcap':∀i,os.length<=i->(G.join G' os.length).cap i=G'.cap (i-os.length):=λi hi=>by simp[Gh.join];omega
 have hown:∀i,Live os2 i->w.heap.size<=G'.blk i:=λi hi=>by
  rcases hs.own i hi with h|⟨j,hj,_⟩
  ·exact h
  ·exact(live_nil hj).elim
 have hheap:∀b,b<w.heap.size->w'.heap[b]?=w.heap[b]?:=λb hb=>hs.frame b hb (λi hi=>(live_nil hi).elim)
 have hmem:∀y,y.block<w.heap.size->M' y=M y:=λy hy=>by
  cases hq:M y with
  |some v=>exact hs.grow y v hq
  |none=>
   cases hq':M' y with
   |none=>rfl
   |some v=>
    rcases hs.fresh y v hq' with h|h|⟨i,hi,_⟩
    ·rw[hq] at h;cases h
    ·omega
    ·exact(live_nil hi).elim
 have hsince:Since M G os w M' (G.join G' os.length) (os++os2.map (shO os.length)) w':={
  sys:=hs.sys,tape:=hs.tape,output:=hs.output,size:=hs.size
  frame:=λb hb _=>hheap b hb
  grow:=hs.grow
  fresh:=λy v hy=>by
   rcases hs.fresh y v hy with h|h|⟨i,hi,_⟩
   ·exact .inl h
   ·exact .inr (.inl h)
   ·exact(live_nil hi).elim
  own:=λi hi=>by
   rcases live_join hi with ⟨h1,h2⟩|⟨h1,h2⟩
   ·exact .inr ⟨i,h2,by rw[hblk i h1]⟩
   ·exact .inl (by rw[hblk' i h1];exact hown _ h2)
  keep:=λi o ho=>by
   have hlt:=(List.getElem?_eq_some_iff.1 ho).1
   exact Keeps.same (by rw[List.getElem?_append_left hlt];exact ho) (hblk i hlt) (hcap i hlt)}
 refine⟨⟨he'.mem,λid o ho=>?_,λi j hi hj hij=>?_,λi y v hi hy hb=>?_,glb_since hsince he.glb⟩,hsince⟩
 ·by_cases hid:id<os.length
  ·rw[List.getElem?_append_left hid] at ho
   have hold:=he.obj id o ho
   by_cases hl:o.live=true
   ·have hlt:=he.lt ⟨o,ho,hl⟩
    exact OR.since hsince hold (hblk id hid) (hcap id hid) (hheap _ hlt) (λy hy=>hmem y (by omega))
   ·cases o with
    |cells cs=>exact absurd rfl hl
    |iter s p=>exact absurd rfl hl
    |hole=>trivial
    |map kvs=>exact absurd rfl hl
    |mit m n s=>exact absurd rfl hl
    |arr es sz frz nl=>
     cases nl with
     |false=>exact absurd rfl hl
     |true=>exact⟨hold.1,hold.2.1,hold.2.2.1,hold.2.2.2.1,λh=>by cases h⟩
    |rarr es sz nl=>
     cases nl with
     |false=>exact absurd rfl hl
     |true=>exact⟨hold.1,hold.2.1,hold.2.2.1,λh=>by cases h⟩
  ·rw[join_get (by omega)] at ho
   obtain⟨o',ho',rfl⟩:=Option.map_eq_some_iff.1 ho
   have hold:=he'.obj _ _ ho'
   cases o' with
   |cells cs=>
    obtain⟨ca,t,h1,h2,h3⟩:=hold
    refine⟨ca,t,by rw[hblk' id (by omega)];exact h1,by simp[h2],λj c u hj hu=>?_⟩
    rw[List.getElem?_map] at hj
    obtain⟨c',hc',rfl⟩:=Option.map_eq_some_iff.1 hj
    exact(h3 j c' u hc' hu).shift
   |iter s p=>
    show _=_
    rw[hblk' id (by omega)]
    exact hold
   |hole=>trivial
   |map kvs=>
    obtain⟨es,clock,h1,h2,h3⟩:=hold
    refine⟨es,clock,by rw[hblk' id (by omega)];exact h1,by simpa using h2,λj p e hp he=>?_⟩
    rw[List.getElem?_map] at hp
    obtain⟨p',hp',rfl⟩:=Option.map_eq_some_iff.1 hp
    obtain⟨a2,a3⟩:=h3 j p' e hp' he
    exact⟨a2,a3.shift⟩
   |mit m n s=>
    obtain⟨h1,kvs,h2⟩:=hold
    have h3:(os++os2.map (shO os.length))[m+os.length]?=some (shO os.length (.map kvs)):=by rw[join_get (by omega),Nat.add_sub_cancel,h2];rfl
    refine⟨?_,_,h3⟩
    rw[hblk' id (by omega),hblk' (m+os.length) (by omega),Nat.add_sub_cancel]
    exact h1
   |arr es sz frz nl=>
    obtain⟨h1,h2,h3,h4,h5⟩:=hold
    refine⟨h1,h2,h3,h4,λhn=>?_⟩
    rw[hblk' id (by omega),hcap' id (by omega)]
    exact h5 hn
   |rarr es sz nl=>
    obtain⟨h1,h2,h3,h4⟩:=hold
    refine⟨h1,λe he=>?_,λhn=>by rw[h3 hn];rfl,λhn=>?_⟩
    ·obtain⟨e',he',rfl⟩:=List.mem_map.1 he
     rw[List.length_map];exact h2 e' he'
    ·obtain⟨ca,t,k1,k2,k3,k4,k5⟩:=h4 hn
     rw[hblk' id (by omega),hcap' id (by omega)]
     refine⟨ca,t,k1,k2,by rw[List.length_map];exact k3,k4,λi j e c he hc=>?_⟩
     rw[List.getElem?_map] at he
     obtain⟨e',he',rfl⟩:=Option.map_eq_some_iff.1 he
     rw[List.getElem?_map] at hc
     obtain⟨c',hc',rfl⟩:=Option.map_eq_some_iff.1 hc
     obtain⟨u,hu,hv⟩:=k5 i j e' c' he' hc'
     exact⟨u,hu,hv.shift⟩
 ·rcases live_join hi with ⟨h1,h2⟩|⟨h1,h2⟩<;>rcases live_join hj with ⟨h3,h4⟩|⟨h3,h4⟩
  ·rw[hblk i h1,hblk j h3] at hij
   exact he.inj i j h2 h4 hij
  ·rw[hblk i h1,hblk' j h3] at hij
   have:=he.lt h2
   have:=hown _ h4
   omega
  ·rw[hblk' i h1,hblk j h3] at hij
   have:=he.lt h4
   have:=hown _ h2
   omega
  ·rw[hblk' i h1,hblk' j h3] at hij
   have:=he'.inj _ _ h2 h4 hij
   omega
 ·rcases live_join hi with ⟨h1,h2⟩|⟨h1,h2⟩
  ·rw[hblk i h1] at hb
   have hlt:=he.lt h2
   rw[hmem y (by omega)] at hy
   obtain⟨es,sz,frz,nl,h3,h4⟩:=he.sep i y v h2 hy hb
   exact⟨es,sz,frz,nl,by rw[List.getElem?_append_left h1];exact h3,h4⟩
  ·rw[hblk' i h1] at hb
   obtain⟨es,sz,frz,nl,h3,h4⟩:=he'.sep _ y v h2 hy hb
   exact⟨es,sz,frz,nl,by rw[join_get h1,h3];rfl,h4⟩
theorem Env.none(he:Env M G os w):Env M G [] w where
 glb:=λb hb=>⟨(he.glb b hb).1,λi hi=>(live_nil hi).elim⟩
 mem:=he.mem
 obj:=λid o ho=>by simp at ho
 inj:=λi j hi=>(live_nil hi).elim
 sep:=λi a v hi=>(live_nil hi).elim
theorem VG.of_isD{x:AV}{v:Value}{os':List AO}(hd:x.isD)(h:VG M G os x v):VG M G os' x v:=h.data hd (λ_ _ h=>h)
theorem fcall_ok(he:Env M G os w){g:FuncId}{as:List AV}{Q:AV->List AO->Prop}(h:CallSpec P g as [] Q)(hd:∀x∈as,x.isD){vs:Array Value}(hl:vs.size=as.length)(hv:∀(j:Nat) x u,as[j]?=some x->vs[j]?=some u->VG M G os x u) :
  Calls P g vs w λe w'=>∃v,e=.returned v/\∃M' G' r os2,Env M' (G.join G' os.length) (os++os2.map (shO os.length)) w'/\Since M G os w M' (G.join G' os.length) (os++os2.map (shO os.length)) w'/\
   VA M' (G.join G' os.length) (os++os2.map (shO os.length)) (shA os.length r) v/\Q r os2:=by
 refine(h.2 M G w vs he.none hl λj x u hx hu=>(hv j x u hx hu).of_isD (hd x (List.mem_of_getElem? hx))).mono ?_
 rintro e w' ⟨v,rfl,M',G',r,os2,h1,h2,h3,h4⟩
 obtain⟨q1,q2⟩:=env_join he h1 h2
 exact⟨v,rfl,M',G',r,os2,q1,q2,h3.shift,h4⟩
theorem not_any_ref{xs:List AV}(h:∀x∈xs,x.ref=true\/x.isD)(hn:¬xs.any AV.ref=true):∀x∈xs,x.isD:=λx hx=>by
 rcases h x hx with h1|h1
 ·exact absurd (List.any_eq_true.2 ⟨x,hx,h1⟩) hn
 ·exact h1
theorem args_ok(ht:Tmps M G os ρ a){args:List Operand}{args':List Opd}(h:args.mapM cO=some args'):args'.length=args.length/\
  ∀(j:Nat) c u,(args'.map (evO ρ))[j]?=some c->(args.map a.eval)[j]?=some u->VA M G os c u:=by
 induction args generalizing args' with
 |nil=>simp at h;subst h;simp
 |cons x args ih=>
  simp only[List.mapM_cons,Option.bind_eq_bind,Option.bind_eq_some_iff] at h
  obtain⟨y,hy,ys,hys,hp⟩:=h
  simp at hp
  subst hp
  obtain⟨i1,i2⟩:=ih hys
  refine⟨by simp[i1],λj c u hc hu=>?_⟩
  cases j with
  |zero=>simp at hc hu;subst hc;subst hu;exact cO_ev ht hy
  |succ j=>exact i2 j c u (by simpa using hc) (by simpa using hu)
theorem prep_vg{cs xs:List AV}{os os1:List AO}(h:prepGs os cs=some (xs,os1)):∀c∈cs,(∀ts,c≠.tup ts)/\c≠.junk:=by
 induction cs generalizing xs os os1 with
 |nil=>intro c hc;cases hc
 |cons x cs ih=>
  simp only[prepGs] at h
  intro c hc
  split at h
  ·rename_i hr
   split at h
   ·rename_i ys os2 h1
    cases hc with
    |head=>refine⟨λts e=>?_,λe=>?_⟩<;>(subst e;cases hr)
    |tail _ hc=>exact ih h1 c hc
   ·cases h
  ·split at h
   ·rename_i y os2 h1
    split at h
    ·rename_i ys os3 h2
     cases hc with
     |head=>refine⟨λts e=>?_,λe=>?_⟩<;>(subst e;cases h1)
     |tail _ hc=>exact ih h2 c hc
    ·cases h
   ·cases h
theorem frz_vg{cs xs:List AV}{os os1:List AO}(h:frzGs os cs=some (xs,os1)):∀c∈cs,(∀ts,c≠.tup ts)/\c≠.junk:=by
 induction cs generalizing xs os os1 with
 |nil=>intro c hc;cases hc
 |cons x cs ih=>
  simp only[frzGs] at h
  intro c hc
  split at h
  ·rename_i y os2 h1
   split at h
   ·rename_i ys os3 h2
    cases hc with
    |head=>refine⟨λts e=>?_,λe=>?_⟩<;>(subst e;cases h1)
    |tail _ hc=>exact ih h2 c hc
   ·cases h
  ·cases h
theorem shC_nil{n:Nat}{c:AV}{v:Value}(h:VC M G [] c v):shC n c=c:=by
 cases c with
 |ptr id off=>obtain⟨_,cs,h2⟩:=h;simp at h2
 |aptr id len i off=>obtain⟨_,es,sz,frz,nl,h2,_⟩:=h;simp at h2
 |arr id len=>obtain⟨_,es,sz,frz,nl,h2,_⟩:=h;simp at h2
 |rs id len=>obtain⟨_,es,sz,nl,h2,_⟩:=h;simp at h2
 |rp id len i off=>obtain⟨_,es,sz,nl,h2,_⟩:=h;simp at h2
 |sub id tot lo k=>obtain⟨_,es,sz,frz,nl,h2,_⟩:=h;simp at h2
 |iter id=>obtain⟨_,cs,p,h2⟩:=h;simp at h2
 |mp id=>obtain⟨_,kvs,h2⟩:=h;simp at h2
 |mit id=>obtain⟨_,m,n',s,h2⟩:=h;simp at h2
 |clo f caps=>
  obtain⟨_,h2⟩:=h
  cases caps with
  |nil=>rfl
  |cons id caps=>obtain⟨cs,h3⟩:=h2 id (by simp);simp at h3
 |bcl f id=>obtain⟨_,cs,h2⟩:=h;simp at h2
 |_=>rfl
theorem shG_nil{n:Nat}{c:AV}{v:Value}(h:VG M G [] c v):shG n c=c:=by
 cases c with
 |agg cs=>
  obtain⟨vs,rfl,h2,h3⟩:=h
  simp only[shG]
  congr 1
  refine(List.map_congr_left λc hc=>?_).trans (List.map_id cs)
  obtain⟨j,hj,rfl⟩:=List.mem_iff_getElem.1 hc
  exact shC_nil (h3 j _ _ (List.getElem?_eq_getElem hj) (Array.getElem?_eq_getElem (by omega)))
 |d x=>rfl
 |tup cs=>rfl
 |junk=>rfl
 |dptr es i off=>rfl
 |ptr id off=>exact shC_nil (M:=M) (G:=G) (c:=.ptr id off) h
 |aptr id len i off=>exact shC_nil (M:=M) (G:=G) (c:=.aptr id len i off) h
 |arr id len=>exact shC_nil (M:=M) (G:=G) (c:=.arr id len) h
 |clo f caps=>exact shC_nil (M:=M) (G:=G) (c:=.clo f caps) h
 |bcl f id=>exact shC_nil (M:=M) (G:=G) (c:=.bcl f id) h
 |iter id=>exact shC_nil (M:=M) (G:=G) (c:=.iter id) h
 |mp id=>exact shC_nil (M:=M) (G:=G) (c:=.mp id) h
 |mit id=>exact shC_nil (M:=M) (G:=G) (c:=.mit id) h
 |rs id len=>exact shC_nil (M:=M) (G:=G) (c:=.rs id len) h
 |rp id len i off=>exact shC_nil (M:=M) (G:=G) (c:=.rp id len i off) h
 |full es=>rfl
 |sub id tot lo n=>exact shC_nil (M:=M) (G:=G) (c:=.sub id tot lo n) h
theorem shA_nil{n:Nat}{c:AV}{v:Value}(h:VA M G [] c v):shA n c=c:=by
 cases c with
 |tup cs=>
  obtain⟨vs,rfl,h2,h3⟩:=h
  simp only[shA]
  congr 1
  refine(List.map_congr_left λc hc=>?_).trans (List.map_id cs)
  obtain⟨j,hj,rfl⟩:=List.mem_iff_getElem.1 hc
  exact shG_nil (h3 j _ _ (List.getElem?_eq_getElem hj) (Array.getElem?_eq_getElem (by omega)))
 |d x=>rfl
 |junk=>rfl
 |dptr es i off=>rfl
 |agg cs=>exact shG_nil (M:=M) (G:=G) (c:=.agg cs) h
 |ptr id off=>exact shG_nil (M:=M) (G:=G) (c:=.ptr id off) h
 |aptr id len i off=>exact shG_nil (M:=M) (G:=G) (c:=.aptr id len i off) h
 |arr id len=>exact shG_nil (M:=M) (G:=G) (c:=.arr id len) h
 |clo f caps=>exact shG_nil (M:=M) (G:=G) (c:=.clo f caps) h
 |bcl f id=>exact shG_nil (M:=M) (G:=G) (c:=.bcl f id) h
 |iter id=>exact shG_nil (M:=M) (G:=G) (c:=.iter id) h
 |mp id=>exact shG_nil (M:=M) (G:=G) (c:=.mp id) h
 |mit id=>exact shG_nil (M:=M) (G:=G) (c:=.mit id) h
 |rs id len=>exact shG_nil (M:=M) (G:=G) (c:=.rs id len) h
 |rp id len i off=>exact shG_nil (M:=M) (G:=G) (c:=.rp id len i off) h
 |full es=>rfl
 |sub id tot lo n=>exact shG_nil (M:=M) (G:=G) (c:=.sub id tot lo n) h
theorem va_vg{c:AV}{v:Value}(h:VA M G os c v)(h1:∀ts,c≠.tup ts)(h2:c≠.junk):VG M G os c v:=by
 cases c with
 |tup ts=>exact absurd rfl (h1 ts)
 |junk=>exact absurd rfl h2
 |_=>exact h
set_option maxHeartbeats 1000000 in
theorem ok_call(he:Env M G os w)(ht:Tmps M G os ρ a){o:Oper}{f:Operand}{f':Opd}{args':List Opd}{c:Call}(ho:o.op=.call c)(hb:c.callee=.value f)(hf:cO f=some f')(hargs:c.args.toList.mapM cO=some args')
  (h:opI P ρ os K (.call f' args')):OpOK P M G os w K (execOp a.eval o):=by
 have e1:=cO_ev ht hf
 obtain⟨l1,e2⟩:=args_ok ht hargs
 simp only[opI] at h
 rcases h with h|h
 rotate_left
 ·split at h
  ·rename_i g hev
   rw[hev] at e1
   have hfv:=va_fn e1
   obtain⟨hone,h⟩:=h
   have key:(execOp a.eval o).run P w=(callFunc g (c.args.map a.eval)).run P w:=by
    simp only[execOp,ho,resolve,hb,hfv,Deferred.ofValue,Sem.run_bind,Sem.run_pure,Result.andThen_ok,invoke,Array.empty_append,Array.append_empty]
   have hvs:(c.args.map a.eval).toList=c.args.toList.map a.eval:=by simp
   unfold OpOK
   rw[key,run_enter h.1]
   refine⟨rfl,(h.2 M G w _ he (by simp[l1]) λj x u hx hu=>?_).mono ?_⟩
   ·have h1:=List.all_eq_true.1 hone x (List.mem_of_getElem? hx)
    refine va_vg (e2 j x u hx (by rw[<- hvs];simpa using hu)) (λts e=>?_) (λe=>?_)
    ·subst e;cases h1
    ·subst e;cases h1
   ·rintro e w' ⟨v,rfl,M',G',r,os2,h1,h2,h3,h4⟩
    exact⟨v,rfl,M',G',r,os2,h1,h2,h3,h4⟩
  ·exact h.elim
 split at h
 ·rename_i as os1 hp
  have hpv:=prep_vg hp
  obtain⟨M1,p1,p2,p3,p4,p5⟩:=prepGs_ok _ he hp (vs:=c.args.toList.map a.eval) (by simp[l1]) (λj c u hc hu=>va_vg (e2 j c u hc hu) (hpv c (List.mem_of_getElem? hc)).1 (hpv c (List.mem_of_getElem? hc)).2)
  have hvs:(c.args.map a.eval).toList=c.args.toList.map a.eval:=by simp
  have hal:as.length=c.args.size:=by rw[p3];simp[l1]
  split at h
  ·rename_i g hev
   rw[hev] at e1
   have hfv:=va_fn e1
   have key:(execOp a.eval o).run P w=(callFunc g (c.args.map a.eval)).run P w:=by
    simp only[execOp,ho,resolve,hb,hfv,Deferred.ofValue,Sem.run_bind,Sem.run_pure,Result.andThen_ok,invoke,Array.empty_append,Array.append_empty]
   split at h
   ·unfold OpOK
    rw[key,run_enter h.1]
    refine⟨rfl,(h.2 M1 G w _ p1 (by simp[p3,l1]) λj x u hx hu=>p5 j x u hx (by rw[<- hvs];simpa using hu)).mono ?_⟩
    rintro e w' ⟨v,rfl,M',G',r,os2,h1,h2,h3,h4⟩
    exact⟨v,rfl,M',G',r,os2,h1,p2.trans h2,h3,h4⟩
   ·rename_i hn
    unfold OpOK
    rw[key,run_enter h.1]
    refine⟨rfl,(fcall_ok p1 h (not_any_ref p4 hn) (vs:=c.args.map a.eval) (by simp[p3,l1]) λj x u hx hu=>p5 j x u hx (by rw[<- hvs];simpa using hu)).mono ?_⟩
    rintro e w' ⟨v,rfl,M',G',r,os2,h1,h2,h3,h4⟩
    exact⟨v,rfl,M',_,_,_,h1,p2.trans h2,h3,h4⟩
  ·rename_i g caps hev
   rw[hev] at e1
   obtain⟨hfv,hcaps⟩:=e1
   have key:(execOp a.eval o).run P w=(callFunc g (c.args.map a.eval++(caps.map λid=>Value.pointer (some ⟨G.blk id,0,none⟩)).toArray)).run P w:=by
    simp only[execOp,ho,resolve,hb,hfv,Deferred.ofValue,Sem.run_bind,Sem.run_pure,Result.andThen_ok,invoke,Array.empty_append]
   unfold OpOK
   rw[key,run_enter h.1]
   refine⟨rfl,(h.2 M1 G w _ p1 (by simp[p3,l1]) λj x u hx hu=>?_).mono ?_⟩
   ·by_cases hj:j<as.length
    ·rw[List.getElem?_append_left hj] at hx
     rw[Array.getElem?_append_left (by simp;omega)] at hu
     exact p5 j x u hx (by rw[<- hvs];simpa using hu)
    ·rw[List.getElem?_append_right (by omega),List.getElem?_map] at hx
     rw[Array.getElem?_append_right (by simp;omega)] at hu
     obtain⟨id,hid,rfl⟩:=Option.map_eq_some_iff.1 hx
     have:j-(c.args.map a.eval).size=j-as.length:=by simp;omega
     rw[this] at hu
     simp[hid] at hu
     subst hu
     obtain⟨cs,hcs⟩:=hcaps id (List.mem_of_getElem? hid)
     exact⟨rfl,(p2.keep id _ hcs).2⟩
   ·rintro e w' ⟨v,rfl,M',G',r,os2,h1,h2,h3,h4⟩
    exact⟨v,rfl,M',G',r,os2,h1,p2.trans h2,h3,h4⟩
  ·rename_i g id hev
   rw[hev] at e1
   obtain⟨hfv,cs,hcs⟩:=(show a.eval f=.func (.func g) #[.pointer (some ⟨G.blk id,0,none⟩)] #[]/\∃cs,os[id]?=some (.cells cs) from e1)
   have key:(execOp a.eval o).run P w=(callFunc g (#[Value.pointer (some ⟨G.blk id,0,none⟩)]++c.args.map a.eval)).run P w:=by
    simp only[execOp,ho,resolve,hb,hfv,Deferred.ofValue,Sem.run_bind,Sem.run_pure,Result.andThen_ok,invoke,Array.append_empty]
   unfold OpOK
   rw[key,run_enter h.1]
   refine⟨rfl,(h.2 M1 G w _ p1 (by simp[p3,l1];omega) λj x u hx hu=>?_).mono ?_⟩
   ·cases j with
    |zero=>
     cases hx
     rw[Array.getElem?_append_left (Nat.zero_lt_one)] at hu
     simp only[List.getElem?_toArray,List.getElem?_cons_zero,Option.some.injEq] at hu
     subst hu
     exact⟨rfl,(p2.keep id _ hcs).2⟩
    |succ j=>
     rw[List.getElem?_cons_succ] at hx
     rw[Array.getElem?_append_right (by simp)] at hu
     simp only[List.size_toArray,List.length_cons,List.length_nil] at hu
     exact p5 j x u hx (by rw[<- hvs];simpa using hu)
   ·rintro e w' ⟨v,rfl,M',G',r,os2,h1,h2,h3,h4⟩
    exact⟨v,rfl,M',G',r,os2,h1,p2.trans h2,h3,h4⟩
  ·rename_i vf hev
   rw[hev] at e1
   split at h
   ·rename_i g ds hbn
    obtain⟨hn,h⟩:=h
    obtain⟨vs0,hvf,hun⟩:=bndF_inv hbn
    have hfv:a.eval f=.func (.func g) #[.agg ⟨vs0⟩] #[]:=by
     have e1:Rd M (.lit vf) (a.eval f):=e1
     generalize a.eval f=u at e1
     cases e1
     exact hvf
    have key:(execOp a.eval o).run P w=(callFunc g (#[.agg ⟨vs0⟩]++c.args.map a.eval)).run P w:=by
     simp only[execOp,ho,resolve,hb,hfv,Deferred.ofValue,Sem.run_bind,Sem.run_pure,Result.andThen_ok,invoke,Array.append_empty]
    have hd:∀x∈(AV.agg (ds.map .d)::as),x.isD:=λx hx=>by
     rcases List.mem_cons.1 hx with rfl|hx
     ·exact⟨ds,rfl⟩
     ·exact not_any_ref p4 (by rw[hn];decide) x hx
    obtain⟨va,hva⟩:∃va,va=#[Value.agg ⟨vs0⟩]++c.args.map a.eval:=⟨_,rfl⟩
    have hvl:va.size=(AV.agg (ds.map .d)::as).length:=by rw[hva,Array.size_append,Array.size_map,List.length_cons,hal];simp;omega
    rw[<- hva] at key
    have hfc:=fcall_ok p1 h hd (vs:=va) hvl
    unfold OpOK
    rw[key,run_enter h.1]
    refine⟨rfl,(hfc λj x u hx hu=>?_).mono ?_⟩
    ·rw[hva] at hu
     clear hfc key
     cases j with
     |zero=>
      cases hx
      rw[Array.getElem?_append_left (Nat.zero_lt_one)] at hu
      simp only[List.getElem?_toArray,List.getElem?_cons_zero,Option.some.injEq] at hu
      subst hu
      obtain⟨q1,q2⟩:=unSs_rd (M:=M1) hun
      refine⟨⟨vs0⟩,rfl,by simp[q1],λj c u hc hu=>?_⟩
      rw[List.getElem?_map] at hc
      obtain⟨d,hd',rfl⟩:=Option.map_eq_some_iff.1 hc
      exact q2 j d u hd' (by simpa using hu)
     |succ j=>
      rw[List.getElem?_cons_succ] at hx
      rw[Array.getElem?_append_right (by simp)] at hu
      simp only[List.size_toArray,List.length_cons,List.length_nil] at hu
      exact p5 j x u hx (by rw[<- hvs];simpa using hu)
    ·rintro e w' ⟨v,rfl,M',G',r,os2,h1,h2,h3,h4⟩
     exact⟨v,rfl,M',_,_,_,h1,p2.trans h2,h3,h4⟩
   ·exact h.elim
  ·exact h.elim
 ·exact h.elim
theorem ok_calld(he:Env M G os w)(ht:Tmps M G os ρ a){o:Oper}{f:Operand}{f':Opd}{args':List Opd}{c:Call}(ho:o.op=.call c)(hb:c.callee=.value f)(hf:cO f=some f')(hargs:c.args.toList.mapM cO=some args')
  (h:opI P ρ os K (.calld f' args')):OpOK P M G os w K (execOp a.eval o):=by
 have e1:=cO_ev ht hf
 obtain⟨l1,e2⟩:=args_ok ht hargs
 simp only[opI] at h
 split at h
 ·rename_i g hev
  rw[hev] at e1
  have hfv:=va_fn e1
  have hvs:(c.args.map a.eval).toList=c.args.toList.map a.eval:=by simp
  have key:(execOp a.eval o).run P w=(callFunc g (c.args.map a.eval)).run P w:=by
   simp only[execOp,ho,resolve,hb,hfv,Deferred.ofValue,Sem.run_bind,Sem.run_pure,Result.andThen_ok,invoke,Array.empty_append,Array.append_empty]
  rcases h with h|h
  rotate_left
  ·split at h
   ·rename_i as os1 hp
    obtain⟨hos,r0,h,hk⟩:=h
    have hpv:=prep_vg hp
    obtain⟨M1,p1,p2,p3,p4,p5⟩:=prepGs_ok _ he hp (vs:=c.args.toList.map a.eval) (by simp[l1]) (λj c u hc hu=>va_vg (e2 j c u hc hu) (hpv c (List.mem_of_getElem? hc)).1 (hpv c (List.mem_of_getElem? hc)).2)
    rw[hos] at p1 p2 p5
    unfold OpOK
    rw[key,run_enter h.1]
    refine⟨rfl,(h.2 M1 G w _ p1 (by simp[p3,l1]) λj x u hx hu=>p5 j x u hx (by rw[<- hvs];simpa using hu)).mono ?_⟩
    rintro e w' ⟨v,rfl,M',G',r,os2,h1,h2,h3,h4,h5⟩
    subst h4
    rw[h5] at h1 h2 h3
    exact⟨v,rfl,M',G',_,os,h1,p2.trans h2,h3,hk⟩
   ·exact h.elim
  split at h
  ·rename_i as os1 hp
   obtain⟨hos,r0,h,hk⟩:=h
   have hpv:=frz_vg hp
   obtain⟨M1,p1,p2,p3,p4,p5⟩:=frzGs_ok _ he hp (vs:=c.args.toList.map a.eval) (by simp[l1]) (λj c u hc hu=>va_vg (e2 j c u hc hu) (hpv c (List.mem_of_getElem? hc)).1 (hpv c (List.mem_of_getElem? hc)).2)
   rw[hos] at p1 p2 p5
   unfold OpOK
   rw[key,run_enter h.1]
   refine⟨rfl,(h.2 M1 G w (c.args.map a.eval) p1.none (by simp[p3,l1]) λj x u hx hu=>(p5 j x u hx (by rw[<- hvs];simpa using hu)).of_isD (p4 x (List.mem_of_getElem? hx))).mono ?_⟩
   rintro e w' ⟨v,rfl,M',G',r,os2,h1,h2,h3,h4,h5⟩
   subst h4
   subst h5
   obtain⟨q1,q2⟩:=env_join p1 h1 h2
   have q3:=VA.shift (G:=G) (os:=os) h3
   rw[shA_nil h3] at q3
   simp only[List.map_nil,List.append_nil] at q1 q2 q3
   exact⟨v,rfl,M',_,_,os,q1,p2.trans q2,q3,hk⟩
  ·exact h.elim
 ·rename_i g id hev
  rw[hev] at e1
  obtain⟨hfv,cs,hcs⟩:=(show a.eval f=.func (.func g) #[.pointer (some ⟨G.blk id,0,none⟩)] #[]/\∃cs,os[id]?=some (.cells cs) from e1)
  have hvs:(c.args.map a.eval).toList=c.args.toList.map a.eval:=by simp
  have key:(execOp a.eval o).run P w=(callFunc g (#[Value.pointer (some ⟨G.blk id,0,none⟩)]++c.args.map a.eval)).run P w:=by
   simp only[execOp,ho,resolve,hb,hfv,Deferred.ofValue,Sem.run_bind,Sem.run_pure,Result.andThen_ok,invoke,Array.append_empty]
  split at h
  ·rename_i as os1 hp
   obtain⟨hos,r0,h,hk⟩:=h
   have hpv:=prep_vg hp
   obtain⟨M1,p1,p2,p3,p4,p5⟩:=prepGs_ok _ he hp (vs:=c.args.toList.map a.eval) (by simp[l1]) (λj c u hc hu=>va_vg (e2 j c u hc hu) (hpv c (List.mem_of_getElem? hc)).1 (hpv c (List.mem_of_getElem? hc)).2)
   rw[hos] at p1 p2 p5
   unfold OpOK
   rw[key,run_enter h.1]
   refine⟨rfl,(h.2 M1 G w _ p1 (by simp[p3,l1];omega) λj x u hx hu=>?_).mono ?_⟩
   ·cases j with
    |zero=>
     cases hx
     rw[Array.getElem?_append_left (Nat.zero_lt_one)] at hu
     simp only[List.getElem?_toArray,List.getElem?_cons_zero,Option.some.injEq] at hu
     subst hu
     exact⟨rfl,(p2.keep id _ hcs).2⟩
    |succ j=>
     rw[List.getElem?_cons_succ] at hx
     rw[Array.getElem?_append_right (by simp)] at hu
     simp only[List.size_toArray,List.length_cons,List.length_nil] at hu
     exact p5 j x u hx (by rw[<- hvs];simpa using hu)
   ·rintro e w' ⟨v,rfl,M',G',r,os2,h1,h2,h3,h4,h5⟩
    subst h4
    rw[h5] at h1 h2 h3
    exact⟨v,rfl,M',G',_,os,h1,p2.trans h2,h3,hk⟩
  ·exact h.elim
 ·exact h.elim
end
end Go.Bi
