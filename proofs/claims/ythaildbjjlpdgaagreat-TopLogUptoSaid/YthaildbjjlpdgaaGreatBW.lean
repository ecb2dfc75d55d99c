/- Loops whose objects change places. No condition. -/
import Derived.KernelRfl
import Derived.Test.YthaildbjjlpdgaaGreatBV
set_option linter.unusedVariables false
namespace Go.Bi
set_option linter.unusedSectionVars false
variable [Globs]
theorem VA.unren{M:Mem}{G Gb:Gh}{f:Nat->Nat}{bs os:List AO}(hb:∀i,i<bs.length->∃o,bs[i]?=some o/\os[f i]?=some (mO f o)/\Gb.blk i=G.blk (f i)/\Gb.cap i=G.cap (f i)){c:AV}(hc:c.bnd bs.length){u:Value}(h:VA M G os (mA f c) u):VA M Gb bs c u:=by
 cases c with
 |tup cs=>
  obtain⟨vs,rfl,h1,h2⟩:=h
  exact⟨vs,rfl,by simpa using h1,λj c u hj hu=>(h2 j (mG f c) u (by rw[List.getElem?_map,hj];rfl) hu).unren hb (hc c (List.mem_of_getElem? hj))⟩
 |agg cs=>exact VG.unren (M:=M) (c:=.agg cs) hb hc h
 |d x=>exact VG.unren (M:=M) (c:=.d x) hb hc h
 |ptr id off=>exact VG.unren (M:=M) (c:=.ptr id off) hb hc h
 |aptr id len i off=>exact VG.unren (M:=M) (c:=.aptr id len i off) hb hc h
 |dptr es i off=>exact VG.unren (M:=M) (c:=.dptr es i off) hb hc h
 |arr id len=>exact VG.unren (M:=M) (c:=.arr id len) hb hc h
 |clo f' caps=>exact VG.unren (M:=M) (c:=.clo f' caps) hb hc h
 |bcl f id=>exact VG.unren (M:=M) (c:=.bcl f id) hb hc h
 |iter id=>exact VG.unren (M:=M) (c:=.iter id) hb hc h
 |mp id=>exact VG.unren (M:=M) (c:=.mp id) hb hc h
 |mit id=>exact VG.unren (M:=M) (c:=.mit id) hb hc h
 |rs id len=>exact VG.unren (M:=M) (c:=.rs id len) hb hc h
 |rp id len i off=>exact VG.unren (M:=M) (c:=.rp id len i off) hb hc h
 |full es=>exact VG.unren (M:=M) (c:=.full es) hb hc h
 |sub id tot lo n=>exact VG.unren (M:=M) (c:=.sub id tot lo n) hb hc h
 |junk=>trivial
def sg(σ:List Nat)(i:Nat):Nat:=σ.getD i 0
theorem env_ren{M:Mem}{G:Gh}{os bs:List AO}{w:World}{σ:List Nat}(he:Env M G os w)(hn:σ.Nodup)(hl:σ.length=bs.length)(hb:∀(i:Nat) o,bs[i]?=some o->os[sg σ i]?=some (mO (sg σ) o))(hbo:∀o∈bs,o.bnd bs.length) :
  Env M ⟨λi=>G.blk (sg σ i),λi=>G.cap (sg σ i)⟩ bs w:=by
 let Gb:Gh:=⟨λi=>G.blk (sg σ i),λi=>G.cap (sg σ i)⟩
 have hold:∀i,i<bs.length->∃o,bs[i]?=some o/\os[sg σ i]?=some (mO (sg σ) o)/\Gb.blk i=G.blk (sg σ i)/\Gb.cap i=G.cap (sg σ i):=λi hi=>
  ⟨bs[i],List.getElem?_eq_getElem hi,hb i _ (List.getElem?_eq_getElem hi),rfl,rfl⟩
 have hlive:∀i,Live bs i->i<bs.length/\Live os (sg σ i):=by
  rintro i ⟨o,ho,hlv⟩
  exact⟨(List.getElem?_eq_some_iff.1 ho).1,mO (sg σ) o,hb i o ho,by rw[mO_live];exact hlv⟩
 refine⟨he.mem,λi o ho=>?_,λi j hi hj e=>?_,λi a v hi ha hab=>?_,λb hb=>⟨(he.glb b hb).1,λi hi=>(he.glb b hb).2 (sg σ i) (hlive i hi).2⟩⟩
 ·have h1:=he.obj (sg σ i) (mO (sg σ) o) (hb i o ho)
  have hbo':=hbo o (List.mem_of_getElem? ho)
  cases o with
  |cells cs=>
   obtain⟨ca,t,h2,h3,h4⟩:=h1
   exact⟨ca,t,h2,by simpa using h3,λj c u hc hu=>(h4 j (mC (sg σ) c) u (by rw[List.getElem?_map,hc];rfl) hu).unren hold (hbo' c (List.mem_of_getElem? hc))⟩
  |arr es sz frz nl=>exact h1
  |rarr es sz nl=>
   obtain⟨h3,h4,h5,h6⟩:=h1
   refine⟨h3,λe he=>?_,λhn=>?_,λhn=>?_⟩
   ·have:=h4 _ (List.mem_map.2 ⟨e,he,rfl⟩)
    rwa [List.length_map] at this
   ·exact List.map_eq_nil_iff.1 (h5 hn)
   ·obtain⟨ca,t,k1,k2,k3,k4,k5⟩:=h6 hn
    refine⟨ca,t,k1,k2,by rw[List.length_map] at k3;exact k3,k4,λi' j e c he hc=>?_⟩
    obtain⟨u,hu,hv⟩:=k5 i' j (e.map (mC (sg σ))) (mC (sg σ) c) (by rw[List.getElem?_map,he];rfl) (by rw[List.getElem?_map,hc];rfl)
    exact⟨u,hu,hv.unren hold (hbo' e (List.mem_of_getElem? he) c (List.mem_of_getElem? hc))⟩
  |iter s p=>exact h1
  |hole=>trivial
  |map kvs=>
   obtain⟨es,clock,h2,h3,h4⟩:=h1
   refine⟨es,clock,h2,by simpa using h3,λj p e hp he=>?_⟩
   obtain⟨a2,a3⟩:=h4 j (p.1,mG (sg σ) p.2) e (by rw[List.getElem?_map,hp];rfl) he
   exact⟨a2,a3.unren hold (hbo' p (List.mem_of_getElem? hp))⟩
  |mit m n s=>
   obtain⟨h2,kvs,h3⟩:=h1
   obtain⟨o,k0,k1,k2,k3⟩:=hold m hbo'
   rw[k1] at h3
   cases o with
   |map kvs'=>exact⟨h2,kvs',k0⟩
   |_=>cases h3
 ·obtain⟨hi1,hi2⟩:=hlive i hi
  obtain⟨hj1,hj2⟩:=hlive j hj
  have e1:=he.inj _ _ hi2 hj2 e
  simp only[sg] at e1
  rw[List.getD_eq_getElem?_getD,List.getD_eq_getElem?_getD,List.getElem?_eq_getElem (by omega:i<σ.length),List.getElem?_eq_getElem (by omega:j<σ.length)] at e1
  exact(List.getElem_inj hn).1 e1
 ·obtain⟨hi1,hi2⟩:=hlive i hi
  obtain⟨es,sz,frz,nl,h1,h2⟩:=he.sep _ a v hi2 ha hab
  obtain⟨o,k0,k1,_⟩:=hold i hi1
  rw[k1] at h1
  cases o with
  |arr es' sz' frz' nl'=>cases h1;exact⟨es,sz,frz,nl,k0,h2⟩
  |_=>cases h1
theorem weak_ren{n nb:Nat}{ρ ρ2:Rho}{os bs:List AO}{σ:List Nat}(hn:σ.Nodup)(hl:σ.length=bs.length)(hb:∀(i:Nat) o,bs[i]?=some o->os[sg σ i]?=some (mO (sg σ) o))(hbo:∀o∈bs,o.bnd bs.length)
  (hσ:∀i,i<nb->σ[i]?=some i) (hid:∀i o,i<nb->bs[i]?=some o->mO (sg σ) o=o) (hρ:∀t,ρ2 t=.junk\/(ρ t=mA (sg σ) (ρ2 t)/\(ρ2 t).bnd bs.length)):Weak n nb ρ os ρ2 bs:=by
 intro c M G w a hR
 refine⟨M,⟨λi=>G.blk (sg σ i),λi=>G.cap (sg σ i)⟩,?_⟩
 have hsg:∀i,i<nb->sg σ i=i:=λi hi=>by simp only[sg];rw[List.getD_eq_getElem?_getD,hσ i hi];rfl
 have hold:∀i,i<bs.length->∃o,bs[i]?=some o/\os[sg σ i]?=some (mO (sg σ) o)/\(Gh.mk (λi=>G.blk (sg σ i)) (λi=>G.cap (sg σ i))).blk i=G.blk (sg σ i)/\(Gh.mk (λi=>G.blk (sg σ i)) (λi=>G.cap (sg σ i))).cap i=G.cap (sg σ i):=λi hi=>
  ⟨bs[i],List.getElem?_eq_getElem hi,hb i _ (List.getElem?_eq_getElem hi),rfl,rfl⟩
 have hs:=hR.since
 refine {env:=env_ren hR.env hn hl hb hbo,since:=⟨hs.sys,hs.tape,hs.output,hs.size,hs.frame,hs.grow,hs.fresh,λi hi=>?_,λi o ho=>?_⟩,size:=hR.size,defers:=hR.defers,base:=hR.base,tmps:=λt=>?_}
 ·obtain⟨o,ho,hlv⟩:=hi
  exact hs.own (sg σ i) ⟨_,hb i o ho,by rw[mO_live];exact hlv⟩
 ·have hlt:i<nb:=by rw[<- hR.base];exact(List.getElem?_eq_some_iff.1 ho).1
  have hk:=hs.keep i o ho
  have hib:i<bs.length:=by
   have:=(List.getElem?_eq_some_iff.1 (hσ i hlt)).1
   omega
  obtain⟨o',k0,k1,_⟩:=hold i hib
  rw[hid i o' hlt k0,hsg i hlt] at k1
  cases o with
  |cells cs=>
   obtain⟨e,cs',h1⟩:=hk
   rw[k1] at h1
   cases h1
   exact⟨by show G.blk (sg σ i)=_;rw[hsg i hlt];exact e,cs',k0⟩
  |iter s p=>
   obtain⟨e,s',p',h1⟩:=hk
   rw[k1] at h1
   cases h1
   exact⟨by show G.blk (sg σ i)=_;rw[hsg i hlt];exact e,s',p',k0⟩
  |hole=>exact⟨_,k0⟩
  |map kvs=>
   obtain⟨e,kvs',h1⟩:=hk
   rw[k1] at h1
   cases h1
   exact⟨by show G.blk (sg σ i)=_;rw[hsg i hlt];exact e,kvs',k0⟩
  |mit m n' s=>
   obtain⟨e,m',n',s',h1⟩:=hk
   rw[k1] at h1
   cases h1
   exact⟨by show G.blk (sg σ i)=_;rw[hsg i hlt];exact e,m',n',s',k0⟩
  |arr es sz frz nl=>
   obtain⟨es',frz',nl',h1,h2,h3⟩:=hk
   rw[k1] at h1
   cases h1
   refine⟨es',frz',nl',k0,h2,λe=>?_⟩
   show G.blk (sg σ i)=_/\G.cap (sg σ i)=_/\_
   rw[hsg i hlt];exact h3 e
  |rarr es sz nl=>
   obtain⟨es',nl',h1,h2,h3⟩:=hk
   rw[k1] at h1
   cases h1
   refine⟨es',nl',k0,h2,λe=>?_⟩
   show G.blk (sg σ i)=_/\G.cap (sg σ i)=_/\_
   rw[hsg i hlt];exact h3 e
 ·rcases hρ t with h|⟨h,hbd⟩
  ·rw[h];trivial
  ·have:=hR.tmps t
   rw[h] at this
   exact this.unren hold hbd
theorem ofL_zipm{L:Sl}{f:Nat->Nat}:∀{ts:List Nat} {vs:List AV} (s:Nat),valsOf L ts=vs.map (mA f)->ofL (zipS ts vs) s=.junk\/(ofL L s=mA f (ofL (zipS ts vs) s)/\ofL (zipS ts vs) s∈vs)
 |[],vs,s,h=>.inl rfl
 |t::ts,[],s,h=>by cases h
 |t::ts,v::vs,s,h=>by
  injection h with h1 h2
  simp only[zipS,ofL]
  cases hb:Nat.beq s t with
  |true=>
   have:=Nat.eq_of_beq_eq_true hb
   subst this
   exact .inr ⟨h1,by simp⟩
  |false=>
   rcases ofL_zipm (vs:=vs) s h2 with h|⟨h3,h4⟩
   ·exact .inl h
   ·exact .inr ⟨h3,by simp[h4]⟩
theorem weak_selm{n nb:Nat}{L:Sl}{os:List AO}{ts ks:List Nat}{vs ws:List AV}{os2:List AO}(σ:List Nat)(h1:valsOf L ts=vs.map (mA (sg σ)))(h2:valsOf L ks=ws.map (mA (sg σ)))(hlv:vs.length=ts.length)(hn:σ.Nodup)
  (hσ:σ.take nb=List.range nb) (ho:σ.map (λs=>os[s]?)=os2.map (λo=>some (mO (sg σ) o))) (hid:(os2.take nb).map (mO (sg σ))=os2.take nb)
  (hb:vs.all (λv=>v.bndB os2.length)=true) (hb2:ws.all (λv=>v.bndB os2.length)=true) (hb3:os2.all (λo=>o.bndB os2.length)=true):Weak n nb (ofL L) os (ofL (zipS ts vs++zipS ks ws)) os2:=by
 have e:zipS ts vs++zipS ks ws=zipS (ts++ks) (vs++ws):=(zipS_app hlv).symm
 rw[e]
 have hv:valsOf L (ts++ks)=(vs++ws).map (mA (sg σ)):=by rw[valsOf_app,h1,h2,List.map_append]
 have hl:σ.length=os2.length:=by have:=congrArg List.length ho;simpa using this
 refine weak_ren hn hl (λi o hi=>?_) (λo ho=>bndo_of (List.all_eq_true.1 hb3 o ho)) (λi hi=>?_) (λi o hi hio=>?_) (λt=>?_)
 ·have h3:(σ.map (λs=>os[s]?))[i]?=some (some (mO (sg σ) o)):=by rw[ho,List.getElem?_map,hi];rfl
  rw[List.getElem?_map] at h3
  obtain⟨s,hs,hos⟩:=Option.map_eq_some_iff.1 h3
  simp only[sg]
  rw[List.getD_eq_getElem?_getD,hs]
  exact hos
 ·have:(σ.take nb)[i]?=some i:=by rw[hσ];simp[hi]
  rwa [List.getElem?_take,if_pos hi] at this
 ·have h3:((os2.take nb).map (mO (sg σ)))[i]?=(os2.take nb)[i]?:=by rw[hid]
  rw[List.getElem?_map,List.getElem?_take,if_pos hi,hio] at h3
  simpa using h3
 ·rcases ofL_zipm t hv with h|⟨h3,h4⟩
  ·exact .inl h
  ·refine .inr ⟨h3,bnd_of ?_⟩
   rcases List.mem_append.1 h4 with h|h
   ·exact List.all_eq_true.1 hb _ h
   ·exact List.all_eq_true.1 hb2 _ h
theorem x_loopR1{A:Type}{P:Program}{n nb:Nat}{cd:IC}{N:Sl->List AO->Prop}{E0:Nat->Sl->List AO->Prop}{R:Sl->List AO->Prop}{L:Sl}{os:List AO}(hm:P.follows .mixedOrders=true)(ts ks:List Nat)(vs:A->List AV)(So:A->List AO)(m:Nat)(φ:A->Prop)(μ:A->Nat)(a0:A)
  (hnb:Nat.ble nb m=true) (hv:vs a0=valsOf L ts) (ho:os.take m=So a0) (hlen:∀a,(vs a).length=ts.length/\(So a).length=m) (hb:∀a,φ a->(vs a).all (λv=>v.bndB m)=true/\(So a).all (λo=>o.bndB m)=true) (hb2:(valsOf L ks).all (λv=>v.bndB m)=true) (h0:φ a0)
  (step:Go (selK L ks λws=>∀a,φ a->Go (zipSK ts (vs a) (zipS ks ws) λL3=>xI P n nb cd (λL' os'=>selK L' ts λvs'=>selK L' ks λws'=>∃(σ:List Nat),∃a',vs'=(vs a').map (mA (sg σ))/\ws'=ws.map (mA (sg σ))/\σ.map (λs=>os'[s]?)=(So a').map (λo=>some (mO (sg σ) o))/\σ.Nodup/\σ.take nb=List.range nb/\((So a').take nb).map (mO (sg σ))=(So a').take nb/\μ a'<μ a/\φ a') E0 R L3 (So a)))):LoopX P n nb cd N E0 R L os:=by
 have step:=selK_eq.1 step
 refine⟨?_⟩
 refine loop_rule hm (λx:A=>ofL (zipS ts (vs x)++zipS ks (valsOf L ks))) (λx=>So x) (λx=>φ x) (λx=>μ x) a0 h0 ?_ ?_
 ·exact weak_sel hv rfl m (Nat.le_of_ble_eq_true hnb) ho (hb a0 h0).1 hb2 (hb a0 h0).2
 ·intro x hx
  have:=zipSK_eq.1 (step x hx)
  refine xI_ok (K:=⟨λL' os'=>selK L' ts λvs'=>selK L' ks λws'=>∃(σ:List Nat),∃a',vs'=(vs a').map (mA (sg σ))/\ws'=(valsOf L ks).map (mA (sg σ))/\σ.map (λs=>os'[s]?)=(So a').map (λo=>some (mO (sg σ) o))/\σ.Nodup/\σ.take nb=List.range nb/\((So a').take nb).map (mO (sg σ))=(So a').take nb/\μ a'<μ x/\φ a',E0,R⟩) ⟨λL' os' h=>?_,λi L' os' h=>⟨L',rfl,h⟩,λL' os' h=>⟨L',rfl,h⟩⟩ this
  have h:=selK_eq.1 (selK_eq.1 h)
  obtain⟨σ,a',h1,h2,h3,h4,h5,h6,h7,h8⟩:=h
  have hl:=hlen a'
  exact⟨a',h8,h7,weak_selm σ h1 h2 hl.1 h4 h5 h3 h6 (by rw[hl.2];exact(hb a' h8).1) (by rw[hl.2];exact hb2) (by rw[hl.2];exact(hb a' h8).2)⟩
structure Hid(p:Prop):Prop where
 un:p
theorem st{G G':Prop}(r:G')(h:Hid G'->G:=by
 intro r
 first
  |((((with_reducible apply go_i);(conv=>whnf)));exact r.un)
  |((((with_reducible apply k_cal);(with_reducible apply go_i);(with_reducible apply k_pc);(· first|with_reducible assumption|assumption)));exact r.un)
  |((with_reducible apply k_caf);exact r.un)
  |((with_reducible apply k_lk1);exact r.un)
  |((with_reducible apply k_n);exact r.un)
  |((((with_reducible apply k_dt);(· first|assumption|omega)));exact r.un)
  |((((with_reducible apply k_df);(· first|assumption|omega)));exact r.un)
  |((with_reducible apply k_a);exact r.un)
  |((with_reducible apply k_o);exact r.un)
  |((((with_reducible apply k_bt);(· assumption)));exact r.un)
  |((((with_reducible apply k_bf);(· assumption)));exact r.un)
  |((((with_reducible apply k_gc);(· assumption)));exact r.un)
  |((((with_reducible apply k_gcs);(· assumption);(· first|assumption|omega|(simp only[List.length_cons,List.length_nil,List.length_map];omega))));exact r.un)
  |((((with_reducible apply k_ste);(· assumption);(· first|assumption|omega)));exact r.un)
  |((((with_reducible apply k_stc);(· first|assumption|omega|(simp only[List.length_cons,List.length_nil,List.length_map];omega)|(simp;done))));exact r.un)
  |((((with_reducible apply k_mg);(· assumption);(· assumption)));exact r.un)
  |((((with_reducible apply k_mp');(· assumption);(· assumption)));exact r.un)
  |((((with_reducible apply k_fz);(· assumption)));exact r.un)
  |((with_reducible apply k_mp);exact r.un)
  |((((with_reducible apply k_wr);(· omega);(· omega)));exact r.un)
  |((with_reducible apply k_ww);exact r.un)
  |((((with_reducible apply k_chk);(· first|omega|assumption|exact rfl|(simp only[List.length_cons,List.length_nil];omega)|exact wrapu_nn _|(intro e he;obtain⟨x,_,rfl⟩:=List.mem_map.1 he;exact rfl)|(intro e he;cases List.mem_singleton.1 he;rfl)|(simp;done))));exact r.un)
  |((((with_reducible apply k_sl);(· first|assumption|exact sld_nsl|exact sld_sl|exact sld_nil|exact sld_cond (by assumption))));exact r.un)
  |((((with_reducible apply k_pn);(· first|with_reducible assumption|assumption)));exact r.un)
  |((((with_reducible apply k_pc);(· first|with_reducible assumption|assumption)));exact r.un)
  |((((with_reducible apply k_ow);(· assumption)));exact r.un)
  |((((with_reducible apply k_co);(· exact rfl);(· assumption)));exact r.un)
  |with_reducible exact k_d (And.left r.un) (And.right r.un)
  |with_reducible exact k_b (And.left r.un) (And.right r.un)
):G:=h ⟨r⟩
structure CI(P:Program)(fn:Func)(n:Nat) where
 ic:IC
 h:fn.body.bind (cC P n)=some ic
theorem CI.fn{P:Program}{fn:Func}{n:Nat}(c:CI P fn n){f:FuncId}{rs:List RV}(h1:P.funcs[f]?=some fn)(h2:fn.ntmps=n:=by kernel_rfl) (h3:(fn.name == "runtime.NumGoroutine")=false:=by kernel_rfl) (h4:fn.results.toList.mapM (cRV P)=some rs:=by kernel_rfl):IsFn P f n c.ic rs:=
 ⟨fn,h1,h2,h3,c.h,h4⟩
abbrev Q0(n:Nat)(k:IK):IOp:=⟨some n,none,k⟩
abbrev Qm(n m:Nat):IOp:=⟨some n,none,.mv (.t m)⟩
abbrev Ql(n m:Nat):IOp:=⟨some n,none,.load false 1 (.t m)⟩
abbrev Qf(n a m:Nat):IOp:=⟨some n,none,.faddr a (.t m)⟩
abbrev Qn(k:IK):IOp:=⟨none,none,k⟩
abbrev Qs(a b:Nat):IOp:=⟨none,none,.store 1 (.t a) (.t b)⟩
abbrev Qg(n t:Nat)(b:Bool)(k:IK):IOp:=⟨some n,some (t,b),k⟩
abbrev Qi(n:Nat)(o:BinOp)(m:Nat)(k:Int):IOp:=⟨some n,none,.bin o (.t m) (.c (.int .i64 k))⟩
abbrev Qb(n:Nat)(o:BinOp)(a b:Nat):IOp:=⟨some n,none,.bin o (.t a) (.t b)⟩
abbrev Qk(n:Nat)(k:Int):IOp:=⟨some n,none,.mv (.c (.int .i64 k))⟩
@[reducible] def Globs.none : Globs := ⟨fun _ => False, fun _ _ => True⟩
end Go.Bi
