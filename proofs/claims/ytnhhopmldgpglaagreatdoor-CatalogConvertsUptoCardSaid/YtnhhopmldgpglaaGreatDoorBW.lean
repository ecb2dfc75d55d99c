/- Loops whose objects change places. No condition. -/
import Derived.KernelRfl
import Derived.Test.YtnhhopmldgpglaaGreatDoorBV
set_option linter.unusedVariables false
namespace Go.Bi
set_option linter.unusedSectionVars false
variable [J9]
theorem VA.unren{M:C2}{G Gb:Gh}{f:Nat->Nat}{bs os:List AO}(hb:∀i,i<bs.length->∃o,bs[i]?=some o/\os[f i]?=some (mO f o)/\Gb.blk i=G.blk (f i)/\Gb.cap i=G.cap (f i)){c:AV}(hc:c.bnd bs.length){u:Value}(h:VA M G os (mA f c) u):VA M Gb bs c u:=by
 cases c with
 |tup cs=>
  obtain⟨vs,rfl,h1,h2⟩:=h
  exact⟨vs,rfl,by simpa using h1,λj c u hj hu=>(h2 j (mG f c) u (by rw[F8,hj];rfl) hu).unren hb (hc c (B9 hj))⟩
 |agg cs=>exact VG.unren (M:=M) (c:=.agg cs) hb hc h
 |d x=>exact VG.unren (M:=M) (c:=.d x) hb hc h
 |ptr id off=>exact VG.unren (M:=M) (c:=.ptr id off) hb hc h
 |aptr id len i off=>exact VG.unren (M:=M) (c:=.aptr id len i off) hb hc h
 |dptr es i off=>exact VG.unren (M:=M) (c:=.dptr es i off) hb hc h
 |arr id len=>exact VG.unren (M:=M) (c:=.arr id len) hb hc h
 |clo f' caps=>exact VG.unren (M:=M) (c:=.clo f' caps) hb hc h
 |iter id=>exact VG.unren (M:=M) (c:=.iter id) hb hc h
 |mp id=>exact VG.unren (M:=M) (c:=.mp id) hb hc h
 |mit id=>exact VG.unren (M:=M) (c:=.mit id) hb hc h
 |rs id len=>exact VG.unren (M:=M) (c:=.rs id len) hb hc h
 |rp id len i off=>exact VG.unren (M:=M) (c:=.rp id len i off) hb hc h
 |junk=>trivial
def sg(σ:List Nat)(i:Nat):Nat:=σ.getD i 0
theorem D4d{M:C2}{G:Gh}{os bs:List AO}{w:World}{σ:List Nat}(he:C0 M G os w)(hn:σ.Nodup)(hl:σ.length=bs.length)(hb:∀(i:Nat) o,bs[i]?=some o->os[sg σ i]?=some (mO (sg σ) o))(hbo:∀o∈bs,o.bnd bs.length) :
  C0 M ⟨λi=>G.blk (sg σ i),λi=>G.cap (sg σ i)⟩ bs w:=by
 let Gb:Gh:=⟨λi=>G.blk (sg σ i),λi=>G.cap (sg σ i)⟩
 have hold:∀i,i<bs.length->∃o,bs[i]?=some o/\os[sg σ i]?=some (mO (sg σ) o)/\Gb.blk i=G.blk (sg σ i)/\Gb.cap i=G.cap (sg σ i):=λi hi=>
  ⟨bs[i],C3 hi,hb i _ (C3 hi),rfl,rfl⟩
 have hlive:∀i,E3 bs i->i<bs.length/\E3 os (sg σ i):=by
  rintro i ⟨o,ho,hlv⟩
  exact⟨(A7.1 ho).1,mO (sg σ) o,hb i o ho,by rw[A6w];exact hlv⟩
 refine⟨he.mem,λi o ho=>?_,λi j hi hj e=>?_,λi a v hi ha hab=>?_,λb hb=>⟨(he.glb b hb).1,λi hi=>(he.glb b hb).2 (sg σ i) (hlive i hi).2⟩⟩
 ·have h1:=he.obj (sg σ i) (mO (sg σ) o) (hb i o ho)
  have hbo':=hbo o (B9 ho)
  cases o with
  |cells cs=>
   obtain⟨ca,t,h2,h3,h4⟩:=h1
   exact⟨ca,t,h2,by simpa using h3,λj c u hc hu=>(h4 j (mC (sg σ) c) u (by rw[F8,hc];rfl) hu).unren hold (hbo' c (B9 hc))⟩
  |arr es sz frz nl=>exact h1
  |rarr es sz nl=>
   obtain⟨h3,h4,h5,h6⟩:=h1
   refine⟨h3,λe he=>?_,λhn=>?_,λhn=>?_⟩
   ·have:=h4 _ (D9.2 ⟨e,he,rfl⟩)
    rwa [C6] at this
   ·exact List.map_eq_nil_iff.1 (h5 hn)
   ·obtain⟨ca,t,k1,k2,k3,k4,k5⟩:=h6 hn
    refine⟨ca,t,k1,k2,by rw[C6] at k3;exact k3,k4,λi' j e c he hc=>?_⟩
    obtain⟨u,hu,hv⟩:=k5 i' j (e.map (mC (sg σ))) (mC (sg σ) c) (by rw[F8,he];rfl) (by rw[F8,hc];rfl)
    exact⟨u,hu,hv.unren hold (hbo' e (B9 he) c (B9 hc))⟩
  |iter s p=>exact h1
  |hole=>trivial
  |map kvs=>
   obtain⟨es,h2,h3,h4⟩:=h1
   refine⟨es,h2,by simpa using h3,λj p e hp he=>?_⟩
   obtain⟨a1,a2,a3⟩:=h4 j (p.1,mG (sg σ) p.2) e (by rw[F8,hp];rfl) he
   exact⟨a1,a2,a3.unren hold (hbo' p (B9 hp))⟩
  |mit m n s=>
   obtain⟨h2,kvs,h3⟩:=h1
   obtain⟨o,k0,k1,k2,k3⟩:=hold m hbo'
   rw[k1] at h3
   cases o with
   |map kvs'=>exact⟨h2,kvs',k0⟩
   |_=>cases h3
 ·obtain⟨hi1,hi2⟩:=hlive i hi
  obtain⟨hj1,hj2⟩:=hlive j hj
  have e1:=he.inj _ _ hi2 hj2 e
  simp only[sg] at e1
  rw[E8,E8,C3 (by omega:i<σ.length),C3 (by omega:j<σ.length)] at e1
  exact(List.getElem_inj hn).1 e1
 ·obtain⟨hi1,hi2⟩:=hlive i hi
  obtain⟨es,sz,frz,nl,h1,h2⟩:=he.sep _ a v hi2 ha hab
  obtain⟨o,k0,k1,_⟩:=hold i hi1
  rw[k1] at h1
  cases o with
  |arr es' sz' frz' nl'=>cases h1;exact⟨es,sz,frz,nl,k0,h2⟩
  |_=>cases h1
theorem D85{n nb:Nat}{ρ ρ2:C5}{os bs:List AO}{σ:List Nat}(hn:σ.Nodup)(hl:σ.length=bs.length)(hb:∀(i:Nat) o,bs[i]?=some o->os[sg σ i]?=some (mO (sg σ) o))(hbo:∀o∈bs,o.bnd bs.length)
  (hσ:∀i,i<nb->σ[i]?=some i) (hid:∀i o,i<nb->bs[i]?=some o->mO (sg σ) o=o) (hρ:∀t,ρ2 t=.junk\/(ρ t=mA (sg σ) (ρ2 t)/\(ρ2 t).bnd bs.length)):m4 n nb ρ os ρ2 bs:=by
 intro c M G w a hR
 refine⟨M,⟨λi=>G.blk (sg σ i),λi=>G.cap (sg σ i)⟩,?_⟩
 have hsg:∀i,i<nb->sg σ i=i:=λi hi=>by simp only[sg];rw[E8,hσ i hi];rfl
 have hold:∀i,i<bs.length->∃o,bs[i]?=some o/\os[sg σ i]?=some (mO (sg σ) o)/\(Gh.mk (λi=>G.blk (sg σ i)) (λi=>G.cap (sg σ i))).blk i=G.blk (sg σ i)/\(Gh.mk (λi=>G.blk (sg σ i)) (λi=>G.cap (sg σ i))).cap i=G.cap (sg σ i):=λi hi=>
  ⟨bs[i],C3 hi,hb i _ (C3 hi),rfl,rfl⟩
 have hs:=hR.since
 refine {env:=D4d hR.env hn hl hb hbo,since:=⟨hs.sys,hs.tape,hs.output,hs.size,hs.frame,hs.grow,hs.fresh,λi hi=>?_,λi o ho=>?_⟩,size:=hR.size,defers:=hR.defers,base:=hR.base,tmps:=λt=>?_}
 ·obtain⟨o,ho,hlv⟩:=hi
  exact hs.own (sg σ i) ⟨_,hb i o ho,by rw[A6w];exact hlv⟩
 ·have hlt:i<nb:=by rw[<- hR.base];exact(A7.1 ho).1
  have hk:=hs.keep i o ho
  have hib:i<bs.length:=by
   have:=(A7.1 (hσ i hlt)).1
   omega
  obtain⟨o',k0,k1,_⟩:=hold i hib
  rw[hid i o' hlt k0,hsg i hlt] at k1
  cases o with
  |cells cs=>
   obtain⟨e,cs',h1⟩:=hk
   rw[k1] at h1
   cases h1
   exact⟨by show G.blk (sg σ i)=_;rw[hsg i hlt];exact e,cs',k0⟩
  |iter s p=>
   obtain⟨e,s',p',h1⟩:=hk
   rw[k1] at h1
   cases h1
   exact⟨by show G.blk (sg σ i)=_;rw[hsg i hlt];exact e,s',p',k0⟩
  |hole=>exact⟨_,k0⟩
  |map kvs=>
   obtain⟨e,kvs',h1⟩:=hk
   rw[k1] at h1
   cases h1
   exact⟨by show G.blk (sg σ i)=_;rw[hsg i hlt];exact e,kvs',k0⟩
  |mit m n' s=>
   obtain⟨e,m',n',s',h1⟩:=hk
   rw[k1] at h1
   cases h1
   exact⟨by show G.blk (sg σ i)=_;rw[hsg i hlt];exact e,m',n',s',k0⟩
  |arr es sz frz nl=>
   obtain⟨es',frz',nl',h1,h2,h3⟩:=hk
   rw[k1] at h1
   cases h1
   refine⟨es',frz',nl',k0,h2,λe=>?_⟩
   show G.blk (sg σ i)=_/\G.cap (sg σ i)=_/\_
   rw[hsg i hlt];exact h3 e
  |rarr es sz nl=>
   obtain⟨es',nl',h1,h2,h3⟩:=hk
   rw[k1] at h1
   cases h1
   refine⟨es',nl',k0,h2,λe=>?_⟩
   show G.blk (sg σ i)=_/\G.cap (sg σ i)=_/\_
   rw[hsg i hlt];exact h3 e
 ·rcases hρ t with h|⟨h,hbd⟩
  ·rw[h];trivial
  ·have:=hR.tmps t
   rw[h] at this
   exact this.unren hold hbd
theorem C0U{L:Sl}{f:Nat->Nat}:∀{ts:List Nat}{vs:List AV}(s:Nat),R3 L ts=vs.map (mA f)->D1 (O8 ts vs) s=.junk\/(D1 L s=mA f (D1 (O8 ts vs) s)/\D1 (O8 ts vs) s∈vs)
 |[],vs,s,h=>.inl rfl
 |t::ts,[],s,h=>by cases h
 |t::ts,v::vs,s,h=>by
  injection h with h1 h2
  simp only[O8,D1]
  cases hb:Nat.beq s t with
  |true=>
   have:=R0 hb
   subst this
   exact .inr ⟨h1,by simp⟩
  |false=>
   rcases C0U (vs:=vs) s h2 with h|⟨h3,h4⟩
   ·exact .inl h
   ·exact .inr ⟨h3,by simp[h4]⟩
theorem D86{n nb:Nat}{L:Sl}{os:List AO}{ts ks:List Nat}{vs ws:List AV}{os2:List AO}(σ:List Nat)(h1:R3 L ts=vs.map (mA (sg σ)))(h2:R3 L ks=ws.map (mA (sg σ)))(hlv:vs.length=ts.length)(hn:σ.Nodup)
  (hσ:σ.take nb=List.range nb) (ho:σ.map (λs=>os[s]?)=os2.map (λo=>some (mO (sg σ) o))) (hid:(os2.take nb).map (mO (sg σ))=os2.take nb)
  (hb:vs.all (λv=>v.bndB os2.length)=true) (hb2:ws.all (λv=>v.bndB os2.length)=true) (hb3:os2.all (λo=>o.bndB os2.length)=true):m4 n nb (D1 L) os (D1 (O8 ts vs++O8 ks ws)) os2:=by
 have e:O8 ts vs++O8 ks ws=O8 (ts++ks) (vs++ws):=(B2C hlv).symm
 rw[e]
 have hv:R3 L (ts++ks)=(vs++ws).map (mA (sg σ)):=by rw[B2t,h1,h2,A0s]
 have hl:σ.length=os2.length:=by have:=congrArg List.length ho;simpa using this
 refine D85 hn hl (λi o hi=>?_) (λo ho=>M6 (O3.1 hb3 o ho)) (λi hi=>?_) (λi o hi hio=>?_) (λt=>?_)
 ·have h3:(σ.map (λs=>os[s]?))[i]?=some (some (mO (sg σ) o)):=by rw[ho,F8,hi];rfl
  rw[F8] at h3
  obtain⟨s,hs,hos⟩:=F7.1 h3
  simp only[sg]
  rw[E8,hs]
  exact hos
 ·have:(σ.take nb)[i]?=some i:=by rw[hσ];simp[hi]
  rwa [Z0,if_pos hi] at this
 ·have h3:((os2.take nb).map (mO (sg σ)))[i]?=(os2.take nb)[i]?:=by rw[hid]
  rw[F8,Z0,if_pos hi,hio] at h3
  simpa using h3
 ·rcases C0U t hv with h|⟨h3,h4⟩
  ·exact .inl h
  ·refine .inr ⟨h3,B8x ?_⟩
   rcases P4.1 h4 with h|h
   ·exact O3.1 hb _ h
   ·exact O3.1 hb2 _ h
structure Hid(p:Prop):Prop where
 un:p
theorem st{G G':Prop}(r:G')(h:Hid G'->G:=by
 intro r
 first
  |((((with_reducible apply C4);(conv=>whnf)));exact r.un)
  |((with_reducible apply D54);exact r.un)
  |((with_reducible apply D5c);exact r.un)
  |((with_reducible apply k_n);exact r.un)
  |((((with_reducible apply D58);(· first|assumption|omega)));exact r.un)
  |((((with_reducible apply D57);(· first|assumption|omega)));exact r.un)
  |((with_reducible apply k_a);exact r.un)
  |((with_reducible apply k_o);exact r.un)
  |((((with_reducible apply D53);(· assumption)));exact r.un)
  |((((with_reducible apply D52);(· assumption)));exact r.un)
  |((((with_reducible apply D5a);(· assumption)));exact r.un)
  |((((with_reducible apply D5b);(· assumption);(· first|assumption|omega|(simp only[H7,P9,C6];omega))));exact r.un)
  |((((with_reducible apply D5k);(· assumption);(· first|assumption|omega)));exact r.un)
  |((((with_reducible apply C0e);(· first|assumption|omega|(simp only[H7,P9,C6];omega)|(simp;done))));exact r.un)
  |((((with_reducible apply D5d);(· assumption);(· assumption)));exact r.un)
  |((((with_reducible apply D5f);(· assumption);(· assumption)));exact r.un)
  |((((with_reducible apply D59);(· assumption)));exact r.un)
  |((with_reducible apply D5e);exact r.un)
  |((((with_reducible apply D5l);(· omega);(· omega)));exact r.un)
  |((with_reducible apply D5m);exact r.un)
  |((((with_reducible apply D55);(· first|omega|assumption|exact rfl|(simp only[H7,P9];omega)|exact D88 _|(intro e he;obtain⟨x,_,rfl⟩:=D9.1 he;exact rfl)|(intro e he;cases i7.1 he;rfl)|(simp;done))));exact r.un)
  |((((with_reducible apply D5j);(· first|assumption|exact D7l|exact J7|exact A0i|exact D7k (by assumption))));exact r.un)
  |((((with_reducible apply x9);(· first|with_reducible assumption|assumption)));exact r.un)
  |((((with_reducible apply x8);(· first|with_reducible assumption|assumption)));exact r.un)
  |((((with_reducible apply D5i);(· assumption)));exact r.un)
  |exact k_d (And.left r.un) (And.right r.un)
  |exact k_b (And.left r.un) (And.right r.un)
):G:=h ⟨r⟩
structure CI(P:Program)(fn:Func)(n:Nat) where
 ic:IC
 h:fn.body.bind (cC P n)=some ic
def C1{P:Program}{fn:Func}{n:Nat}(ic:IC)(h:fn.body.bind (cC P n)=some ic:=by
 conv=>lhs;reduce;(try simp only[Int.reduceOfNat,Int.reduceNegSucc])):CI P fn n:=⟨ic,h⟩
theorem CI.fn{P:Program}{fn:Func}{n:Nat}(c:CI P fn n){f:FuncId}{rs:List RV}(h1:P.funcs[f]?=some fn)(h2:fn.ntmps=n:=by kernel_rfl) (h3:(fn.name == "runtime.NumGoroutine")=false:=by kernel_rfl) (h4:fn.results.toList.mapM (cRV P)=some rs:=by kernel_rfl):B2 P f n c.ic rs:=
 ⟨fn,h1,h2,h3,c.h,h4⟩
abbrev Q0(n:Nat)(k:IK):D0:=⟨some n,none,k⟩
abbrev Qm(n m:Nat):D0:=⟨some n,none,.mv (.t m)⟩
abbrev Ql(n m:Nat):D0:=⟨some n,none,.load false 1 (.t m)⟩
abbrev Qf(n a m:Nat):D0:=⟨some n,none,.faddr a (.t m)⟩
abbrev Qn(k:IK):D0:=⟨none,none,k⟩
abbrev Qs(a b:Nat):D0:=⟨none,none,.store 1 (.t a) (.t b)⟩
abbrev Qg(n t:Nat)(b:Bool)(k:IK):D0:=⟨some n,some (t,b),k⟩
abbrev Qi(n:Nat)(o:BinOp)(m:Nat)(k:Int):D0:=⟨some n,none,.bin o (.t m) (.c (.int .i64 k))⟩
abbrev Qb(n:Nat)(o:BinOp)(a b:Nat):D0:=⟨some n,none,.bin o (.t a) (.t b)⟩
abbrev Qk(n:Nat)(k:Int):D0:=⟨some n,none,.mv (.c (.int .i64 k))⟩
@[reducible] def J9.none : J9 := ⟨fun _ => False, fun _ _ => True⟩
@[reducible] def J9.tab (p m : Nat) : J9 := ⟨fun b => b = p ∨ b = m, fun b o => (b = p → ∃ t f, o = .cells (((List.range 20).map fun i => Value.int .u64 ((10 ^ i : Nat) : Int)).toArray) t f) ∧ (b = m → ∃ (n : Int) (t : TypeId) (f : Nat × Nat), o = .cells #[.int .i64 n] t f)⟩
end Go.Bi
