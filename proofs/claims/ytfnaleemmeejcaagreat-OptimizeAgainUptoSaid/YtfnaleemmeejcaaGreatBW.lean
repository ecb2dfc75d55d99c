/- Loops whose objects change places. No condition. -/
import Derived.KernelRfl
import Derived.Test.YtfnaleemmeejcaaGreatBV
set_option linter.unusedVariables false
namespace Go.Bi
set_option linter.unusedSectionVars false
variable [M6]
theorem VA.unren{M:D6}{G Gb:Gh}{f:Nat->Nat}{bs os:List AO}(hb:∀i,i<bs.length->∃o,bs[i]?=some o/\os[f i]?=some (mO f o)/\Gb.blk i=G.blk (f i)/\Gb.cap i=G.cap (f i)){c:AV}(hc:c.bnd bs.length){u:Value}(h:VA M G os (mA f c) u):VA M Gb bs c u:=by
 cases c with
 |tup cs=>
  obtain⟨vs,rfl,h1,h2⟩:=h
  exact⟨vs,rfl,by simpa using h1,λj c u hj hu=>(h2 j (mG f c) u (by rw[I7,hj];rfl) hu).unren hb (hc c (C3 hj))⟩
 |agg cs=>exact VG.unren (M:=M) (c:=.agg cs) hb hc h
 |d x=>exact VG.unren (M:=M) (c:=.d x) hb hc h
 |ptr id off=>exact VG.unren (M:=M) (c:=.ptr id off) hb hc h
 |aptr id len i off=>exact VG.unren (M:=M) (c:=.aptr id len i off) hb hc h
 |dptr es i off=>exact VG.unren (M:=M) (c:=.dptr es i off) hb hc h
 |arr id len=>exact VG.unren (M:=M) (c:=.arr id len) hb hc h
 |clo f' caps=>exact VG.unren (M:=M) (c:=.clo f' caps) hb hc h
 |bcl f id=>exact VG.unren (M:=M) (c:=.bcl f id) hb hc h
 |iter id=>exact VG.unren (M:=M) (c:=.iter id) hb hc h
 |mp id=>exact VG.unren (M:=M) (c:=.mp id) hb hc h
 |mit id=>exact VG.unren (M:=M) (c:=.mit id) hb hc h
 |rs id len=>exact VG.unren (M:=M) (c:=.rs id len) hb hc h
 |rp id len i off=>exact VG.unren (M:=M) (c:=.rp id len i off) hb hc h
 |junk=>trivial
structure Hid(p:Prop):Prop where
 un:p
theorem st{G G':Prop}(r:G')(h:Hid G'->G:=by
 intro r
 first
  |((((with_reducible apply A4);(conv=>whnf)));exact r.un)
  |((((with_reducible apply B2I);(with_reducible apply A4);(with_reducible apply E8);(· first|with_reducible assumption|assumption)));exact r.un)
  |((with_reducible apply D9t);exact r.un)
  |((with_reducible apply D9C);exact r.un)
  |((with_reducible apply k_n);exact r.un)
  |((((with_reducible apply D9y);(· first|assumption|omega)));exact r.un)
  |((((with_reducible apply D9x);(· first|assumption|omega)));exact r.un)
  |((with_reducible apply k_a);exact r.un)
  |((with_reducible apply k_o);exact r.un)
  |((((with_reducible apply D9s);(· assumption)));exact r.un)
  |((((with_reducible apply D9r);(· assumption)));exact r.un)
  |((((with_reducible apply D9A);(· assumption)));exact r.un)
  |((((with_reducible apply D9B);(· assumption);(· first|assumption|omega|(simp only[H7,k9,D3];omega))));exact r.un)
  |((((with_reducible apply D9L);(· assumption);(· first|assumption|omega)));exact r.un)
  |((((with_reducible apply C3z);(· first|assumption|omega|(simp only[H7,k9,D3];omega)|(simp;done))));exact r.un)
  |((((with_reducible apply D9E);(· assumption);(· assumption)));exact r.un)
  |((((with_reducible apply D9G);(· assumption);(· assumption)));exact r.un)
  |((((with_reducible apply D9z);(· assumption)));exact r.un)
  |((with_reducible apply D9F);exact r.un)
  |((((with_reducible apply D9M);(· omega);(· omega)));exact r.un)
  |((with_reducible apply D9N);exact r.un)
  |((((with_reducible apply D9u);(· first|omega|assumption|exact rfl|(simp only[H7,k9];omega)|exact E2G _|(intro e he;obtain⟨x,_,rfl⟩:=D9.1 he;exact rfl)|(intro e he;cases O4.1 he;rfl)|(simp;done))));exact r.un)
  |((((with_reducible apply D9K);(· first|assumption|exact B3y|exact A0y|exact E1Y|exact E1X (by assumption))));exact r.un)
  |((((with_reducible apply E9);(· first|with_reducible assumption|assumption)));exact r.un)
  |((((with_reducible apply E8);(· first|with_reducible assumption|assumption)));exact r.un)
  |((((with_reducible apply D9J);(· assumption)));exact r.un)
  |((((with_reducible apply D9v);(· exact rfl);(· assumption)));exact r.un)
  |with_reducible exact k_d (And.left r.un) (And.right r.un)
  |with_reducible exact k_b (And.left r.un) (And.right r.un)
):G:=h ⟨r⟩
structure CI(P:Program)(fn:Func)(n:Nat) where
 ic:IC
 h:fn.body.bind (cC P n)=some ic
def B8{P:Program}{fn:Func}{n:Nat}(ic:IC)(h:fn.body.bind (cC P n)=some ic:=by
 conv=>lhs;reduce;(try simp only[Int.reduceOfNat,Int.reduceNegSucc])):CI P fn n:=⟨ic,h⟩
theorem CI.fn{P:Program}{fn:Func}{n:Nat}(c:CI P fn n){f:FuncId}{rs:List RV}(h1:P.funcs[f]?=some fn)(h2:fn.ntmps=n:=by kernel_rfl) (h3:(fn.name == "runtime.NumGoroutine")=false:=by kernel_rfl) (h4:fn.results.toList.mapM (cRV P)=some rs:=by kernel_rfl):B5 P f n c.ic rs:=
 ⟨fn,h1,h2,h3,c.h,h4⟩
abbrev Q0(n:Nat)(k:IK):D0:=⟨some n,none,k⟩
abbrev Qm(n m:Nat):D0:=⟨some n,none,.mv (.t m)⟩
abbrev Ql(n m:Nat):D0:=⟨some n,none,.load false 1 (.t m)⟩
abbrev Qf(n a m:Nat):D0:=⟨some n,none,.faddr a (.t m)⟩
abbrev Qn(k:IK):D0:=⟨none,none,k⟩
abbrev Qs(a b:Nat):D0:=⟨none,none,.store 1 (.t a) (.t b)⟩
abbrev Qg(n t:Nat)(b:Bool)(k:IK):D0:=⟨some n,some (t,b),k⟩
abbrev Qi(n:Nat)(o:BinOp)(m:Nat)(k:Int):D0:=⟨some n,none,.bin o (.t m) (.c (.int .i64 k))⟩
abbrev Qb(n:Nat)(o:BinOp)(a b:Nat):D0:=⟨some n,none,.bin o (.t a) (.t b)⟩
abbrev Qk(n:Nat)(k:Int):D0:=⟨some n,none,.mv (.c (.int .i64 k))⟩
@[reducible] def M6.none : M6 := ⟨fun _ => False, fun _ _ => True⟩
end Go.Bi
