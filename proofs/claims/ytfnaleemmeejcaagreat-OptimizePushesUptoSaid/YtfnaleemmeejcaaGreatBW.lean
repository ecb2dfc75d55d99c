/- Loops whose objects change places. No condition. -/
import Derived.KernelRfl
import Derived.Test.YtfnaleemmeejcaaGreatBV
set_option linter.unusedVariables false
namespace Go.Bi
set_option linter.unusedSectionVars false
variable [N0]
theorem VA.unren{M:D4}{G Gb:Gh}{f:Nat->Nat}{bs os:List AO}(hb:∀i,i<bs.length->∃o,bs[i]?=some o/\os[f i]?=some (mO f o)/\Gb.blk i=G.blk (f i)/\Gb.cap i=G.cap (f i)){c:AV}(hc:c.bnd bs.length){u:Value}(h:VA M G os (mA f c) u):VA M Gb bs c u:=by
 cases c with
 |tup cs=>
  obtain⟨vs,rfl,h1,h2⟩:=h
  exact⟨vs,rfl,by simpa using h1,λj c u hj hu=>(h2 j (mG f c) u (by rw[J1,hj];rfl) hu).unren hb (hc c (C3 hj))⟩
 |agg cs=>exact VG.unren (M:=M) (c:=.agg cs) hb hc h
 |d x=>exact VG.unren (M:=M) (c:=.d x) hb hc h
 |ptr id off=>exact VG.unren (M:=M) (c:=.ptr id off) hb hc h
 |aptr id len i off=>exact VG.unren (M:=M) (c:=.aptr id len i off) hb hc h
 |dptr es i off=>exact VG.unren (M:=M) (c:=.dptr es i off) hb hc h
 |arr id len=>exact VG.unren (M:=M) (c:=.arr id len) hb hc h
 |clo f' caps=>exact VG.unren (M:=M) (c:=.clo f' caps) hb hc h
 |bcl f id=>exact VG.unren (M:=M) (c:=.bcl f id) hb hc h
 |iter id=>exact VG.unren (M:=M) (c:=.iter id) hb hc h
 |mp id=>exact VG.unren (M:=M) (c:=.mp id) hb hc h
 |mit id=>exact VG.unren (M:=M) (c:=.mit id) hb hc h
 |rs id len=>exact VG.unren (M:=M) (c:=.rs id len) hb hc h
 |rp id len i off=>exact VG.unren (M:=M) (c:=.rp id len i off) hb hc h
 |junk=>trivial
structure Hid(p:Prop):Prop where
 un:p
theorem st{G G':Prop}(r:G')(h:Hid G'->G:=by
 intro r
 first
  |((((with_reducible apply A4);(conv=>whnf)));exact r.un)
  |((((with_reducible apply B2i);(with_reducible apply A4);(with_reducible apply I5);(· first|with_reducible assumption|assumption)));exact r.un)
  |((with_reducible apply D6Y);exact r.un)
  |((with_reducible apply D77);exact r.un)
  |((with_reducible apply k_n);exact r.un)
  |((((with_reducible apply D73);(· first|assumption|omega)));exact r.un)
  |((((with_reducible apply D72);(· first|assumption|omega)));exact r.un)
  |((with_reducible apply k_a);exact r.un)
  |((with_reducible apply k_o);exact r.un)
  |((((with_reducible apply D6X);(· assumption)));exact r.un)
  |((((with_reducible apply D6W);(· assumption)));exact r.un)
  |((((with_reducible apply D75);(· assumption)));exact r.un)
  |((((with_reducible apply D76);(· assumption);(· first|assumption|omega|(simp only[H9,l9,D8];omega))));exact r.un)
  |((((with_reducible apply D7g);(· assumption);(· first|assumption|omega)));exact r.un)
  |((((with_reducible apply C2g);(· first|assumption|omega|(simp only[H9,l9,D8];omega)|(simp;done))));exact r.un)
  |((((with_reducible apply D79);(· assumption);(· assumption)));exact r.un)
  |((((with_reducible apply D7b);(· assumption);(· assumption)));exact r.un)
  |((((with_reducible apply D74);(· assumption)));exact r.un)
  |((with_reducible apply D7a);exact r.un)
  |((((with_reducible apply D7h);(· omega);(· omega)));exact r.un)
  |((with_reducible apply D7i);exact r.un)
  |((((with_reducible apply D6Z);(· first|omega|assumption|exact rfl|(simp only[H9,l9];omega)|exact E07 _|(intro e he;obtain⟨x,_,rfl⟩:=D7.1 he;exact rfl)|(intro e he;cases M7.1 he;rfl)|(simp;done))));exact r.un)
  |((((with_reducible apply D7f);(· first|assumption|exact B38|exact u4|exact D9w|exact D9v (by assumption))));exact r.un)
  |((((with_reducible apply I9);(· first|with_reducible assumption|assumption)));exact r.un)
  |((((with_reducible apply I5);(· first|with_reducible assumption|assumption)));exact r.un)
  |((((with_reducible apply D7e);(· assumption)));exact r.un)
  |((((with_reducible apply D70);(· exact rfl);(· assumption)));exact r.un)
  |with_reducible exact k_d (And.left r.un) (And.right r.un)
  |with_reducible exact k_b (And.left r.un) (And.right r.un)
):G:=h ⟨r⟩
structure CI(P:Program)(fn:Func)(n:Nat) where
 ic:IC
 h:fn.body.bind (cC P n)=some ic
def C5{P:Program}{fn:Func}{n:Nat}(ic:IC)(h:fn.body.bind (cC P n)=some ic:=by
 conv=>lhs;reduce;(try simp only[Int.reduceOfNat,Int.reduceNegSucc])):CI P fn n:=⟨ic,h⟩
theorem CI.fn{P:Program}{fn:Func}{n:Nat}(c:CI P fn n){f:FuncId}{rs:List RV}(h1:P.funcs[f]?=some fn)(h2:fn.ntmps=n:=by kernel_rfl) (h3:(fn.name == "runtime.NumGoroutine")=false:=by kernel_rfl) (h4:fn.results.toList.mapM (cRV P)=some rs:=by kernel_rfl):B8 P f n c.ic rs:=
 ⟨fn,h1,h2,h3,c.h,h4⟩
abbrev Q0(n:Nat)(k:IK):D0:=⟨some n,none,k⟩
abbrev Qm(n m:Nat):D0:=⟨some n,none,.mv (.t m)⟩
abbrev Ql(n m:Nat):D0:=⟨some n,none,.load false 1 (.t m)⟩
abbrev Qf(n a m:Nat):D0:=⟨some n,none,.faddr a (.t m)⟩
abbrev Qn(k:IK):D0:=⟨none,none,k⟩
abbrev Qg(n t:Nat)(b:Bool)(k:IK):D0:=⟨some n,some (t,b),k⟩
abbrev Qi(n:Nat)(o:BinOp)(m:Nat)(k:Int):D0:=⟨some n,none,.bin o (.t m) (.c (.int .i64 k))⟩
abbrev Qb(n:Nat)(o:BinOp)(a b:Nat):D0:=⟨some n,none,.bin o (.t a) (.t b)⟩
abbrev Qk(n:Nat)(k:Int):D0:=⟨some n,none,.mv (.c (.int .i64 k))⟩
@[reducible] def N0.none : N0 := ⟨fun _ => False, fun _ _ => True⟩
end Go.Bi
