/- Loops whose objects change places. No condition. -/
import Derived.KernelRfl
import Derived.Test.YtfnaleemmeejcaaGreatBV
set_option linter.unusedVariables false
namespace Go.Bi
set_option linter.unusedSectionVars false
variable [Globs]
theorem VA.unren{M:Mem}{G Gb:Gh}{f:Nat->Nat}{bs os:List AO}(hb:∀i,i<bs.length->∃o,bs[i]?=some o/\os[f i]?=some (mO f o)/\Gb.blk i=G.blk (f i)/\Gb.cap i=G.cap (f i)){c:AV}(hc:c.bnd bs.length){u:Value}(h:VA M G os (mA f c) u):VA M Gb bs c u:=by
 cases c with
 |tup cs=>
  obtain⟨vs,rfl,h1,h2⟩:=h
  exact⟨vs,rfl,by simpa using h1,λj c u hj hu=>(h2 j (mG f c) u (by rw[List.getElem?_map,hj];rfl) hu).unren hb (hc c (List.mem_of_getElem? hj))⟩
 |agg cs=>exact VG.unren (M:=M) (c:=.agg cs) hb hc h
 |d x=>exact VG.unren (M:=M) (c:=.d x) hb hc h
 |ptr id off=>exact VG.unren (M:=M) (c:=.ptr id off) hb hc h
 |aptr id len i off=>exact VG.unren (M:=M) (c:=.aptr id len i off) hb hc h
 |dptr es i off=>exact VG.unren (M:=M) (c:=.dptr es i off) hb hc h
 |arr id len=>exact VG.unren (M:=M) (c:=.arr id len) hb hc h
 |clo f' caps=>exact VG.unren (M:=M) (c:=.clo f' caps) hb hc h
 |bcl f id=>exact VG.unren (M:=M) (c:=.bcl f id) hb hc h
 |iter id=>exact VG.unren (M:=M) (c:=.iter id) hb hc h
 |mp id=>exact VG.unren (M:=M) (c:=.mp id) hb hc h
 |mit id=>exact VG.unren (M:=M) (c:=.mit id) hb hc h
 |rs id len=>exact VG.unren (M:=M) (c:=.rs id len) hb hc h
 |rp id len i off=>exact VG.unren (M:=M) (c:=.rp id len i off) hb hc h
 |junk=>trivial
structure Hid(p:Prop):Prop where
 un:p
theorem st{G G':Prop}(r:G')(h:Hid G'->G:=by
 intro r
 first
  |((((with_reducible apply go_i);(conv=>whnf)));exact r.un)
  |((((with_reducible apply k_cal);(with_reducible apply go_i);(with_reducible apply k_pc);(· first|with_reducible assumption|assumption)));exact r.un)
  |((with_reducible apply k_caf);exact r.un)
  |((with_reducible apply k_lk1);exact r.un)
  |((with_reducible apply k_n);exact r.un)
  |((((with_reducible apply k_dt);(· first|assumption|omega)));exact r.un)
  |((((with_reducible apply k_df);(· first|assumption|omega)));exact r.un)
  |((with_reducible apply k_a);exact r.un)
  |((with_reducible apply k_o);exact r.un)
  |((((with_reducible apply k_bt);(· assumption)));exact r.un)
  |((((with_reducible apply k_bf);(· assumption)));exact r.un)
  |((((with_reducible apply k_gc);(· assumption)));exact r.un)
  |((((with_reducible apply k_gcs);(· assumption);(· first|assumption|omega|(simp only[List.length_cons,List.length_nil,List.length_map];omega))));exact r.un)
  |((((with_reducible apply k_ste);(· assumption);(· first|assumption|omega)));exact r.un)
  |((((with_reducible apply k_stc);(· first|assumption|omega|(simp only[List.length_cons,List.length_nil,List.length_map];omega)|(simp;done))));exact r.un)
  |((((with_reducible apply k_mg);(· assumption);(· assumption)));exact r.un)
  |((((with_reducible apply k_mp');(· assumption);(· assumption)));exact r.un)
  |((((with_reducible apply k_fz);(· assumption)));exact r.un)
  |((with_reducible apply k_mp);exact r.un)
  |((((with_reducible apply k_wr);(· omega);(· omega)));exact r.un)
  |((with_reducible apply k_ww);exact r.un)
  |((((with_reducible apply k_chk);(· first|omega|assumption|exact rfl|(simp only[List.length_cons,List.length_nil];omega)|exact wrapu_nn _|(intro e he;obtain⟨x,_,rfl⟩:=List.mem_map.1 he;exact rfl)|(intro e he;cases List.mem_singleton.1 he;rfl)|(simp;done))));exact r.un)
  |((((with_reducible apply k_sl);(· first|assumption|exact sld_nsl|exact sld_sl|exact sld_nil|exact sld_cond (by assumption))));exact r.un)
  |((((with_reducible apply k_pn);(· first|with_reducible assumption|assumption)));exact r.un)
  |((((with_reducible apply k_pc);(· first|with_reducible assumption|assumption)));exact r.un)
  |((((with_reducible apply k_ow);(· assumption)));exact r.un)
  |((((with_reducible apply k_co);(· exact rfl);(· assumption)));exact r.un)
  |with_reducible exact k_d (And.left r.un) (And.right r.un)
  |with_reducible exact k_b (And.left r.un) (And.right r.un)
):G:=h ⟨r⟩
structure CI(P:Program)(fn:Func)(n:Nat) where
 ic:IC
 h:fn.body.bind (cC P n)=some ic
def ciOf{P:Program}{fn:Func}{n:Nat}(ic:IC)(h:fn.body.bind (cC P n)=some ic:=by
 conv=>lhs;reduce;(try simp only[Int.reduceOfNat,Int.reduceNegSucc])):CI P fn n:=⟨ic,h⟩
theorem CI.fn{P:Program}{fn:Func}{n:Nat}(c:CI P fn n){f:FuncId}{rs:List RV}(h1:P.funcs[f]?=some fn)(h2:fn.ntmps=n:=by kernel_rfl) (h3:(fn.name == "runtime.NumGoroutine")=false:=by kernel_rfl) (h4:fn.results.toList.mapM (cRV P)=some rs:=by kernel_rfl):IsFn P f n c.ic rs:=
 ⟨fn,h1,h2,h3,c.h,h4⟩
abbrev Q0(n:Nat)(k:IK):IOp:=⟨some n,none,k⟩
abbrev Qm(n m:Nat):IOp:=⟨some n,none,.mv (.t m)⟩
abbrev Ql(n m:Nat):IOp:=⟨some n,none,.load false 1 (.t m)⟩
abbrev Qf(n a m:Nat):IOp:=⟨some n,none,.faddr a (.t m)⟩
abbrev Qn(k:IK):IOp:=⟨none,none,k⟩
abbrev Qs(a b:Nat):IOp:=⟨none,none,.store 1 (.t a) (.t b)⟩
abbrev Qg(n t:Nat)(b:Bool)(k:IK):IOp:=⟨some n,some (t,b),k⟩
abbrev Qi(n:Nat)(o:BinOp)(m:Nat)(k:Int):IOp:=⟨some n,none,.bin o (.t m) (.c (.int .i64 k))⟩
abbrev Qb(n:Nat)(o:BinOp)(a b:Nat):IOp:=⟨some n,none,.bin o (.t a) (.t b)⟩
abbrev Qk(n:Nat)(k:Int):IOp:=⟨some n,none,.mv (.c (.int .i64 k))⟩
@[reducible] def Globs.none : Globs := ⟨fun _ => False, fun _ _ => True⟩
end Go.Bi
