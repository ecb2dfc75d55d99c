/- The walk: loops over families of states that are lists; known conditions as propositions. No condition. -/
import Derived.Test.YtfnaleemmeejcaaGreatBS
set_option linter.unusedVariables false
namespace Go.Bi
set_option linter.unusedSectionVars false
variable [N0]
def AV.bnd1B(m:Nat):AV->Bool
 |.ptr id _=>Nat.blt id m
 |.aptr id _ _ _=>Nat.blt id m
 |.arr id _=>Nat.blt id m
 |.clo _ caps=>caps.all λid=>Nat.blt id m
 |.bcl _ id=>Nat.blt id m
 |.iter id=>Nat.blt id m
 |.mp id=>Nat.blt id m
 |.mit id=>Nat.blt id m
 |.rs id _=>Nat.blt id m
 |.rp id _ _ _=>Nat.blt id m
 |_=>true
def AV.bnd2B(m:Nat):AV->Bool
 |.agg cs=>cs.all λc=>c.bnd1B m
 |a=>a.bnd1B m
def AV.bndB(m:Nat):AV->Bool
 |.tup cs=>cs.all λc=>c.bnd2B m
 |a=>a.bnd2B m
def AO.bndB(m:Nat):AO->Bool
 |.cells cs=>cs.all λc=>c.bnd1B m
 |.map kvs=>kvs.all λp=>p.2.bnd2B m
 |.mit k _ _=>Nat.blt k m
 |.rarr es _ _=>es.all λe=>e.all λc=>c.bnd1B m
 |_=>true
theorem A0t{m:Nat}{c:AV}(h:c.bnd1B m=true):c.bnd1 m:=by
 cases c with
 |clo f caps=>intro id hid;exact R3 (L7.1 h id hid)
 |ptr id off=>exact R3 h
 |bcl f id=>exact R3 h
 |aptr id len i off=>exact R3 h
 |arr id len=>exact R3 h
 |iter id=>exact R3 h
 |mp id=>exact R3 h
 |mit id=>exact R3 h
 |rs id len=>exact R3 h
 |rp id len i off=>exact R3 h
 |_=>trivial
theorem A0u{m:Nat}{c:AV}(h:c.bnd2B m=true):c.bnd2 m:=by
 cases c with
 |agg cs=>intro x hx;exact A0t (L7.1 h x hx)
 |clo f caps=>exact A0t (c:=.clo f caps) h
 |bcl f id=>exact A0t (c:=.bcl f id) h
 |ptr id off=>exact A0t (c:=.ptr id off) h
 |aptr id len i off=>exact A0t (c:=.aptr id len i off) h
 |arr id len=>exact A0t (c:=.arr id len) h
 |iter id=>exact A0t (c:=.iter id) h
 |mp id=>exact A0t (c:=.mp id) h
 |mit id=>exact A0t (c:=.mit id) h
 |rs id len=>exact A0t (c:=.rs id len) h
 |rp id len i off=>exact A0t (c:=.rp id len i off) h
 |_=>trivial
theorem D4Q{m:Nat}{c:AV}(h:c.bndB m=true):c.bnd m:=by
 cases c with
 |tup cs=>intro x hx;exact A0u (L7.1 h x hx)
 |agg cs=>exact A0u (c:=.agg cs) h
 |clo f caps=>exact A0u (c:=.clo f caps) h
 |bcl f id=>exact A0u (c:=.bcl f id) h
 |ptr id off=>exact A0u (c:=.ptr id off) h
 |aptr id len i off=>exact A0u (c:=.aptr id len i off) h
 |arr id len=>exact A0u (c:=.arr id len) h
 |iter id=>exact A0u (c:=.iter id) h
 |mp id=>exact A0u (c:=.mp id) h
 |mit id=>exact A0u (c:=.mit id) h
 |rs id len=>exact A0u (c:=.rs id len) h
 |rp id len i off=>exact A0u (c:=.rp id len i off) h
 |_=>trivial
theorem C0i{m:Nat}{o:AO}(h:o.bndB m=true):o.bnd m:=by
 cases o with
 |cells cs=>intro x hx;exact A0t (L7.1 h x hx)
 |map kvs=>intro x hx;exact A0u (L7.1 h x hx)
 |mit k n s=>exact R3 h
 |rarr es sz nl=>intro e he c hc;exact A0t (L7.1 (L7.1 h e he) c hc)
 |_=>trivial
theorem E07(n:Int):0<=IntKind.u64.wrap n:=by
 simp only[IntKind.wrap,IntKind.signed,A4H,O2,if_false]
 exact Int.emod_nonneg _ (by decide)
section
variable {P:Program}{n nb:Nat}{L Lt:List (Nat×AV)}{os os2:List AO}{rest:List D0}{K:D5->List AO->Prop}{t:Nat}{v:AV}{x y z:C1}
variable {N R:D5->List AO->Prop}{E:Nat->D5->List AO->Prop}{ρ:D5}
def A9(d:D)(es:List (List D)):Prop:=(d=.nil/\es=[])\/d=.sl es
def M8(es:List (List D)):D:=if es.isEmpty then .nil else .sl es
theorem u4{es:List (List D)}:A9 (.sl es) es:=.inr rfl
theorem D9w:A9 .nil []:=.inl ⟨rfl,rfl⟩
theorem B38{es:List (List D)}:A9 (M8 es) es:=by
 unfold M8 A9
 cases es<;>simp
end
end Go.Bi
