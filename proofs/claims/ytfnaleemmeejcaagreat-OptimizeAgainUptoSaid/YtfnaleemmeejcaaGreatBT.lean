/- The walk: loops over families of states that are lists; known conditions as propositions. No condition. -/
import Derived.Test.YtfnaleemmeejcaaGreatBS
set_option linter.unusedVariables false
namespace Go.Bi
set_option linter.unusedSectionVars false
variable [M6]
def AV.bnd1B(m:Nat):AV->Bool
 |.ptr id _=>Nat.blt id m
 |.aptr id _ _ _=>Nat.blt id m
 |.arr id _=>Nat.blt id m
 |.clo _ caps=>caps.all λid=>Nat.blt id m
 |.bcl _ id=>Nat.blt id m
 |.iter id=>Nat.blt id m
 |.mp id=>Nat.blt id m
 |.mit id=>Nat.blt id m
 |.rs id _=>Nat.blt id m
 |.rp id _ _ _=>Nat.blt id m
 |_=>true
def AV.bnd2B(m:Nat):AV->Bool
 |.agg cs=>cs.all λc=>c.bnd1B m
 |a=>a.bnd1B m
def AV.bndB(m:Nat):AV->Bool
 |.tup cs=>cs.all λc=>c.bnd2B m
 |a=>a.bnd2B m
def AO.bndB(m:Nat):AO->Bool
 |.cells cs=>cs.all λc=>c.bnd1B m
 |.map kvs=>kvs.all λp=>p.2.bnd2B m
 |.mit k _ _=>Nat.blt k m
 |.rarr es _ _=>es.all λe=>e.all λc=>c.bnd1B m
 |_=>true
theorem A0K{m:Nat}{c:AV}(h:c.bnd1B m=true):c.bnd1 m:=by
 cases c with
 |clo f caps=>intro id hid;exact R6 (K8.1 h id hid)
 |ptr id off=>exact R6 h
 |bcl f id=>exact R6 h
 |aptr id len i off=>exact R6 h
 |arr id len=>exact R6 h
 |iter id=>exact R6 h
 |mp id=>exact R6 h
 |mit id=>exact R6 h
 |rs id len=>exact R6 h
 |rp id len i off=>exact R6 h
 |_=>trivial
theorem A0L{m:Nat}{c:AV}(h:c.bnd2B m=true):c.bnd2 m:=by
 cases c with
 |agg cs=>intro x hx;exact A0K (K8.1 h x hx)
 |clo f caps=>exact A0K (c:=.clo f caps) h
 |bcl f id=>exact A0K (c:=.bcl f id) h
 |ptr id off=>exact A0K (c:=.ptr id off) h
 |aptr id len i off=>exact A0K (c:=.aptr id len i off) h
 |arr id len=>exact A0K (c:=.arr id len) h
 |iter id=>exact A0K (c:=.iter id) h
 |mp id=>exact A0K (c:=.mp id) h
 |mit id=>exact A0K (c:=.mit id) h
 |rs id len=>exact A0K (c:=.rs id len) h
 |rp id len i off=>exact A0K (c:=.rp id len i off) h
 |_=>trivial
theorem D7i{m:Nat}{c:AV}(h:c.bndB m=true):c.bnd m:=by
 cases c with
 |tup cs=>intro x hx;exact A0L (K8.1 h x hx)
 |agg cs=>exact A0L (c:=.agg cs) h
 |clo f caps=>exact A0L (c:=.clo f caps) h
 |bcl f id=>exact A0L (c:=.bcl f id) h
 |ptr id off=>exact A0L (c:=.ptr id off) h
 |aptr id len i off=>exact A0L (c:=.aptr id len i off) h
 |arr id len=>exact A0L (c:=.arr id len) h
 |iter id=>exact A0L (c:=.iter id) h
 |mp id=>exact A0L (c:=.mp id) h
 |mit id=>exact A0L (c:=.mit id) h
 |rs id len=>exact A0L (c:=.rs id len) h
 |rp id len i off=>exact A0L (c:=.rp id len i off) h
 |_=>trivial
theorem C1x{m:Nat}{o:AO}(h:o.bndB m=true):o.bnd m:=by
 cases o with
 |cells cs=>intro x hx;exact A0K (K8.1 h x hx)
 |map kvs=>intro x hx;exact A0L (K8.1 h x hx)
 |mit k n s=>exact R6 h
 |rarr es sz nl=>intro e he c hc;exact A0K (K8.1 (K8.1 h e he) c hc)
 |_=>trivial
theorem E2G(n:Int):0<=IntKind.u64.wrap n:=by
 simp only[IntKind.wrap,IntKind.signed,Bool.false_and,N6,if_false]
 exact Int.emod_nonneg _ (by decide)
section
variable {P:Program}{n nb:Nat}{L Lt:List (Nat×AV)}{os os2:List AO}{rest:List D0}{K:D7->List AO->Prop}{t:Nat}{v:AV}{x y z:C2}
variable {N R:D7->List AO->Prop}{E:Nat->D7->List AO->Prop}{ρ:D7}
def B0(d:D)(es:List (List D)):Prop:=(d=.nil/\es=[])\/d=.sl es
def M4(es:List (List D)):D:=if es.isEmpty then .nil else .sl es
theorem A0y{es:List (List D)}:B0 (.sl es) es:=.inr rfl
theorem E1Y:B0 .nil []:=.inl ⟨rfl,rfl⟩
theorem B3y{es:List (List D)}:B0 (M4 es) es:=by
 unfold M4 B0
 cases es<;>simp
end
end Go.Bi
