/- The walk: loops over families of states that are lists; known conditions as propositions. No condition. -/
import Derived.Test.YtnhhopmldgpglaaGreatDoorBS
set_option linter.unusedVariables false
namespace Go.Bi
set_option linter.unusedSectionVars false
variable [J9]
def AV.bnd1B(m:Nat):AV->Bool
 |.ptr id _=>Nat.blt id m
 |.aptr id _ _ _=>Nat.blt id m
 |.arr id _=>Nat.blt id m
 |.clo _ caps=>caps.all λid=>Nat.blt id m
 |.iter id=>Nat.blt id m
 |.mp id=>Nat.blt id m
 |.mit id=>Nat.blt id m
 |.rs id _=>Nat.blt id m
 |.rp id _ _ _=>Nat.blt id m
 |_=>true
def AV.bnd2B(m:Nat):AV->Bool
 |.agg cs=>cs.all λc=>c.bnd1B m
 |a=>a.bnd1B m
def AV.bndB(m:Nat):AV->Bool
 |.tup cs=>cs.all λc=>c.bnd2B m
 |a=>a.bnd2B m
def AO.bndB(m:Nat):AO->Bool
 |.cells cs=>cs.all λc=>c.bnd1B m
 |.map kvs=>kvs.all λp=>p.2.bnd2B m
 |.mit k _ _=>Nat.blt k m
 |.rarr es _ _=>es.all λe=>e.all λc=>c.bnd1B m
 |_=>true
theorem A0v{m:Nat}{c:AV}(h:c.bnd1B m=true):c.bnd1 m:=by
 cases c with
 |clo f caps=>intro id hid;exact P5 (O3.1 h id hid)
 |ptr id off=>exact P5 h
 |aptr id len i off=>exact P5 h
 |arr id len=>exact P5 h
 |iter id=>exact P5 h
 |mp id=>exact P5 h
 |mit id=>exact P5 h
 |rs id len=>exact P5 h
 |rp id len i off=>exact P5 h
 |_=>trivial
theorem A0w{m:Nat}{c:AV}(h:c.bnd2B m=true):c.bnd2 m:=by
 cases c with
 |agg cs=>intro x hx;exact A0v (O3.1 h x hx)
 |clo f caps=>exact A0v (c:=.clo f caps) h
 |ptr id off=>exact A0v (c:=.ptr id off) h
 |aptr id len i off=>exact A0v (c:=.aptr id len i off) h
 |arr id len=>exact A0v (c:=.arr id len) h
 |iter id=>exact A0v (c:=.iter id) h
 |mp id=>exact A0v (c:=.mp id) h
 |mit id=>exact A0v (c:=.mit id) h
 |rs id len=>exact A0v (c:=.rs id len) h
 |rp id len i off=>exact A0v (c:=.rp id len i off) h
 |_=>trivial
theorem B8x{m:Nat}{c:AV}(h:c.bndB m=true):c.bnd m:=by
 cases c with
 |tup cs=>intro x hx;exact A0w (O3.1 h x hx)
 |agg cs=>exact A0w (c:=.agg cs) h
 |clo f caps=>exact A0w (c:=.clo f caps) h
 |ptr id off=>exact A0w (c:=.ptr id off) h
 |aptr id len i off=>exact A0w (c:=.aptr id len i off) h
 |arr id len=>exact A0w (c:=.arr id len) h
 |iter id=>exact A0w (c:=.iter id) h
 |mp id=>exact A0w (c:=.mp id) h
 |mit id=>exact A0w (c:=.mit id) h
 |rs id len=>exact A0w (c:=.rs id len) h
 |rp id len i off=>exact A0w (c:=.rp id len i off) h
 |_=>trivial
theorem M6{m:Nat}{o:AO}(h:o.bndB m=true):o.bnd m:=by
 cases o with
 |cells cs=>intro x hx;exact A0v (O3.1 h x hx)
 |map kvs=>intro x hx;exact A0w (O3.1 h x hx)
 |mit k n s=>exact P5 h
 |rarr es sz nl=>intro e he c hc;exact A0v (O3.1 (O3.1 h e he) c hc)
 |_=>trivial
theorem D88(n:Int):0<=IntKind.u64.wrap n:=by
 simp only[IntKind.wrap,IntKind.signed,A2G,L8,if_false]
 exact Int.emod_nonneg _ (by decide)
section
variable {P:Program}{n nb:Nat}{L Lt:List (Nat×AV)}{os os2:List AO}{rest:List D0}{K:C5->List AO->Prop}{t:Nat}{v:AV}{x y z:B6}
variable {N R:C5->List AO->Prop}{E:Nat->C5->List AO->Prop}{ρ:C5}
def B3(d:D)(es:List (List D)):Prop:=(d=.nil/\es=[])\/d=.sl es
def nsl(es:List (List D)):D:=if es.isEmpty then .nil else .sl es
theorem J7{es:List (List D)}:B3 (.sl es) es:=.inr rfl
theorem A0i:B3 .nil []:=.inl ⟨rfl,rfl⟩
theorem D7l{es:List (List D)}:B3 (nsl es) es:=by
 unfold nsl B3
 cases es<;>simp
end
end Go.Bi
