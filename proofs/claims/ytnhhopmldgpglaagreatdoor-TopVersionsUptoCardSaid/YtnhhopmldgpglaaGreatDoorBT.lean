/- The walk: loops over families of states that are lists; known conditions as propositions. No condition. -/
import Derived.Test.YtnhhopmldgpglaaGreatDoorBS
set_option linter.unusedVariables false
namespace Go.Bi
set_option linter.unusedSectionVars false
variable [J4]
def AV.bnd1B(m:Nat):AV->Bool
 |.ptr id _=>Nat.blt id m
 |.aptr id _ _ _=>Nat.blt id m
 |.arr id _=>Nat.blt id m
 |.clo _ caps=>caps.all λid=>Nat.blt id m
 |.iter id=>Nat.blt id m
 |.mp id=>Nat.blt id m
 |.mit id=>Nat.blt id m
 |.rs id _=>Nat.blt id m
 |.rp id _ _ _=>Nat.blt id m
 |_=>true
def AV.bnd2B(m:Nat):AV->Bool
 |.agg cs=>cs.all λc=>c.bnd1B m
 |a=>a.bnd1B m
def AV.bndB(m:Nat):AV->Bool
 |.tup cs=>cs.all λc=>c.bnd2B m
 |a=>a.bnd2B m
def AO.bndB(m:Nat):AO->Bool
 |.cells cs=>cs.all λc=>c.bnd1B m
 |.map kvs=>kvs.all λp=>p.2.bnd2B m
 |.mit k _ _=>Nat.blt k m
 |.rarr es _ _=>es.all λe=>e.all λc=>c.bnd1B m
 |_=>true
theorem A06{m:Nat}{c:AV}(h:c.bnd1B m=true):c.bnd1 m:=by
 cases c with
 |clo f caps=>intro id hid;exact P9 (N9.1 h id hid)
 |ptr id off=>exact P9 h
 |aptr id len i off=>exact P9 h
 |arr id len=>exact P9 h
 |iter id=>exact P9 h
 |mp id=>exact P9 h
 |mit id=>exact P9 h
 |rs id len=>exact P9 h
 |rp id len i off=>exact P9 h
 |_=>trivial
theorem A07{m:Nat}{c:AV}(h:c.bnd2B m=true):c.bnd2 m:=by
 cases c with
 |agg cs=>intro x hx;exact A06 (N9.1 h x hx)
 |clo f caps=>exact A06 (c:=.clo f caps) h
 |ptr id off=>exact A06 (c:=.ptr id off) h
 |aptr id len i off=>exact A06 (c:=.aptr id len i off) h
 |arr id len=>exact A06 (c:=.arr id len) h
 |iter id=>exact A06 (c:=.iter id) h
 |mp id=>exact A06 (c:=.mp id) h
 |mit id=>exact A06 (c:=.mit id) h
 |rs id len=>exact A06 (c:=.rs id len) h
 |rp id len i off=>exact A06 (c:=.rp id len i off) h
 |_=>trivial
theorem B5w{m:Nat}{c:AV}(h:c.bndB m=true):c.bnd m:=by
 cases c with
 |tup cs=>intro x hx;exact A07 (N9.1 h x hx)
 |agg cs=>exact A07 (c:=.agg cs) h
 |clo f caps=>exact A07 (c:=.clo f caps) h
 |ptr id off=>exact A07 (c:=.ptr id off) h
 |aptr id len i off=>exact A07 (c:=.aptr id len i off) h
 |arr id len=>exact A07 (c:=.arr id len) h
 |iter id=>exact A07 (c:=.iter id) h
 |mp id=>exact A07 (c:=.mp id) h
 |mit id=>exact A07 (c:=.mit id) h
 |rs id len=>exact A07 (c:=.rs id len) h
 |rp id len i off=>exact A07 (c:=.rp id len i off) h
 |_=>trivial
theorem M3{m:Nat}{o:AO}(h:o.bndB m=true):o.bnd m:=by
 cases o with
 |cells cs=>intro x hx;exact A06 (N9.1 h x hx)
 |map kvs=>intro x hx;exact A07 (N9.1 h x hx)
 |mit k n s=>exact P9 h
 |rarr es sz nl=>intro e he c hc;exact A06 (N9.1 (N9.1 h e he) c hc)
 |_=>trivial
theorem D2O(n:Int):0<=IntKind.u64.wrap n:=by
 simp only[IntKind.wrap,IntKind.signed,Bool.false_and,N8,if_false]
 exact Int.emod_nonneg _ (by decide)
section
variable {P:Program}{n nb:Nat}{L Lt:List (Nat×AV)}{os os2:List AO}{rest:List C9}{K:C6->List AO->Prop}{t:Nat}{v:AV}{x y z:B5}
variable {N R:C6->List AO->Prop}{E:Nat->C6->List AO->Prop}{ρ:C6}
def B8(d:D)(es:List (List D)):Prop:=(d=.nil/\es=[])\/d=.sl es
def nsl(es:List (List D)):D:=if es.isEmpty then .nil else .sl es
theorem O7{es:List (List D)}:B8 (.sl es) es:=.inr rfl
theorem A1p:B8 .nil []:=.inl ⟨rfl,rfl⟩
theorem D24{es:List (List D)}:B8 (nsl es) es:=by
 unfold nsl B8
 cases es<;>simp
end
end Go.Bi
