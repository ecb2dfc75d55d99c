/- The walk: loops over families of states that are lists; known conditions as propositions. No condition. -/
import Derived.Test.YthaildbjjlpdgaaGreatBS
set_option linter.unusedVariables false
namespace Go.Bi
set_option linter.unusedSectionVars false
variable [Globs]
def AV.bnd1B(m:Nat):AV->Bool
 |.ptr id _=>Nat.blt id m
 |.aptr id _ _ _=>Nat.blt id m
 |.arr id _=>Nat.blt id m
 |.clo _ caps=>caps.all λid=>Nat.blt id m
 |.bcl _ id=>Nat.blt id m
 |.iter id=>Nat.blt id m
 |.mp id=>Nat.blt id m
 |.mit id=>Nat.blt id m
 |.rs id _=>Nat.blt id m
 |.rp id _ _ _=>Nat.blt id m
 |.sub id _ _ _=>Nat.blt id m
 |_=>true
def AV.bnd2B(m:Nat):AV->Bool
 |.agg cs=>cs.all λc=>c.bnd1B m
 |a=>a.bnd1B m
def AV.bndB(m:Nat):AV->Bool
 |.tup cs=>cs.all λc=>c.bnd2B m
 |a=>a.bnd2B m
def AO.bndB(m:Nat):AO->Bool
 |.cells cs=>cs.all λc=>c.bnd1B m
 |.map kvs=>kvs.all λp=>p.2.bnd2B m
 |.mit k _ _=>Nat.blt k m
 |.rarr es _ _=>es.all λe=>e.all λc=>c.bnd1B m
 |_=>true
theorem bnd1_of{m:Nat}{c:AV}(h:c.bnd1B m=true):c.bnd1 m:=by
 cases c with
 |clo f caps=>intro id hid;exact Nat.le_of_ble_eq_true (List.all_eq_true.1 h id hid)
 |ptr id off=>exact Nat.le_of_ble_eq_true h
 |bcl f id=>exact Nat.le_of_ble_eq_true h
 |aptr id len i off=>exact Nat.le_of_ble_eq_true h
 |arr id len=>exact Nat.le_of_ble_eq_true h
 |iter id=>exact Nat.le_of_ble_eq_true h
 |mp id=>exact Nat.le_of_ble_eq_true h
 |mit id=>exact Nat.le_of_ble_eq_true h
 |rs id len=>exact Nat.le_of_ble_eq_true h
 |rp id len i off=>exact Nat.le_of_ble_eq_true h
 |sub id tot lo n=>exact Nat.le_of_ble_eq_true h
 |_=>trivial
theorem bnd2_of{m:Nat}{c:AV}(h:c.bnd2B m=true):c.bnd2 m:=by
 cases c with
 |agg cs=>intro x hx;exact bnd1_of (List.all_eq_true.1 h x hx)
 |clo f caps=>exact bnd1_of (c:=.clo f caps) h
 |bcl f id=>exact bnd1_of (c:=.bcl f id) h
 |ptr id off=>exact bnd1_of (c:=.ptr id off) h
 |aptr id len i off=>exact bnd1_of (c:=.aptr id len i off) h
 |arr id len=>exact bnd1_of (c:=.arr id len) h
 |iter id=>exact bnd1_of (c:=.iter id) h
 |mp id=>exact bnd1_of (c:=.mp id) h
 |mit id=>exact bnd1_of (c:=.mit id) h
 |rs id len=>exact bnd1_of (c:=.rs id len) h
 |rp id len i off=>exact bnd1_of (c:=.rp id len i off) h
 |full es=>exact bnd1_of (c:=.full es) (m:=m) h
 |sub id tot lo n=>exact bnd1_of (c:=.sub id tot lo n) h
 |_=>trivial
theorem bnd_of{m:Nat}{c:AV}(h:c.bndB m=true):c.bnd m:=by
 cases c with
 |tup cs=>intro x hx;exact bnd2_of (List.all_eq_true.1 h x hx)
 |agg cs=>exact bnd2_of (c:=.agg cs) h
 |clo f caps=>exact bnd2_of (c:=.clo f caps) h
 |bcl f id=>exact bnd2_of (c:=.bcl f id) h
 |ptr id off=>exact bnd2_of (c:=.ptr id off) h
 |aptr id len i off=>exact bnd2_of (c:=.aptr id len i off) h
 |arr id len=>exact bnd2_of (c:=.arr id len) h
 |iter id=>exact bnd2_of (c:=.iter id) h
 |mp id=>exact bnd2_of (c:=.mp id) h
 |mit id=>exact bnd2_of (c:=.mit id) h
 |rs id len=>exact bnd2_of (c:=.rs id len) h
 |rp id len i off=>exact bnd2_of (c:=.rp id len i off) h
 |full es=>exact bnd2_of (c:=.full es) (m:=m) h
 |sub id tot lo n=>exact bnd2_of (c:=.sub id tot lo n) h
 |_=>trivial
theorem bndo_of{m:Nat}{o:AO}(h:o.bndB m=true):o.bnd m:=by
 cases o with
 |cells cs=>intro x hx;exact bnd1_of (List.all_eq_true.1 h x hx)
 |map kvs=>intro x hx;exact bnd2_of (List.all_eq_true.1 h x hx)
 |mit k n s=>exact Nat.le_of_ble_eq_true h
 |rarr es sz nl=>intro e he c hc;exact bnd1_of (List.all_eq_true.1 (List.all_eq_true.1 h e he) c hc)
 |_=>trivial
theorem wrapu_nn(n:Int):0<=IntKind.u64.wrap n:=by
 simp only[IntKind.wrap,IntKind.signed,Bool.false_and,Bool.false_eq_true,if_false]
 exact Int.emod_nonneg _ (by decide)
section
variable {P:Program}{n nb:Nat}{L Lt:List (Nat×AV)}{os os2:List AO}{rest:List IOp}{K:Rho->List AO->Prop}{t:Nat}{v:AV}{x y z:Opd}
variable {N R:Rho->List AO->Prop}{E:Nat->Rho->List AO->Prop}{ρ:Rho}
def SlD(d:D)(es:List (List D)):Prop:=(d=.nil/\es=[])\/d=.sl es
def nsl(es:List (List D)):D:=if es.isEmpty then .nil else .sl es
theorem sld_sl{es:List (List D)}:SlD (.sl es) es:=.inr rfl
theorem sld_nil:SlD .nil []:=.inl ⟨rfl,rfl⟩
theorem sld_nsl{es:List (List D)}:SlD (nsl es) es:=by
 unfold nsl SlD
 cases es<;>simp
end
end Go.Bi
