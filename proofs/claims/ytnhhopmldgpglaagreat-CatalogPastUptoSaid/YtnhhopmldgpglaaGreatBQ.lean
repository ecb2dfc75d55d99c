/- A function of the program together with its compiled form. No condition. -/
import Derived.Test.YtnhhopmldgpglaaGreatBP
import Derived.KernelRfl
set_option linter.unusedVariables false
namespace Go.Bi
set_option linter.unusedSectionVars false
variable [K6]
def C1(P:Program)(f:FuncId)(n:Nat)(ic:IC)(rs:List RV):Prop:=
 ∃fn,P.funcs[f]?=some fn/\fn.ntmps=n/\(fn.name == "runtime.NumGoroutine")=false/\fn.body.bind (cC P n)=some ic/\fn.results.toList.mapM (cRV P)=some rs
theorem C1.intro{P:Program}(hm:P.follows .mixedOrders=true){f n:Nat}{ic:IC}{rs:List RV}(h:C1 P f n ic rs){args:List AV}{bs:List AO}(hargs:args.length<=n){Q:AV->List AO->Prop}
  (hw:V9 P n bs.length ic {norm:=v8 bs.length Q rs,exit:=λ_ _ _=>False,ret:=v8 bs.length Q rs} (A12 args) bs):B4 P f args bs Q:=by
 obtain⟨fn,h1,h2,h3,h4,h5⟩:=h
 obtain⟨code,hb,hc⟩:=Y5.1 h4
 subst h2
 exact D0w hm h1 (by simpa using h3) hb hc h5 hargs hw
theorem C1.pure{P:Program}(hm:P.follows .mixedOrders=true){f n:Nat}{ic:IC}{rs:List RV}(h:C1 P f n ic rs){args:List AV}(hargs:args.length<=n){r:AV}
  (hw:V9 P n 0 ic {norm:=v8 0 (λr' os=>r'=r/\os=[]) rs,exit:=λ_ _ _=>False,ret:=v8 0 (λr' os=>r'=r/\os=[]) rs} (A12 args) []):Pure P f args r:=
 h.intro hm hargs hw
end Go.Bi
