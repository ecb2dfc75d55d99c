/- A function of the program together with its compiled form. No condition. -/
import Derived.Test.YtfnaleemmeejcaaGreatBP
import Derived.KernelRfl
set_option linter.unusedVariables false
namespace Go.Bi
set_option linter.unusedSectionVars false
variable [N0]
def B8(P:Program)(f:FuncId)(n:Nat)(ic:IC)(rs:List RV):Prop:=
 ∃fn,P.funcs[f]?=some fn/\fn.ntmps=n/\(fn.name == "runtime.NumGoroutine")=false/\fn.body.bind (cC P n)=some ic/\fn.results.toList.mapM (cRV P)=some rs
theorem B8.intro{P:Program}(hm:P.follows .mixedOrders=true){f n:Nat}{ic:IC}{rs:List RV}(h:B8 P f n ic rs){args:List AV}{bs:List AO}(hargs:args.length<=n){Q:AV->List AO->Prop}
  (hw:Z3 P n bs.length ic {norm:=A0l bs.length Q rs,exit:=λ_ _ _=>False,ret:=A0l bs.length Q rs} (A1Z args) bs):B9 P f args bs Q:=by
 obtain⟨fn,h1,h2,h3,h4,h5⟩:=h
 obtain⟨code,hb,hc⟩:=i7.1 h4
 subst h2
 exact D6p hm h1 (by simpa using h3) hb hc h5 hargs hw
theorem B8.pure{P:Program}(hm:P.follows .mixedOrders=true){f n:Nat}{ic:IC}{rs:List RV}(h:B8 P f n ic rs){args:List AV}(hargs:args.length<=n){r:AV}
  (hw:Z3 P n 0 ic {norm:=A0l 0 (λr' os=>r'=r/\os=[]) rs,exit:=λ_ _ _=>False,ret:=A0l 0 (λr' os=>r'=r/\os=[]) rs} (A1Z args) []):Pure P f args r:=
 h.intro hm hargs hw
end Go.Bi
