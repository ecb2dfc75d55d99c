/- A function of the program together with its compiled form. No condition. -/
import Derived.Test.YthaildbjjlpdgaaGreatBP
import Derived.KernelRfl
set_option linter.unusedVariables false
namespace Go.Bi
set_option linter.unusedSectionVars false
variable [Globs]
def IsFn(P:Program)(f:FuncId)(n:Nat)(ic:IC)(rs:List RV):Prop:=
 ∃fn,P.funcs[f]?=some fn/\fn.ntmps=n/\(fn.name == "runtime.NumGoroutine")=false/\fn.body.bind (cC P n)=some ic/\fn.results.toList.mapM (cRV P)=some rs
theorem IsFn.intro{P:Program}(hm:P.follows .mixedOrders=true){f n:Nat}{ic:IC}{rs:List RV}(h:IsFn P f n ic rs){args:List AV}{bs:List AO}(hargs:args.length<=n){Q:AV->List AO->Prop}
  (hw:wpI P n bs.length ic {norm:=retI bs.length Q rs,exit:=λ_ _ _=>False,ret:=retI bs.length Q rs} (argsRho args) bs):CallSpec P f args bs Q:=by
 obtain⟨fn,h1,h2,h3,h4,h5⟩:=h
 obtain⟨code,hb,hc⟩:=Option.bind_eq_some_iff.1 h4
 subst h2
 exact fn_intro hm h1 (by simpa using h3) hb hc h5 hargs hw
theorem IsFn.pure{P:Program}(hm:P.follows .mixedOrders=true){f n:Nat}{ic:IC}{rs:List RV}(h:IsFn P f n ic rs){args:List AV}(hargs:args.length<=n){r:AV}
  (hw:wpI P n 0 ic {norm:=retI 0 (λr' os=>r'=r/\os=[]) rs,exit:=λ_ _ _=>False,ret:=retI 0 (λr' os=>r'=r/\os=[]) rs} (argsRho args) []):Pure P f args r:=
 h.intro hm hargs hw
end Go.Bi
