/- The walk: one lemma an operation, over a state that is a list of slots. No condition. -/
import Derived.Test.YthaildbjjlpdgaaGreatBQ
set_option linter.unusedVariables false
namespace Go.Bi
set_option linter.unusedSectionVars false
variable [Globs]
def ofL:List (Nat×AV)->Rho
 |[],_=>.junk
 |(a,v)::l,t=>bif Nat.beq t a then v else ofL l t
def argsL:Nat->List AV->List (Nat×AV)
 |_,[]=>[]
 |i,a::l=>(i,a)::argsL (i+1) l
theorem ofL_cons(t:Nat)(v:AV)(L:List (Nat×AV)):upd t v (ofL L)=ofL ((t,v)::L):=by
 funext s
 simp only[upd,ofL]
 by_cases h:s=t
 ·subst h;simp
 ·have:Nat.beq s t=false:=by
   cases hq:Nat.beq s t with
   |false=>rfl
   |true=>exact absurd (Nat.eq_of_beq_eq_true hq) h
  simp[h,this]
theorem ofL_args(args:List AV):argsRho args=ofL (argsL 0 args):=by
 have key:∀(l:List AV) (i t:Nat),ofL (argsL i l) t=if i<=t then l.getD (t-i) .junk else .junk:=by
  intro l
  induction l with
  |nil=>intro i t;simp[argsL,ofL]
  |cons a l ih=>
   intro i t
   simp only[argsL,ofL]
   by_cases h:t=i
   ·subst h;simp
   ·have:Nat.beq t i=false:=by
     cases hq:Nat.beq t i with
     |false=>rfl
     |true=>exact absurd (Nat.eq_of_beq_eq_true hq) h
    rw[this,cond_false,ih]
    by_cases h2:i<=t
    ·rw[if_pos h2,if_pos (by omega),show t-i=(t-(i+1))+1 by omega]
     simp
    ·rw[if_neg h2,if_neg (by omega)]
 funext t
 rw[key]
 simp[argsRho]
section
variable {P:Program}{n nb:Nat}{L:List (Nat×AV)}{os os1:List AO}{rest:List IOp}{K:Rho->List AO->Prop}{t:Nat}{v:AV}{x y z:Opd}
theorem IsFn.walk(hm:P.follows .mixedOrders=true){f n:Nat}{ic:IC}{rs:List RV}(h:IsFn P f n ic rs){args:List AV}{bs:List AO}(hargs:args.length<=n){Q:AV->List AO->Prop}
  (hw:wpI P n bs.length ic {norm:=retI bs.length Q rs,exit:=λ_ _ _=>False,ret:=retI bs.length Q rs} (ofL (argsL 0 args)) bs):CallSpec P f args bs Q:=by
 rw[<- ofL_args] at hw
 exact h.intro hm hargs hw
theorem IsFn.walkP(hm:P.follows .mixedOrders=true){f n:Nat}{ic:IC}{rs:List RV}(h:IsFn P f n ic rs){args:List AV}(hargs:args.length<=n){r:AV}
  (hw:wpI P n 0 ic {norm:=retI 0 (λr' os=>r'=r/\os=[]) rs,exit:=λ_ _ _=>False,ret:=retI 0 (λr' os=>r'=r/\os=[]) rs} (ofL (argsL 0 args)) []):Pure P f args r:=
 h.walk hm hargs hw
theorem wrap64{a:Int}(h1:-9223372036854775808<=a)(h2:a<=9223372036854775807):IntKind.i64.wrap a=a:=by
 rw[IntKind.wrap_i64];omega
section bin
variable {k:IntKind}{a b:Int}(hx:evO (ofL L) x=.d (.int k a))(hy:evO (ofL L) y=.d (.int k b))
include hx hy
end bin
section str
variable {a b:List UInt8}(hx:evO (ofL L) x=.d (.str a))(hy:evO (ofL L) y=.d (.str b))
include hx hy
end str
end
end Go.Bi
