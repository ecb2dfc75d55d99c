/- The walk: one lemma an operation, over a state that is a list of slots. No condition. -/
import Derived.Test.YtfnaleemmeejcaaGreatBQ
set_option linter.unusedVariables false
namespace Go.Bi
set_option linter.unusedSectionVars false
variable [N0]
def E8:List (Nat×AV)->D5
 |[],_=>.junk
 |(a,v)::l,t=>bif Nat.beq t a then v else E8 l t
def A1r:Nat->List AV->List (Nat×AV)
 |_,[]=>[]
 |i,a::l=>(i,a)::A1r (i+1) l
theorem A9l(t:Nat)(v:AV)(L:List (Nat×AV)):upd t v (E8 L)=E8 ((t,v)::L):=by
 funext s
 simp only[upd,E8]
 by_cases h:s=t
 ·subst h;simp
 ·have:Nat.beq s t=false:=by
   cases hq:Nat.beq s t with
   |false=>rfl
   |true=>exact absurd (U3 hq) h
  simp[h,this]
theorem B2z(args:List AV):A1Z args=E8 (A1r 0 args):=by
 have key:∀(l:List AV) (i t:Nat),E8 (A1r i l) t=if i<=t then l.getD (t-i) .junk else .junk:=by
  intro l
  induction l with
  |nil=>intro i t;simp[A1r,E8]
  |cons a l ih=>
   intro i t
   simp only[A1r,E8]
   by_cases h:t=i
   ·subst h;simp
   ·have:Nat.beq t i=false:=by
     cases hq:Nat.beq t i with
     |false=>rfl
     |true=>exact absurd (U3 hq) h
    rw[this,cond_false,ih]
    by_cases h2:i<=t
    ·rw[if_pos h2,if_pos (by omega),show t-i=(t-(i+1))+1 by omega]
     simp
    ·rw[if_neg h2,if_neg (by omega)]
 funext t
 rw[key]
 simp[A1Z]
section
variable {P:Program}{n nb:Nat}{L:List (Nat×AV)}{os os1:List AO}{rest:List D0}{K:D5->List AO->Prop}{t:Nat}{v:AV}{x y z:C1}
theorem B8.walk(hm:P.follows .mixedOrders=true){f n:Nat}{ic:IC}{rs:List RV}(h:B8 P f n ic rs){args:List AV}{bs:List AO}(hargs:args.length<=n){Q:AV->List AO->Prop}
  (hw:Z3 P n bs.length ic {norm:=A0l bs.length Q rs,exit:=λ_ _ _=>False,ret:=A0l bs.length Q rs} (E8 (A1r 0 args)) bs):B9 P f args bs Q:=by
 rw[<- B2z] at hw
 exact h.intro hm hargs hw
theorem B8.walkP(hm:P.follows .mixedOrders=true){f n:Nat}{ic:IC}{rs:List RV}(h:B8 P f n ic rs){args:List AV}(hargs:args.length<=n){r:AV}
  (hw:Z3 P n 0 ic {norm:=A0l 0 (λr' os=>r'=r/\os=[]) rs,exit:=λ_ _ _=>False,ret:=A0l 0 (λr' os=>r'=r/\os=[]) rs} (E8 (A1r 0 args)) []):Pure P f args r:=
 h.walk hm hargs hw
theorem E06{a:Int}(h1:-9223372036854775808<=a)(h2:a<=9223372036854775807):IntKind.i64.wrap a=a:=by
 rw[IntKind.wrap_i64];omega
section bin
variable {k:IntKind}{a b:Int}(hx:C0 (E8 L) x=.d (.int k a))(hy:C0 (E8 L) y=.d (.int k b))
include hx hy
end bin
section str
variable {a b:List UInt8}(hx:C0 (E8 L) x=.d (.str a))(hy:C0 (E8 L) y=.d (.str b))
include hx hy
end str
end
end Go.Bi
