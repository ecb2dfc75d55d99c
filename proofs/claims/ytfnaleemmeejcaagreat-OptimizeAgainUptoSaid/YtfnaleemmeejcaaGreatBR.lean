/- The walk: one lemma an operation, over a state that is a list of slots. No condition. -/
import Derived.Test.YtfnaleemmeejcaaGreatBQ
set_option linter.unusedVariables false
namespace Go.Bi
set_option linter.unusedSectionVars false
variable [M6]
def E7:List (Nat×AV)->D7
 |[],_=>.junk
 |(a,v)::l,t=>bif Nat.beq t a then v else E7 l t
def A1K:Nat->List AV->List (Nat×AV)
 |_,[]=>[]
 |i,a::l=>(i,a)::A1K (i+1) l
theorem B2Y(t:Nat)(v:AV)(L:List (Nat×AV)):upd t v (E7 L)=E7 ((t,v)::L):=by
 funext s
 simp only[upd,E7]
 by_cases h:s=t
 ·subst h;simp
 ·have:Nat.beq s t=false:=by
   cases hq:Nat.beq s t with
   |false=>rfl
   |true=>exact absurd (U5 hq) h
  simp[h,this]
theorem B2X(args:List AV):A2k args=E7 (A1K 0 args):=by
 have key:∀(l:List AV) (i t:Nat),E7 (A1K i l) t=if i<=t then l.getD (t-i) .junk else .junk:=by
  intro l
  induction l with
  |nil=>intro i t;simp[A1K,E7]
  |cons a l ih=>
   intro i t
   simp only[A1K,E7]
   by_cases h:t=i
   ·subst h;simp
   ·have:Nat.beq t i=false:=by
     cases hq:Nat.beq t i with
     |false=>rfl
     |true=>exact absurd (U5 hq) h
    rw[this,cond_false,ih]
    by_cases h2:i<=t
    ·rw[if_pos h2,if_pos (by omega),show t-i=(t-(i+1))+1 by omega]
     simp
    ·rw[if_neg h2,if_neg (by omega)]
 funext t
 rw[key]
 simp[A2k]
section
variable {P:Program}{n nb:Nat}{L:List (Nat×AV)}{os os1:List AO}{rest:List D0}{K:D7->List AO->Prop}{t:Nat}{v:AV}{x y z:C2}
theorem B5.walk(hm:P.follows .mixedOrders=true){f n:Nat}{ic:IC}{rs:List RV}(h:B5 P f n ic rs){args:List AV}{bs:List AO}(hargs:args.length<=n){Q:AV->List AO->Prop}
  (hw:b8 P n bs.length ic {norm:=A0x bs.length Q rs,exit:=λ_ _ _=>False,ret:=A0x bs.length Q rs} (E7 (A1K 0 args)) bs):C0 P f args bs Q:=by
 rw[<- B2X] at hw
 exact h.intro hm hargs hw
theorem B5.walkP(hm:P.follows .mixedOrders=true){f n:Nat}{ic:IC}{rs:List RV}(h:B5 P f n ic rs){args:List AV}(hargs:args.length<=n){r:AV}
  (hw:b8 P n 0 ic {norm:=A0x 0 (λr' os=>r'=r/\os=[]) rs,exit:=λ_ _ _=>False,ret:=A0x 0 (λr' os=>r'=r/\os=[]) rs} (E7 (A1K 0 args)) []):Pure P f args r:=
 h.walk hm hargs hw
theorem E2F{a:Int}(h1:-9223372036854775808<=a)(h2:a<=9223372036854775807):IntKind.i64.wrap a=a:=by
 rw[IntKind.wrap_i64];omega
section bin
variable {k:IntKind}{a b:Int}(hx:C1 (E7 L) x=.d (.int k a))(hy:C1 (E7 L) y=.d (.int k b))
include hx hy
end bin
section str
variable {a b:List UInt8}(hx:C1 (E7 L) x=.d (.str a))(hy:C1 (E7 L) y=.d (.str b))
include hx hy
end str
end
end Go.Bi
