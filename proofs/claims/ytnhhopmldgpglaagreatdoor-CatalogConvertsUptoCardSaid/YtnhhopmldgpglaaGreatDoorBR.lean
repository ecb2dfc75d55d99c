/- The walk: one lemma an operation, over a state that is a list of slots. No condition. -/
import Derived.Test.YtnhhopmldgpglaaGreatDoorBQ
set_option linter.unusedVariables false
namespace Go.Bi
set_option linter.unusedSectionVars false
variable [J9]
def D1:List (Nat×AV)->C5
 |[],_=>.junk
 |(a,v)::l,t=>bif Nat.beq t a then v else D1 l t
def A15:Nat->List AV->List (Nat×AV)
 |_,[]=>[]
 |i,a::l=>(i,a)::A15 (i+1) l
theorem B1R(t:Nat)(v:AV)(L:List (Nat×AV)):upd t v (D1 L)=D1 ((t,v)::L):=by
 funext s
 simp only[upd,D1]
 by_cases h:s=t
 ·subst h;simp
 ·have:Nat.beq s t=false:=by
   cases hq:Nat.beq s t with
   |false=>rfl
   |true=>exact absurd (R0 hq) h
  simp[h,this]
theorem B1Q(args:List AV):A1B args=D1 (A15 0 args):=by
 have key:∀(l:List AV) (i t:Nat),D1 (A15 i l) t=if i<=t then l.getD (t-i) .junk else .junk:=by
  intro l
  induction l with
  |nil=>intro i t;simp[A15,D1]
  |cons a l ih=>
   intro i t
   simp only[A15,D1]
   by_cases h:t=i
   ·subst h;simp
   ·have:Nat.beq t i=false:=by
     cases hq:Nat.beq t i with
     |false=>rfl
     |true=>exact absurd (R0 hq) h
    rw[this,cond_false,ih]
    by_cases h2:i<=t
    ·rw[if_pos h2,if_pos (by omega),show t-i=(t-(i+1))+1 by omega]
     simp
    ·rw[if_neg h2,if_neg (by omega)]
 funext t
 rw[key]
 simp[A1B]
section
variable {P:Program}{n nb:Nat}{L:List (Nat×AV)}{os os1:List AO}{rest:List D0}{K:C5->List AO->Prop}{t:Nat}{v:AV}{x y z:B6}
theorem B2.walk(hm:P.follows .mixedOrders=true){f n:Nat}{ic:IC}{rs:List RV}(h:B2 P f n ic rs){args:List AV}{bs:List AO}(hargs:args.length<=n){Q:AV->List AO->Prop}
  (hw:W5 P n bs.length ic {norm:=y9 bs.length Q rs,exit:=λ_ _ _=>False,ret:=y9 bs.length Q rs} (D1 (A15 0 args)) bs):B0 P f args bs Q:=by
 rw[<- B1Q] at hw
 exact h.intro hm hargs hw
theorem B2.walkP(hm:P.follows .mixedOrders=true){f n:Nat}{ic:IC}{rs:List RV}(h:B2 P f n ic rs){args:List AV}(hargs:args.length<=n){r:AV}
  (hw:W5 P n 0 ic {norm:=y9 0 (λr' os=>r'=r/\os=[]) rs,exit:=λ_ _ _=>False,ret:=y9 0 (λr' os=>r'=r/\os=[]) rs} (D1 (A15 0 args)) []):Pure P f args r:=
 h.walk hm hargs hw
theorem C2l{a:Int}(h1:-9223372036854775808<=a)(h2:a<=9223372036854775807):IntKind.i64.wrap a=a:=by
 rw[IntKind.wrap_i64];omega
section bin
variable {k:IntKind}{a b:Int}(hx:B8 (D1 L) x=.d (.int k a))(hy:B8 (D1 L) y=.d (.int k b))
include hx hy
end bin
section str
variable {a b:List UInt8}(hx:B8 (D1 L) x=.d (.str a))(hy:B8 (D1 L) y=.d (.str b))
include hx hy
end str
end
end Go.Bi
