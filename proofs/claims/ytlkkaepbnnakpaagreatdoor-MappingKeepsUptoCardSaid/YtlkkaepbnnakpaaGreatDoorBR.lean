/- The walk: one lemma an operation, over a state that is a list of slots. No condition. -/
import Derived.Test.YtlkkaepbnnakpaaGreatDoorBQ
set_option linter.unusedVariables false
namespace Go.Bi
set_option linter.unusedSectionVars false
variable [J6]
def D1:List (Nat×AV)->C9
 |[],_=>.junk
 |(a,v)::l,t=>bif Nat.beq t a then v else D1 l t
def A0x:Nat->List AV->List (Nat×AV)
 |_,[]=>[]
 |i,a::l=>(i,a)::A0x (i+1) l
theorem B0P(t:Nat)(v:AV)(L:List (Nat×AV)):upd t v (D1 L)=D1 ((t,v)::L):=by
 funext s
 simp only[upd,D1]
 by_cases h:s=t
 ·subst h;simp
 ·have:Nat.beq s t=false:=by
   cases hq:Nat.beq s t with
   |false=>rfl
   |true=>exact absurd (Q5 hq) h
  simp[h,this]
theorem B0O(args:List AV):A11 args=D1 (A0x 0 args):=by
 have key:∀(l:List AV) (i t:Nat),D1 (A0x i l) t=if i<=t then l.getD (t-i) .junk else .junk:=by
  intro l
  induction l with
  |nil=>intro i t;simp[A0x,D1]
  |cons a l ih=>
   intro i t
   simp only[A0x,D1]
   by_cases h:t=i
   ·subst h;simp
   ·have:Nat.beq t i=false:=by
     cases hq:Nat.beq t i with
     |false=>rfl
     |true=>exact absurd (Q5 hq) h
    rw[this,cond_false,ih]
    by_cases h2:i<=t
    ·rw[if_pos h2,if_pos (by omega),show t-i=(t-(i+1))+1 by omega]
     simp
    ·rw[if_neg h2,if_neg (by omega)]
 funext t
 rw[key]
 simp[A11]
section
variable {P:Program}{n nb:Nat}{L:List (Nat×AV)}{os os1:List AO}{rest:List D0}{K:C9->List AO->Prop}{t:Nat}{v:AV}{x y z:B6}
theorem C0.walk(hm:P.follows .mixedOrders=true){f n:Nat}{ic:IC}{rs:List RV}(h:C0 P f n ic rs){args:List AV}{bs:List AO}(hargs:args.length<=n){Q:AV->List AO->Prop}
  (hw:V9 P n bs.length ic {norm:=u9 bs.length Q rs,exit:=λ_ _ _=>False,ret:=u9 bs.length Q rs} (D1 (A0x 0 args)) bs):B5 P f args bs Q:=by
 rw[<- B0O] at hw
 exact h.intro hm hargs hw
theorem C0.walkP(hm:P.follows .mixedOrders=true){f n:Nat}{ic:IC}{rs:List RV}(h:C0 P f n ic rs){args:List AV}(hargs:args.length<=n){r:AV}
  (hw:V9 P n 0 ic {norm:=u9 0 (λr' os=>r'=r/\os=[]) rs,exit:=λ_ _ _=>False,ret:=u9 0 (λr' os=>r'=r/\os=[]) rs} (D1 (A0x 0 args)) []):Pure P f args r:=
 h.walk hm hargs hw
theorem C0a{a:Int}(h1:-9223372036854775808<=a)(h2:a<=9223372036854775807):IntKind.i64.wrap a=a:=by
 rw[IntKind.wrap_i64];omega
section bin
variable {k:IntKind}{a b:Int}(hx:C1 (D1 L) x=.d (.int k a))(hy:C1 (D1 L) y=.d (.int k b))
include hx hy
end bin
section str
variable {a b:List UInt8}(hx:C1 (D1 L) x=.d (.str a))(hy:C1 (D1 L) y=.d (.str b))
include hx hy
end str
end
end Go.Bi
