/- The walk: one lemma an operation, over a state that is a list of slots. No condition. -/
import Derived.Test.YtnhhopmldgpglaaGreatBQ
set_option linter.unusedVariables false
namespace Go.Bi
set_option linter.unusedSectionVars false
variable [K6]
def D5:List (Nat×AV)->C7
 |[],_=>.junk
 |(a,v)::l,t=>bif Nat.beq t a then v else D5 l t
def A0E:Nat->List AV->List (Nat×AV)
 |_,[]=>[]
 |i,a::l=>(i,a)::A0E (i+1) l
theorem B0a(t:Nat)(v:AV)(L:List (Nat×AV)):upd t v (D5 L)=D5 ((t,v)::L):=by
 funext s
 simp only[upd,D5]
 by_cases h:s=t
 ·subst h;simp
 ·have:Nat.beq s t=false:=by
   cases hq:Nat.beq s t with
   |false=>rfl
   |true=>exact absurd (Q5 hq) h
  simp[h,this]
theorem B09(args:List AV):A12 args=D5 (A0E 0 args):=by
 have key:∀(l:List AV) (i t:Nat),D5 (A0E i l) t=if i<=t then l.getD (t-i) .junk else .junk:=by
  intro l
  induction l with
  |nil=>intro i t;simp[A0E,D5]
  |cons a l ih=>
   intro i t
   simp only[A0E,D5]
   by_cases h:t=i
   ·subst h;simp
   ·have:Nat.beq t i=false:=by
     cases hq:Nat.beq t i with
     |false=>rfl
     |true=>exact absurd (Q5 hq) h
    rw[this,cond_false,ih]
    by_cases h2:i<=t
    ·rw[if_pos h2,if_pos (by omega),show t-i=(t-(i+1))+1 by omega]
     simp
    ·rw[if_neg h2,if_neg (by omega)]
 funext t
 rw[key]
 simp[A12]
section
variable {P:Program}{n nb:Nat}{L:List (Nat×AV)}{os os1:List AO}{rest:List D4}{K:C7->List AO->Prop}{t:Nat}{v:AV}{x y z:B7}
theorem C1.walk(hm:P.follows .mixedOrders=true){f n:Nat}{ic:IC}{rs:List RV}(h:C1 P f n ic rs){args:List AV}{bs:List AO}(hargs:args.length<=n){Q:AV->List AO->Prop}
  (hw:V9 P n bs.length ic {norm:=v8 bs.length Q rs,exit:=λ_ _ _=>False,ret:=v8 bs.length Q rs} (D5 (A0E 0 args)) bs):B4 P f args bs Q:=by
 rw[<- B09] at hw
 exact h.intro hm hargs hw
theorem C1.walkP(hm:P.follows .mixedOrders=true){f n:Nat}{ic:IC}{rs:List RV}(h:C1 P f n ic rs){args:List AV}(hargs:args.length<=n){r:AV}
  (hw:V9 P n 0 ic {norm:=v8 0 (λr' os=>r'=r/\os=[]) rs,exit:=λ_ _ _=>False,ret:=v8 0 (λr' os=>r'=r/\os=[]) rs} (D5 (A0E 0 args)) []):Pure P f args r:=
 h.walk hm hargs hw
theorem D3z{a:Int}(h1:-9223372036854775808<=a)(h2:a<=9223372036854775807):IntKind.i64.wrap a=a:=by
 rw[IntKind.wrap_i64];omega
section bin
variable {k:IntKind}{a b:Int}(hx:B9 (D5 L) x=.d (.int k a))(hy:B9 (D5 L) y=.d (.int k b))
include hx hy
end bin
section str
variable {a b:List UInt8}(hx:B9 (D5 L) x=.d (.str a))(hy:B9 (D5 L) y=.d (.str b))
include hx hy
end str
end
end Go.Bi
