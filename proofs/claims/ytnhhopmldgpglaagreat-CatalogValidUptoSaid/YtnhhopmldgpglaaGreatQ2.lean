/- Texts of this claim, joined. No condition. -/
import Derived.Test.YtnhhopmldgpglaaGreatQ1
import Derived.LoopN
set_option linter.unusedSimpArgs false
set_option linter.unusedVariables false
set_option maxRecDepth 10000
set_option maxHeartbeats 4000000
section
namespace Go.Proofs
open Go.Bi
def S4(op n:Int):Bool×Bool:=
 if op=1\/op=2 then (decide (n=0),true)
 else if op=4\/op=18\/op=20\/op=21 then (decide (n=1),true)
 else if op=7\/op=8\/op=9\/op=10\/op=11\/op=12\/op=13\/op=14\/op=15\/op=16\/op=17\/op=19 then (decide (n=2),true)
 else if op=5\/op=6 then (decide (2<=n),true)
 else if op=22 then (decide (n=3),true)
 else if op=23 then (decide (1<=n),true)
 else if op=24 then (decide (n=4),true) else (false,false)
theorem B0U(op n:Int):Pure Tryz.prog A8X [.d (eI op),.d (eI n)] (.tup [.d (.bool (S4 op n).1),.d (.bool (S4 op n).2)]):=by
 refine C33.go A6 rfl ?_
 repeat' first|refine st ?_|(with_reducible first|apply A5|apply A4)<;>intro _
 all_goals first
  |(subst_vars;rfl)
  |(simp only[S4];rw[if_neg (by omega),if_neg (by omega),if_neg (by omega),if_neg (by omega),if_neg (by omega),if_neg (by omega),if_neg (by omega)])
def j9(op:Int):Int×Int:=
 if op=1\/op=2 then (0,0)
 else if op=4\/op=18\/op=20\/op=21 then (1,1)
 else if op=7\/op=8\/op=9\/op=10\/op=11\/op=12\/op=13\/op=14\/op=15\/op=16\/op=17\/op=19 then (2,2)
 else if op=5\/op=6 then (2,1099511627776)
 else if op=22 then (3,3)
 else if op=23 then (1,1099511627776)
 else if op=24 then (4,4) else (-1,0)
theorem B0Z(op:Int):Pure Tryz.prog A8C [.d (eI op)] (.tup [.d (eI (j9 op).1),.d (eI (j9 op).2)]):=by
 refine C22.go A6 rfl ?_
 repeat' first|refine st ?_|(with_reducible first|apply A5|apply A4)<;>intro _
 all_goals first
  |(subst_vars;rfl)
  |(simp only[j9];rw[if_neg (by omega),if_neg (by omega),if_neg (by omega),if_neg (by omega),if_neg (by omega),if_neg (by omega),if_neg (by omega)])
theorem B5W(op:Int)(k:Nat)(hk:k<=1048576):(S4 op k).1=decide (¬((j9 op).1<0\/(k:Int)<(j9 op).1\/(j9 op).2<(k:Int)))/\(S4 op k).2=decide (¬(j9 op).1<0):=by
 unfold S4 j9
 repeat' split
 all_goals (constructor<;>(rw[A08];simp;try omega))
def M8(op n:Int)(v:Vl)(name:List UInt8)(k:Nat):Bool:=
 (S4 op k).1&&decide (name=[])&&(if op=1 then decide (n=0)&&A0u v else if op=24 then decide (0<=n/\n<13)&&decide (v=U6) else if op=2 then decide (v=U6) else decide (n=0)&&decide (v=U6))
theorem A3f(v:Vl):decide (v=U6)=(decide (v.k=0)&&(decide (v.n=0)&&decide (v.s=[]))):=by
 rw[A08]
 simp only[decide_eq_true_eq,O9,B0D]
 exact Iff.rfl
theorem B7e(n:Int)(v:Vl)(k:Nat)(h:(S4 1 k).1=true):M8 1 n v [] k=(decide (n=0)&&A0u v):=by unfold M8;rw[h];rfl
theorem B7g(n:Int)(v:Vl)(k:Nat)(h:(S4 24 k).1=true):M8 24 n v [] k=(decide (0<=n/\n<13)&&decide (v=U6)):=by unfold M8;rw[h];rfl
theorem B7f(n:Int)(v:Vl)(k:Nat)(h:(S4 2 k).1=true):M8 2 n v [] k=decide (v=U6):=by unfold M8;rw[h];rfl
theorem B7h(op n:Int)(v:Vl)(k:Nat)(h:(S4 op k).1=true)(h1:op≠1)(h2:op≠24)(h3:op≠2):M8 op n v [] k=(decide (n=0)&&decide (v=U6)):=by unfold M8;rw[h,if_neg h1,if_neg h2,if_neg h3];rfl
theorem C0V(op n:Int)(v:Vl)(name:List UInt8)(d:D)(es:List (List D))(hd:B5 d es)(hs:v.s.length<=1048576)(hl:es.length<=1048576):Pure Tryz.prog B5i [eX op n v name d] (.d (.bool (M8 op n v name es.length))):=by
 refine C35.go A6 rfl ?_
 have hV:=B1g v (by omega)
 have hC:=B0U op es.length
 cases hc:(S4 op es.length).1 with
 |false=>
  have hr:M8 op n v name es.length=false:=by unfold M8;rw[hc];rfl
  rw[hr]
  rw[hc] at hC
  repeat' first|refine st ?_|((with_reducible apply D3);conv=>whnf)|((with_reducible first|apply A8|apply A7);(·exact hC))|(with_reducible first|apply A5|apply A4)<;>intro _
 |true=>
 rw[hc] at hC
 by_cases hn:name=[]
 rotate_left
 ·have hr:M8 op n v name es.length=false:=by unfold M8;rw[decide_eq_false hn,Bool.and_false];rfl
  rw[hr]
  repeat' first|refine st ?_|((with_reducible apply D3);conv=>whnf)|((with_reducible first|apply A8|apply A7);(·exact hC))|(with_reducible first|apply A5|apply A4)<;>intro _
  all_goals rfl
 subst hn
 by_cases h1:op=1
 ·subst h1
  obtain⟨r,hr⟩:∃r,r=M8 1 n v [] es.length:=⟨_,rfl⟩
  rw[<- hr]
  rw[B7e _ _ _ hc] at hr
  by_cases hn:n=0
  ·rw[decide_eq_true hn] at hr
   repeat' first|refine st ?_|((with_reducible apply D3);conv=>whnf)|((with_reducible first|apply A8|apply A7);(·first|exact hC|exact hV))|(with_reducible first|apply A5|apply A4)<;>intro _
   all_goals (rw[hr];try rfl)
  ·rw[decide_eq_false hn] at hr
   repeat' first|refine st ?_|((with_reducible apply D3);conv=>whnf)|((with_reducible first|apply A8|apply A7);(·first|exact hC|exact hV))|(with_reducible first|apply A5|apply A4)<;>intro _
   all_goals (rw[hr];try rfl)
 by_cases h2:op=24
 ·subst h2
  obtain⟨r,hr⟩:∃r,r=M8 24 n v [] es.length:=⟨_,rfl⟩
  rw[<- hr]
  rw[B7g _ _ _ hc,A3f] at hr
  by_cases hn:0<=n/\n<13
  ·rw[decide_eq_true hn] at hr
   obtain⟨n1,n2⟩:=hn
   have n3:¬n<0:=by omega
   have n4:¬13<=n:=by omega
   repeat' first|refine st ?_|((with_reducible apply D3);conv=>whnf)|((with_reducible first|apply A8|apply A7);(·first|exact hC|exact hV))|(with_reducible first|apply A5|apply A4)<;>intro _
   all_goals (rw[hr];try (clear hr;simp_all[U6];try omega))
  ·rw[decide_eq_false hn] at hr
   repeat' first|refine st ?_|((with_reducible apply D3);conv=>whnf)|((with_reducible first|apply A8|apply A7);(·first|exact hC|exact hV))|(with_reducible first|apply A5|apply A4)<;>intro _
   all_goals (rw[hr];try (clear hr;simp_all[U6];try omega))
 by_cases h3:op=2
 ·subst h3
  obtain⟨r,hr⟩:∃r,r=M8 2 n v [] es.length:=⟨_,rfl⟩
  rw[<- hr]
  rw[B7f _ _ _ hc,A3f] at hr
  repeat' first|refine st ?_|((with_reducible apply D3);conv=>whnf)|((with_reducible first|apply A8|apply A7);(·first|exact hC|exact hV))|(with_reducible first|apply A5|apply A4)<;>intro _
  all_goals (rw[hr];try rfl)
 obtain⟨r,hr⟩:∃r,r=M8 op n v [] es.length:=⟨_,rfl⟩
 rw[<- hr]
 rw[B7h _ _ _ _ hc h1 h2 h3,A3f] at hr
 by_cases hn:n=0
 ·rw[decide_eq_true hn] at hr
  repeat' first|refine st ?_|((with_reducible apply D3);conv=>whnf)|((with_reducible first|apply A8|apply A7);(·first|exact hC|exact hV))|(with_reducible first|apply A5|apply A4)<;>intro _
  all_goals (rw[hr];try rfl)
 ·rw[decide_eq_false hn] at hr
  repeat' first|refine st ?_|((with_reducible apply D3);conv=>whnf)|((with_reducible first|apply A8|apply A7);(·first|exact hC|exact hV))|(with_reducible first|apply A5|apply A4)<;>intro _
  all_goals (rw[hr];try rfl)
theorem C12(op n:Int)(v:Vl)(name:List UInt8)(d:D)(es:List (List D))(hd:B5 d es)(hs:v.s.length<=1048576)(hl:es.length<=1048576):Pure Tryz.prog B4y [eX op n v name d] (.d (.bool (M8 op n v name es.length))):=by
 refine C25.go A6 rfl ?_
 have hV:=B1a v (by omega)
 have hC:=B0Z op
 have hac:=(B5W op es.length hl).1
 cases hc:(S4 op es.length).1 with
 |false=>
  have hr:M8 op n v name es.length=false:=by unfold M8;rw[hc];rfl
  rw[hr]
  rw[hc] at hac
  have hac:(j9 op).1<0\/(es.length:Int)<(j9 op).1\/(j9 op).2<(es.length:Int):=by
   have:=of_decide_eq_false hac.symm
   omega
  repeat' first|refine st ?_|((with_reducible apply D3);conv=>whnf)|((with_reducible first|apply A8|apply A7);(·exact hC))|(with_reducible first|apply A5|apply A4)<;>intro _
  all_goals first|rfl|(exfalso;omega)
 |true=>
 rw[hc] at hac
 have hac:=of_decide_eq_true hac.symm
 have a1:¬(j9 op).1<0:=by omega
 have a2:¬(es.length:Int)<(j9 op).1:=by omega
 have a3:¬(j9 op).2<(es.length:Int):=by omega
 clear hac
 by_cases hn:name=[]
 rotate_left
 ·have hr:M8 op n v name es.length=false:=by unfold M8;rw[decide_eq_false hn,Bool.and_false];rfl
  rw[hr]
  repeat' first|refine st ?_|((with_reducible apply D3);conv=>whnf)|((with_reducible first|apply A8|apply A7);(·exact hC))|(with_reducible first|apply A5|apply A4)<;>intro _
  all_goals rfl
 subst hn
 by_cases h1:op=1
 ·subst h1
  obtain⟨r,hr⟩:∃r,r=M8 1 n v [] es.length:=⟨_,rfl⟩
  rw[<- hr]
  rw[B7e _ _ _ hc] at hr
  by_cases hn:n=0
  ·rw[decide_eq_true hn] at hr
   repeat' first|refine st ?_|((with_reducible apply D3);conv=>whnf)|((with_reducible first|apply A8|apply A7);(·first|exact hC|exact hV|exact A2I))|(with_reducible first|apply A5|apply A4)<;>intro _
   all_goals (rw[hr];try rfl)
  ·rw[decide_eq_false hn] at hr
   repeat' first|refine st ?_|((with_reducible apply D3);conv=>whnf)|((with_reducible first|apply A8|apply A7);(·first|exact hC|exact hV|exact A2I))|(with_reducible first|apply A5|apply A4)<;>intro _
   all_goals (rw[hr];try rfl)
 by_cases h2:op=24
 ·subst h2
  obtain⟨r,hr⟩:∃r,r=M8 24 n v [] es.length:=⟨_,rfl⟩
  rw[<- hr]
  rw[B7g _ _ _ hc,A3f] at hr
  by_cases hn:0<=n/\n<13
  ·rw[decide_eq_true hn] at hr
   obtain⟨n1,n2⟩:=hn
   have n3:¬n<0:=by omega
   have n4:¬13<=n:=by omega
   repeat' first|refine st ?_|((with_reducible apply D3);conv=>whnf)|((with_reducible first|apply A8|apply A7);(·first|exact hC|exact hV|exact A2I))|(with_reducible first|apply A5|apply A4)<;>intro _
   all_goals (rw[hr];try (clear hr;simp_all[U6];try omega))
  ·rw[decide_eq_false hn] at hr
   repeat' first|refine st ?_|((with_reducible apply D3);conv=>whnf)|((with_reducible first|apply A8|apply A7);(·first|exact hC|exact hV|exact A2I))|(with_reducible first|apply A5|apply A4)<;>intro _
   all_goals (rw[hr];try (clear hr;simp_all[U6];try omega))
 by_cases h3:op=2
 ·subst h3
  obtain⟨r,hr⟩:∃r,r=M8 2 n v [] es.length:=⟨_,rfl⟩
  rw[<- hr]
  rw[B7f _ _ _ hc,A3f] at hr
  repeat' first|refine st ?_|((with_reducible apply D3);conv=>whnf)|((with_reducible first|apply A8|apply A7);(·first|exact hC|exact hV|exact A2I))|(with_reducible first|apply A5|apply A4)<;>intro _
  all_goals (rw[hr];try rfl)
 obtain⟨r,hr⟩:∃r,r=M8 op n v [] es.length:=⟨_,rfl⟩
 rw[<- hr]
 rw[B7h _ _ _ _ hc h1 h2 h3,A3f] at hr
 by_cases hn:n=0
 ·rw[decide_eq_true hn] at hr
  repeat' first|refine st ?_|((with_reducible apply D3);conv=>whnf)|((with_reducible first|apply A8|apply A7);(·first|exact hC|exact hV|exact A2I))|(with_reducible first|apply A5|apply A4)<;>intro _
  all_goals (rw[hr];try rfl)
 ·rw[decide_eq_false hn] at hr
  repeat' first|refine st ?_|((with_reducible apply D3);conv=>whnf)|((with_reducible first|apply A8|apply A7);(·first|exact hC|exact hV|exact A2I))|(with_reducible first|apply A5|apply A4)<;>intro _
  all_goals (rw[hr];try rfl)
def w64(n:Int):Int:=IntKind.i64.wrap n
theorem A7m{α β:Type}(f:β->α->β)(b:β)(l:List α)(i:Nat)(x:α)(h:l[i]?=some x):(l.take (i+1)).foldl f b=f ((l.take i).foldl f b) x:=by
 rw[P5,h];simp
theorem A9v{op:Int}{k:Nat}(h:(S4 op k).1=true):((op=1\/op=2)/\k=0)\/((op=4\/op=18\/op=20\/op=21)/\k=1)\/((7<=op/\op<=17\/op=19)/\k=2)\/((op=5\/op=6)/\2<=k)\/(op=22/\k=3)\/(op=23/\1<=k)\/(op=24/\k=4):=by
 unfold S4 at h
 repeat' split at h
 all_goals (simp at h)
 all_goals omega
theorem A9M{op n:Int}{v:Vl}{name:List UInt8}{k:Nat}(h:M8 op n v name k=true):(S4 op k).1=true:=by
 unfold M8 at h
 simp only[O9] at h
 exact h.1.1
abbrev z3:List D:=[eI 0,eI 0,.str []]
def A04(k:Int):List Int->Int×Bool
 |[]=>(k,true)
 |x::l=>if x=0 then A04 k l else if k≠0/\k≠x then (0,false) else A04 x l
def i7(l:List Int):Int×Bool:=A04 0 l
theorem B9w{k:Int}{l:List Int}{i:Nat}{x:Int}(h:l[i]?=some x):A04 k (l.drop i)=if x=0 then A04 k (l.drop (i+1)) else if k≠0/\k≠x then (0,false) else A04 x (l.drop (i+1)):=by
 obtain⟨hlt,he⟩:=B2.1 h
 rw[V5 hlt,he];rfl
theorem A8f(l:List Int)(hl:l.length<=1048577)(d:D)(hd:B5 d (A0 l)):Pure Tryz.prog B5k [.d d] (.tup [.d (eI (i7 l).1),.d (.bool (i7 l).2)]):=by
 refine C37.go A6 rfl ?_
 have h1:=B6 l
 have hm:=D2 l
 repeat' first|refine st ?_|((with_reducible apply D3);conv=>whnf)|(with_reducible first|apply A5|apply A4)<;>intro _
 refine I8 A6 C5N C4H (λ(i:Nat) (k:Int)=>[.d (eI k),.d (eI i)]) (λi k=>[]) (λi k=>i<=l.length/\i7 l=A04 k (l.drop i)) (λi _=>l.length-i) 0 0 rfl rfl rfl rfl (λ_ _ _=>⟨rfl,rfl⟩) rfl ⟨by omega,rfl⟩ ?_
 repeat' first|refine st ?_|((with_reducible apply D3);conv=>whnf)|(with_reducible first|apply A5|apply A4)<;>intro _
 intro i k ⟨h2,h3⟩
 cases hx:l[i]? with
 |some x=>
  have hlt:=(B2.1 hx).1
  have hg:=J9 hx
  rw[B9w hx] at h3
  by_cases hx0:x=0
  ·rw[if_pos hx0] at h3
   repeat' first|refine st ?_|((with_reducible apply D3);conv=>whnf)|(with_reducible first|apply A5|apply A4)<;>intro _
   exact⟨i+1,_,rfl,rfl,rfl,by omega,by omega,h3⟩
  ·rw[if_neg hx0] at h3
   by_cases hk:k≠0/\k≠x
   ·rw[if_pos hk] at h3
    rw[h3]
    obtain⟨hk1,hk2⟩:=hk
    repeat' first|refine st ?_|((with_reducible apply D3);conv=>whnf)|(with_reducible first|apply A5|apply A4)<;>intro _
    all_goals rfl
   ·rw[if_neg hk] at h3
    by_cases hk0:k=0
    ·repeat' first|refine st ?_|((with_reducible apply D3);conv=>whnf)|(with_reducible first|apply A5|apply A4)<;>intro _
     exact⟨i+1,_,rfl,rfl,rfl,by omega,by omega,h3⟩
    ·have hkx:k=x:=by omega
     repeat' first|refine st ?_|((with_reducible apply D3);conv=>whnf)|(with_reducible first|apply A5|apply A4)<;>intro _
     exact⟨i+1,_,rfl,rfl,rfl,by omega,by omega,h3⟩
 |none=>
  have hge:=D1.1 hx
  rw[R1 hge] at h3
  rw[h3]
  repeat' first|refine st ?_|((with_reducible apply D3);conv=>whnf)|(with_reducible first|apply A5|apply A4)<;>intro _
  all_goals rfl
theorem B10(l:List Int)(hl:l.length<=1048577)(d:D)(hd:B5 d (A0 l)):Pure Tryz.prog B4z [.d d] (.tup [.d (eI (i7 l).1),.d (.bool (i7 l).2)]):=by
 refine C26.go A6 rfl ?_
 have h1:=B6 l
 have hm:=D2 l
 repeat' first|refine st ?_|((with_reducible apply D3);conv=>whnf)|(with_reducible first|apply A5|apply A4)<;>intro _
 refine I8 A6 C52 C3W (λ(i:Nat) (k:Int)=>[.d (eI k),.d (eI i)]) (λi k=>[]) (λi k=>i<=l.length/\i7 l=A04 k (l.drop i)) (λi _=>l.length-i) 0 0 rfl rfl rfl rfl (λ_ _ _=>⟨rfl,rfl⟩) rfl ⟨by omega,rfl⟩ ?_
 repeat' first|refine st ?_|((with_reducible apply D3);conv=>whnf)|(with_reducible first|apply A5|apply A4)<;>intro _
 intro i k ⟨h2,h3⟩
 cases hx:l[i]? with
 |some x=>
  have hlt:=(B2.1 hx).1
  have hg:=J9 hx
  rw[B9w hx] at h3
  by_cases hx0:x=0
  ·rw[if_pos hx0] at h3
   repeat' first|refine st ?_|((with_reducible apply D3);conv=>whnf)|(with_reducible first|apply A5|apply A4)<;>intro _
   exact⟨i+1,_,rfl,rfl,rfl,by omega,by omega,h3⟩
  ·rw[if_neg hx0] at h3
   by_cases hk:k≠0/\k≠x
   ·rw[if_pos hk] at h3
    rw[h3]
    obtain⟨hk1,hk2⟩:=hk
    repeat' first|refine st ?_|((with_reducible apply D3);conv=>whnf)|(with_reducible first|apply A5|apply A4)<;>intro _
    all_goals rfl
   ·rw[if_neg hk] at h3
    by_cases hk0:k=0
    ·repeat' first|refine st ?_|((with_reducible apply D3);conv=>whnf)|(with_reducible first|apply A5|apply A4)<;>intro _
     exact⟨i+1,_,rfl,rfl,rfl,by omega,by omega,h3⟩
    ·have hkx:k=x:=by omega
     repeat' first|refine st ?_|((with_reducible apply D3);conv=>whnf)|(with_reducible first|apply A5|apply A4)<;>intro _
     exact⟨i+1,_,rfl,rfl,rfl,by omega,by omega,h3⟩
 |none=>
  have hge:=D1.1 hx
  rw[R1 hge] at h3
  rw[h3]
  repeat' first|refine st ?_|((with_reducible apply D3);conv=>whnf)|(with_reducible first|apply A5|apply A4)<;>intro _
  all_goals rfl
def Z7(l:List Int)(c:Int):Bool:=l.all λx=>decide (x=c\/x=0)
theorem B9x(c:Int)(hc:c≠0):∀(l:List Int)(k:Int),((A04 k (l++[c])).2&&decide ((A04 k (l++[c])).1=c))=(decide (k=0\/k=c)&&Z7 l c)
 |[],k=>by
  simp only[A1H,A04,if_neg hc,Z7,List.all_nil,Bool.and_true]
  by_cases h:k≠0/\k≠c
  ·rw[if_pos h,decide_eq_false (show ¬(k=0\/k=c) by omega)];rfl
  ·rw[if_neg h,decide_eq_true (show k=0\/k=c by omega)];simp
 |x::l,k=>by
  have ih:=B9x c hc l
  simp only[A25,A04,Z7,m6] at ih ⊢
  by_cases hx:x=0
  ·rw[if_pos hx,ih k,decide_eq_true (show x=c\/x=0 from .inr hx)];simp
  ·rw[if_neg hx]
   by_cases h:k≠0/\k≠x
   ·rw[if_pos h]
    by_cases hxc:x=c
    ·rw[decide_eq_false (show ¬(k=0\/k=c) by omega)];simp
    ·rw[decide_eq_false (show ¬(x=c\/x=0) by omega)];simp
   ·rw[if_neg h,ih x]
    by_cases hxc:x=c
    ·rw[decide_eq_true (show x=0\/x=c from .inr hxc),decide_eq_true (show x=c\/x=0 from .inl hxc),decide_eq_true (show k=0\/k=c by omega)];simp
    ·rw[decide_eq_false (show ¬(x=0\/x=c) by omega),decide_eq_false (show ¬(x=c\/x=0) by omega)];simp
theorem C0t:Pure Tryz.prog W5 [.d .nil] (.d .nil):=by
 refine A6D.go A6 rfl ?_
 repeat' first|refine st ?_|((with_reducible apply D3);conv=>whnf)|(with_reducible first|apply A5|apply A4)<;>intro _
theorem C0u(es:List (List D))(hl:es.length<=1048577)(hm:∀e∈es,e.length=1):B4 Tryz.prog W5 [.d (.sl es)] [] (λr os=>r=.arr 0 es.length/\os=[.arr es 1 0 false]):=by
 refine A6D.goO A6 rfl ?_
 have h0:([]:List (List D)).length=0:=rfl
 have h00:(([]:List (List D))++es).length=es.length:=rfl
 have hb:(([]:List (List D)).length+es.length)*8<=140737488355328/\([]:List (List D)).length+es.length<=9223372036854775807:=by rw[h0];omega
 repeat' first|refine st ?_|((with_reducible apply D3);conv=>whnf)|(with_reducible first|apply A5|apply A4)<;>intro _
 all_goals (refine⟨rfl,?_⟩;cases es<;>rfl)
theorem C9Y(l:List Int)(x:Int):A0 l++[[eI x]]=A0 (l++[x]):=by simp[A0]
theorem A6u(l:List Int)(hl:l.length<=1048576)(d:D)(hd:B5 d (A0 l))(c:Int)(hc:c≠0):Pure Tryz.prog B5h [.d d,.d (eI c)] (.d (.bool (Z7 l c))):=by
 refine C31.go A6 rfl ?_
 have h1:=B6 l
 have hm:=D2 l
 have hU:=A8f (l++[c]) (by simp;omega) (.sl (A0 (l++[c]))) L4
 have hres:=B9x c hc l 0
 rw[show decide ((0:Int)=0\/(0:Int)=c)=true from rfl,s5] at hres
 rw[<- hres]
 unfold i7 at hU
 rw[<- C9Y] at hU
 obtain⟨x,b⟩:∃x b,A04 0 (l++[c])=(x,b):=⟨_,_,rfl⟩
 rcases hd with ⟨rfl,he⟩|rfl
 ·rw[he] at hU
  repeat' first|refine st ?_|((with_reducible apply D3);conv=>whnf)|((with_reducible first|apply A8|apply A7);(·first|exact C0t|exact hU))|(with_reducible first|apply A5|apply A4)<;>intro _
  all_goals simp[*]
 ·have hC:=C0u (A0 l) (by omega) hm
  have ha:(A0 l++[[eI c]]).length=l.length+1:=by simp[h1]
  repeat' first|refine st ?_|((with_reducible apply D3);conv=>whnf)|((with_reducible first|apply A8|apply A7);(·exact hU))|((with_reducible first|apply I7|apply D8);(·exact hC);(try rintro _ _ ⟨rfl,rfl⟩))|((with_reducible apply J4);(·exact hC))|((with_reducible apply I5);refine st ?_;(with_reducible apply J2);(·exact rfl);refine st ?_;(with_reducible apply D8);(·exact hC);(try rintro _ _ ⟨rfl,rfl⟩))|(with_reducible first|apply A5|apply A4)<;>intro _
  all_goals simp[*]
theorem A6v(l:List Int)(hl:l.length<=1048577)(d:D)(hd:B5 d (A0 l))(c:Int):Pure Tryz.prog B4B [.d d,.d (eI c)] (.d (.bool (Z7 l c))):=by
 refine C29.go A6 rfl ?_
 have h1:=B6 l
 have hm:=D2 l
 repeat' first|refine st ?_|((with_reducible apply D3);conv=>whnf)|(with_reducible first|apply A5|apply A4)<;>intro _
 refine F3 A6 C54 C3Y (λ(i:Nat)=>[.d (eI i)]) (λi=>[]) (λi=>i<=l.length/\(l.take i).all (λx=>decide (x=c\/x=0))=true) (λi=>l.length-i) 0 rfl rfl rfl rfl (λ_ _=>⟨rfl,rfl⟩) rfl ⟨by omega,rfl⟩ ?_
 repeat' first|refine st ?_|((with_reducible apply D3);conv=>whnf)|(with_reducible first|apply A5|apply A4)<;>intro _
 intro i ⟨h2,h3⟩
 cases hx:l[i]? with
 |some x=>
  have hlt:=(B2.1 hx).1
  have hg:=J9 hx
  by_cases hk:x=c
  ·repeat' first|refine st ?_|((with_reducible apply D3);conv=>whnf)|(with_reducible first|apply A5|apply A4)<;>intro _
   refine⟨i+1,rfl,rfl,rfl,by omega,by omega,?_⟩
   rw[A2Q hx,h3,decide_eq_true (show x=c\/x=0 from .inl hk)];rfl
  ·by_cases hk0:x=0
   ·repeat' first|refine st ?_|((with_reducible apply D3);conv=>whnf)|(with_reducible first|apply A5|apply A4)<;>intro _
    refine⟨i+1,rfl,rfl,rfl,by omega,by omega,?_⟩
    rw[A2Q hx,h3,decide_eq_true (show x=c\/x=0 from .inr hk0)];rfl
   ·repeat' first|refine st ?_|((with_reducible apply D3);conv=>whnf)|(with_reducible first|apply A5|apply A4)<;>intro _
    rw[Z7,A3A hx (decide_eq_false (show ¬(x=c\/x=0) by omega))]
 |none=>
  have hge:=D1.1 hx
  rw[L0 hge] at h3
  repeat' first|refine st ?_|((with_reducible apply D3);conv=>whnf)|(with_reducible first|apply A5|apply A4)<;>intro _
  rw[Z7,h3]
def o9(op:Int)(v:Vl)(l:List Int):Int×Bool:=
 if op=1 then (v.k,true)
 else if op=4\/op=5\/op=6 then (3,Z7 l 3)
 else if op=7\/op=8\/op=9\/op=10\/op=11\/op=12 then (3,(i7 l).2)
 else if op=19 then (2,Z7 l 2)
 else if op=20 then (1,Z7 l 2)
 else if op=21 then (3,true)
 else if op=22 then ((i7 (l.drop 1)).1,(i7 (l.drop 1)).2&&Z7 (l.take 1) 3)
 else if op=23 then i7 l
 else if op=24 then (3,Z7 l 1) else (1,Z7 l 1)
theorem B6H(l:List Int)(i:Nat):(A0 l).drop i=A0 (l.drop i):=by simp[A0]
theorem B6I(l:List Int)(i:Nat):(A0 l).take i=A0 (l.take i):=by simp[A0]
theorem B0W(op n:Int)(v:Vl)(name:List UInt8)(d0:D)(l:List Int)(hl:l.length<=1048576)(d:D)(hd:B5 d (A0 l))(h22:op=22->1<=l.length):Pure Tryz.prog B5j [eX op n v name d0,.d d] (.tup [.d (eI (o9 op v l).1),.d (.bool (o9 op v l).2)]):=by
 refine C36.go A6 rfl ?_
 have h1:=B6 l
 have hm:=D2 l
 by_cases h22':op=22
 ·subst h22'
  have hl1:=h22 rfl
  rcases hd with ⟨rfl,he⟩|rfl
  ·rw[he] at h1;simp at h1;omega
  have hU:=A8f (l.drop 1) (by simp;omega) (.sl (A0 (l.drop 1))) L4
  have hA:=A6u (l.take 1) (by simp;omega) (.sl (A0 (l.take 1))) L4 3 (by decide)
  have hcut:((A0 l).drop (1:Int).toNat).take (((A0 l).length:Int).toNat-(1:Int).toNat)=A0 (l.drop 1):=by
   rw[<- B6H,show(1:Int).toNat=1 from rfl,L0]
   simp
  have hcut2:((A0 l).drop ((0:Nat):Int).toNat).take ((1:Int).toNat-((0:Nat):Int).toNat)=A0 (l.take 1):=by
   rw[<- B6I];rfl
  rw[show o9 22 v l=((i7 (l.drop 1)).1,(i7 (l.drop 1)).2&&Z7 (l.take 1) 3) from rfl]
  obtain⟨⟨k,b⟩,hkb⟩:∃kb,i7 (l.drop 1)=kb:=⟨_,rfl⟩
  rw[hkb] at hU ⊢
  obtain⟨z,hz⟩:∃z,Z7 (l.take 1) 3=z:=⟨_,rfl⟩
  rw[hz] at hA ⊢
  obtain⟨e1,he1⟩:∃e1,e1=A0 (l.drop 1):=⟨_,rfl⟩
  obtain⟨e2,he2⟩:∃e2,e2=A0 (l.take 1):=⟨_,rfl⟩
  rw[<- he1] at hU hcut
  rw[<- he2] at hA hcut2
  have hel:((A0 l).length:Int)=l.length:=by rw[h1]
  obtain⟨es,hes⟩:∃es,es=A0 l:=⟨_,rfl⟩
  rw[<- hes] at hcut hcut2 hel hm h1 ⊢
  cases b with
  |false=>
   repeat' first|refine st ?_|(with_reducible first|apply A5|apply A4)<;>intro _
   all_goals (try rw[hcut])
   repeat' first|refine st ?_|((with_reducible first|apply A8|apply A7);(·exact hU))|(with_reducible first|apply A5|apply A4)<;>intro _
   all_goals rfl
  |true=>
   repeat' first|refine st ?_|(with_reducible first|apply A5|apply A4)<;>intro _
   all_goals (try rw[hcut])
   repeat' first|refine st ?_|((with_reducible first|apply A8|apply A7);(·exact hU))|(with_reducible first|apply A5|apply A4)<;>intro _
   all_goals (try rw[hcut2])
   repeat' first|refine st ?_|((with_reducible first|apply A8|apply A7);(·exact hA))|(with_reducible first|apply A5|apply A4)<;>intro _
   all_goals rfl
 have A3:=A6u l hl d hd 3 (by decide)
 have A2:=A6u l hl d hd 2 (by decide)
 have A1:=A6u l hl d hd 1 (by decide)
 have U:=A8f l (by omega) d hd
 repeat' first|refine st ?_|((with_reducible first|apply A8|apply A7);(·first|exact A3|exact A2|exact A1|exact U))|(with_reducible first|apply A5|apply A4)<;>intro _
 all_goals first
  |(subst_vars;rfl)
  |(simp only[o9];rw[if_neg (by omega),if_neg (by omega),if_neg (by omega),if_neg (by omega),if_neg (by omega),if_neg (by omega),if_neg (by omega),if_neg (by omega),if_neg (by omega)])
theorem C1a(n:Int)(v:Vl)(name:List UInt8)(d0:D)(l ks:List Int)(d:D)(hd:B5 d (A0 l))(dk:D)(hdk:B5 dk (A0 ks))(k:Int)(h0:0<=n)(hk:ks[n.toNat]?=some k):Pure Tryz.prog A8F [eX 2 n v name d0,.d d,.d dk] (.tup [.d (eI k),.d (.bool true)]):=by
 refine B1l.go A6 rfl ?_
 have h1:=B6 ks
 have hm:=D2 ks
 have hg:=J9 hk
 have hlt:=(B2.1 hk).1
 have hn2:n<(A0 ks).length:=by omega
 repeat' first|refine st ?_|(with_reducible first|apply A5|apply A4)<;>intro _
 all_goals rfl
theorem C19(op n:Int)(v:Vl)(name:List UInt8)(d0:D)(l:List Int)(hl:l.length<=1048576)(d:D)(hd:B5 d (A0 l))(dk:D)(h22:op=22->1<=l.length)(hop:op=1\/4<=op/\op<=24)(h2:op≠2):Pure Tryz.prog A8F [eX op n v name d0,.d d,.d dk] (.tup [.d (eI (o9 op v l).1),.d (.bool (o9 op v l).2)]):=by
  refine B1l.go A6 rfl ?_
  have h1:=B6 l
  have hm:=D2 l
  by_cases h22':op=22
  · subst h22'
    have hl1:=h22 rfl
    rcases hd with ⟨rfl,he⟩|rfl
    · rw[he] at h1;simp at h1;omega
    have hU:=B10 (l.drop 1) (by simp;omega) (.sl (A0 (l.drop 1))) L4
    have hA:=A6v (l.take 1) (by simp;omega) (.sl (A0 (l.take 1))) L4 3
    have hcut:((A0 l).drop (1:Int).toNat).take (((A0 l).length:Int).toNat-(1:Int).toNat)=A0 (l.drop 1):=by
      rw[<- B6H,show(1:Int).toNat=1 from rfl,L0]
      simp
    have hcut2:((A0 l).drop ((0:Nat):Int).toNat).take ((1:Int).toNat-((0:Nat):Int).toNat)=A0 (l.take 1):=by
      rw[<- B6I];rfl
    rw[show o9 22 v l=((i7 (l.drop 1)).1,(i7 (l.drop 1)).2&&Z7 (l.take 1) 3) from rfl]
    obtain⟨⟨k,b⟩,hkb⟩:∃kb,i7 (l.drop 1)=kb:=⟨_,rfl⟩
    rw[hkb] at hU ⊢
    obtain⟨z,hz⟩:∃z,Z7 (l.take 1) 3=z:=⟨_,rfl⟩
    rw[hz] at hA ⊢
    obtain⟨e1,he1⟩:∃e1,e1=A0 (l.drop 1):=⟨_,rfl⟩
    obtain⟨e2,he2⟩:∃e2,e2=A0 (l.take 1):=⟨_,rfl⟩
    rw[<- he1] at hU hcut
    rw[<- he2] at hA hcut2
    have hel:((A0 l).length:Int)=l.length:=by rw[h1]
    obtain⟨es,hes⟩:∃es,es=A0 l:=⟨_,rfl⟩
    rw[<- hes] at hcut hcut2 hel hm h1 ⊢
    cases b with
    |false=>
      repeat' first|refine st ?_|(with_reducible first|apply A5|apply A4)<;>intro _
      all_goals (try rw[hcut])
      repeat' first|refine st ?_|((with_reducible first|apply A8|apply A7);(·exact hU))|(with_reducible first|apply A5|apply A4)<;>intro _
      all_goals rfl
    |true=>
      repeat' first|refine st ?_|(with_reducible first|apply A5|apply A4)<;>intro _
      all_goals (try rw[hcut])
      repeat' first|refine st ?_|((with_reducible first|apply A8|apply A7);(·exact hU))|(with_reducible first|apply A5|apply A4)<;>intro _
      all_goals (try rw[hcut2])
      repeat' first|refine st ?_|((with_reducible first|apply A8|apply A7);(·exact hA))|(with_reducible first|apply A5|apply A4)<;>intro _
      all_goals rfl
  have A3:=A6v l (by omega) d hd 3
  have A2:=A6v l (by omega) d hd 2
  have A1:=A6v l (by omega) d hd 1
  have U:=B10 l (by omega) d hd
  repeat' first|refine st ?_|((with_reducible first|apply A8|apply A7);(·first|exact A3|exact A2|exact A1|exact U))|(with_reducible first|apply A5|apply A4)<;>intro _
  all_goals first
    |(subst_vars;rfl)
    | (have : op = 24 := by omega
       subst this;rfl)
end Go.Proofs
end
section
namespace Go.Proofs
open Go.Bi
def fe:List (Int×Int)->Int
 |[]=>0
 |r::rs=>if r.2=0 then fe rs else r.2
def S0(op n:Int)(v:Vl)(name:List UInt8)(ks:List Int)(k:Nat)(rs:List (Int×Int)):Int×Int:=
 if (S4 op k).2=false then (0,7) else if M8 op n v name k=false then (0,8)
 else if op=2 then (if 0<=n/\n<ks.length then (ks.getD n.toNat 0,0) else (0,13))
 else if fe rs=0 then (if (o9 op v (rs.map Prod.fst)).2 then ((o9 op v (rs.map Prod.fst)).1,0) else (0,7)) else (0,fe rs)
mutual
def G7(ks:List Int):Ex->Int×Int
 |.mk op n v name nl args=>S0 op n v name ks args.length (A5i ks args)
def A5i(ks:List Int):List Ex->List (Int×Int)
 |[]=>[]
 |e::es=>G7 ks e::A5i ks es
end
theorem B6k(ks:List Int):∀l,A5i ks l=l.map (G7 ks)
 |[]=>by simp[A5i]
 |e::es=>by simp[A5i,B6k ks es]
theorem A0I(ks:List Int)(op n:Int)(v:Vl)(name:List UInt8)(nl:Bool)(args:List Ex):G7 ks (.mk op n v name nl args)=S0 op n v name ks args.length (args.map (G7 ks)):=by rw[G7,B6k]
theorem B6W{l:List (Int×Int)}{i:Nat}{x:Int×Int}(h:l[i]?=some x):fe (l.drop i)=if x.2=0 then fe (l.drop (i+1)) else x.2:=by
 obtain⟨hlt,he⟩:=B2.1 h
 rw[V5 hlt,he];rfl
def Kv(rs:List (Int×Int))(i:Nat):List (List D):=A0 ((rs.take i).map Prod.fst)
theorem B3S(rs:List (Int×Int))(i:Nat)(h:i<=rs.length):(Kv rs i).length=i:=by
 unfold Kv
 rw[B6,D0,N6]
 omega
theorem B3T{rs:List (Int×Int)}{i:Nat}{x:Int×Int}(h:rs[i]?=some x):Kv rs i++[[eI x.1]]=Kv rs (i+1):=by
 unfold Kv
 rw[P5,h]
 simp[A0]
theorem B3R{rs:List (Int×Int)}{i:Nat}(h:rs.length<=i):Kv rs i=A0 (rs.map Prod.fst):=by
 unfold Kv
 rw[L0 h]
theorem B6p{op n:Int}{v:Vl}{name:List UInt8}{ks:List Int}{k:Nat}{rs:List (Int×Int)}(h:M8 op n v name k=true)(h2:op≠2):S0 op n v name ks k rs=if fe rs=0 then (if (o9 op v (rs.map Prod.fst)).2 then ((o9 op v (rs.map Prod.fst)).1,0) else (0,7)) else (0,fe rs):=by
 have hc:=A9v (A9M h)
 unfold S0
 have:(S4 op k).2=true:=by
  unfold S4
  repeat' split
  all_goals first|rfl|omega
 rw[this,h,if_neg (by simp),if_neg (by simp),if_neg h2]
theorem C0T(ks:List Int)(hks:ks.length<=1048576)(dk:D)(hdk:B5 dk (A0 ks)):∀e:Ex,e.bk<=1048576->Pure Tryz.prog A8W [e.av,.d dk] (.tup [.d (eI (G7 ks e).1),.d (eI (G7 ks e).2)]):=by
 refine Ex.ind λop n v name nl args ih hbk=>?_
 obtain⟨b1,b2,b3,b4⟩:=Ex.bk_bounds hbk
 have ih':∀a∈args,Pure Tryz.prog A8W [a.av,.d dk] (.tup [.d (eI (G7 ks a).1),.d (eI (G7 ks a).2)]):=λa ha=>ih a ha (b4 a ha)
 clear ih
 rw[Ex.av_mk,A0I]
 refine C32.go A6 rfl ?_
 have hlen:=I3 args
 have hF:=C0V op n v name (ng nl (xL args)) (xL args) i5 b2 (by omega)
 rw[hlen] at hF
 have hC:=B0U op args.length
 have hm:=N5 args
 have hd:B5 (ng nl (xL args)) (xL args):=i5
 have hget:∀(i:Nat) (op' n':Int) (v':Vl) (name':List UInt8) (nl':Bool) (args':List Ex),args[i]?=some (.mk op' n' v' name' nl' args')->(xL args)[i]?=some (V2 op' n' v' name' (ng nl' (xL args'))):=λi op' n' v' name' nl' args' h=>by
  rw[<- Ex.ds_mk];exact m4 h
 obtain⟨d,hde⟩:∃d,d=ng nl (xL args):=⟨_,rfl⟩
 rw[<- hde] at hF hd ⊢
 obtain⟨es,hes⟩:∃es,es=xL args:=⟨_,rfl⟩
 rw[<- hes] at hlen hm hd hget
 rw[<- hlen] at hC
 obtain⟨rs,hrs⟩:∃rs,rs=args.map (G7 ks):=⟨_,rfl⟩
 have hrl:rs.length=args.length:=by rw[hrs,D0]
 have hrg:∀(i:Nat) (x:Ex),args[i]?=some x->rs[i]?=some (G7 ks x):=λi x h=>by rw[hrs,G4,h];rfl
 rw[<- hrs]
 cases hk:(S4 op args.length).2 with
 |false=>
  have e:S0 op n v name ks args.length rs=(0,7):=by unfold S0;rw[hk,if_pos rfl]
  rw[e]
  rw[hlen,hk,<- hlen] at hC
  repeat' first|refine st ?_|((with_reducible first|apply A8|apply A7);(·exact hC))|(with_reducible first|apply A5|apply A4)<;>intro _
  all_goals rfl
 |true=>
 rw[hlen,hk,<- hlen] at hC
 cases hf:M8 op n v name args.length with
 |false=>
  have e:S0 op n v name ks args.length rs=(0,8):=by unfold S0;rw[hk,if_neg (by simp),hf,if_pos rfl]
  rw[e]
  rw[hf] at hF
  repeat' first|refine st ?_|((with_reducible first|apply A8|apply A7);(·first|exact hC|exact hF))|(with_reducible first|apply A5|apply A4)<;>intro _
  all_goals rfl
 |true=>
 rw[hf] at hF
 have hkl:=B6 ks
 have hkm:=D2 ks
 by_cases h2:op=2
 ·subst h2
  by_cases hn:0<=n/\n<ks.length
  ·have e:S0 2 n v name ks args.length rs=(ks.getD n.toNat 0,0):=by unfold S0;rw[hk,if_neg (by simp),hf,if_neg (by simp),if_pos rfl,if_pos hn]
   rw[e]
   obtain⟨n1,n2⟩:=hn
   have hx:ks[n.toNat]?=some (ks.getD n.toNat 0):=by
    rw[G9,C9 (by omega)];rfl
   have hg:=J9 hx
   have n3:n<(A0 ks).length:=by omega
   repeat' first|refine st ?_|((with_reducible first|apply A8|apply A7);(·first|exact hC|exact hF))|(with_reducible first|apply A5|apply A4)<;>intro _
   all_goals rfl
  ·have e:S0 2 n v name ks args.length rs=(0,13):=by unfold S0;rw[hk,if_neg (by simp),hf,if_neg (by simp),if_pos rfl,if_neg hn]
   rw[e]
   by_cases hn0:n<0
   ·repeat' first|refine st ?_|((with_reducible first|apply A8|apply A7);(·first|exact hC|exact hF))|(with_reducible first|apply A5|apply A4)<;>intro _
    all_goals rfl
   ·have n3:(A0 ks).length<=n:=by omega
    repeat' first|refine st ?_|((with_reducible first|apply A8|apply A7);(·first|exact hC|exact hF))|(with_reducible first|apply A5|apply A4)<;>intro _
    all_goals rfl
 have hq:=B6p (ks:=ks) (rs:=rs) hf h2
 obtain⟨q,hqe⟩:∃q,q=S0 op n v name ks args.length rs:=⟨_,rfl⟩
 rw[<- hqe] at hq ⊢
 have hcnt:=A9v (A9M hf)
 repeat' first|refine st ?_|((with_reducible first|apply A8|apply A7);(·first|exact hC|exact hF))|(with_reducible first|apply A5|apply A4)<;>intro _
 refine s0 8 1 rfl rfl ?_
 repeat' first|refine st ?_|(with_reducible first|apply A5|apply A4)<;>intro _
 refine I8 A6 C5L C4F (λ(i:Nat) (w:List (List D)×Bool)=>[.arr 1 w.1.length,.d (eI i)]) (λi w=>[.cells [.d (eI op),.d (eI n),.d (eI v.k),.d (eI v.n),.d (.str v.s),.d (.str name),.d d],.arr w.1 1 0 w.2]) (λi w=>i<=args.length/\w.1=Kv rs i/\w.2=w.1.isEmpty/\fe rs=fe (rs.drop i)) (λi _=>args.length-i) 0 ([],true) rfl rfl rfl rfl (λ_ _ _=>⟨rfl,rfl⟩) rfl ⟨by omega,rfl,rfl,rfl⟩ ?_
 repeat' first|refine st ?_|(with_reducible first|apply A5|apply A4)<;>intro _
 intro i w ⟨h4,h5,h6,h7⟩
 obtain⟨A,b⟩:=w
 dsimp only at h5 h6 h7 ⊢
 have hAl:A.length=i:=by rw[h5];exact B3S rs i (by omega)
 have hAm:∀e∈A,e.length=1:=by rw[h5];exact D2 _
 cases hx:args[i]? with
 |some x=>
  have hlt:=(B2.1 hx).1
  have hI:=ih' x (C2 hx)
  have hr:=hrg i x hx
  have hs:=B3T hr
  rw[B6W hr] at h7
  rw[<- h5] at hs
  obtain⟨⟨k,er⟩,hke⟩:∃ke,ke=G7 ks x:=⟨_,rfl⟩
  rw[<- hke] at hI hs h7
  obtain⟨op',n',v',name',nl',args'⟩:=x
  rw[Ex.av_mk] at hI
  have hg:=hget i _ _ _ _ _ _ hx
  by_cases her:er=0
  ·rw[if_pos her] at h7
   repeat' first|refine st ?_|((with_reducible first|apply A8|apply A7);(·exact hI))|(with_reducible first|apply A5|apply A4)<;>intro _
   exact⟨i+1,(A++[[eI k]],false),rfl,rfl,rfl,by omega,by omega,hs,by simp,h7⟩
  ·rw[if_neg her] at h7
   dsimp only at h7
   rw[h7,if_neg her] at hq
   rw[hq]
   repeat' first|refine st ?_|((with_reducible first|apply A8|apply A7);(·exact hI))|(with_reducible first|apply A5|apply A4)<;>intro _
   all_goals rfl
 |none=>
  have hge:=D1.1 hx
  rw[R1 (by omega)] at h7
  rw[h7,if_pos (show fe []=0 from rfl)] at hq
  rw[B3R (by omega)] at h5
  clear hrg
  obtain⟨l,hl⟩:∃l,l=rs.map Prod.fst:=⟨_,rfl⟩
  have hll:l.length=args.length:=by rw[hl,D0,hrl]
  rw[<- hl] at h5 hq
  have h22:op=22->1<=l.length:=λe=>by omega
  obtain⟨⟨kr,br⟩,hre⟩:∃r,r=o9 op v l:=⟨_,rfl⟩
  cases b with
  |true=>
   have hA0:A=[]:=by simpa using h6
   subst hA0
   have hR:=B0W op n v name d l (by omega) .nil (.inl ⟨rfl,h5.symm⟩) h22
   rw[<- hre] at hR hq
   rw[hq]
   cases br with
   |true=>
    repeat' first|refine st ?_|((with_reducible first|apply A8|apply A7);(·exact hR))|(with_reducible first|apply A5|apply A4)<;>intro _
    all_goals rfl
   |false=>
    repeat' first|refine st ?_|((with_reducible first|apply A8|apply A7);(·exact hR))|(with_reducible first|apply A5|apply A4)<;>intro _
    all_goals rfl
  |false=>
   have hR:=B0W op n v name d l (by omega) (.sl (A0 l)) L4 h22
   rw[<- hre,<- h5] at hR
   rw[<- hre] at hq
   rw[hq]
   cases br with
   |true=>
    repeat' first|refine st ?_|((with_reducible first|apply A8|apply A7);(·exact hR))|(with_reducible first|apply A5|apply A4)<;>intro _
    all_goals rfl
   |false=>
    repeat' first|refine st ?_|((with_reducible first|apply A8|apply A7);(·exact hR))|(with_reducible first|apply A5|apply A4)<;>intro _
    all_goals rfl
theorem C0Q(ks:List Int)(hks:ks.length<=1048576)(dk:D)(hdk:B5 dk (A0 ks))(e:Ex)(he:e.bk<=1048576):Pure Tryz.prog B5c [e.av,.d dk] (.tup [.d (eI (if 24<L9 e then (0,26) else G7 ks e).1),.d (eI (if 24<L9 e then ((0,26):Int×Int) else G7 ks e).2)]):=by
 have hD:=C0S e he
 have hC:=C0T ks hks dk hdk e he
 obtain⟨kr,hre⟩:∃r,r=G7 ks e:=⟨_,rfl⟩
 obtain⟨dp,hdp⟩:∃dp,dp=L9 e:=⟨_,rfl⟩
 rw[<- hre] at hC ⊢
 rw[<- hdp] at hD ⊢
 obtain⟨op,n,v,name,nl,args⟩:=e
 rw[Ex.av_mk] at hC hD ⊢
 refine C2U.go A6 rfl ?_
 by_cases h:24<dp
 ·rw[if_pos h]
  have h2:(24:Int)<((min 25 dp:Nat):Int):=by omega
  repeat' first|refine st ?_|((with_reducible first|apply A8|apply A7);(·first|exact hD|exact hC))|(with_reducible first|apply A5|apply A4)<;>intro _
  all_goals rfl
 ·rw[if_neg h]
  have h2:((min 25 dp:Nat):Int)<=24:=by omega
  repeat' first|refine st ?_|((with_reducible first|apply A8|apply A7);(·first|exact hD|exact hC))|(with_reducible first|apply A5|apply A4)<;>intro _
  all_goals rfl
end Go.Proofs
end
section
namespace Go.Proofs
open Go.Bi
theorem C17(ks:List Int)(hks:ks.length<=1048576)(dk:D)(hdk:B5 dk (A0 ks)):∀e:Ex,e.bk<=1048576->Pure Tryz.prog A8D [e.av,.d dk] (.tup [.d (eI (G7 ks e).1),.d (eI (G7 ks e).2)]):=by
 refine Ex.ind λop n v name nl args ih hbk=>?_
 obtain⟨b1,b2,b3,b4⟩:=Ex.bk_bounds hbk
 have ih':∀a∈args,Pure Tryz.prog A8D [a.av,.d dk] (.tup [.d (eI (G7 ks a).1),.d (eI (G7 ks a).2)]):=λa ha=>ih a ha (b4 a ha)
 clear ih
 rw[Ex.av_mk,A0I]
 refine C2a.go A6 rfl ?_
 have hlen:=I3 args
 have hF:=C12 op n v name (ng nl (xL args)) (xL args) i5 b2 (by omega)
 rw[hlen] at hF
 have hC:=B0Z op
 have hac:=(B5W op args.length (by omega)).2
 have hm:=N5 args
 have hd:B5 (ng nl (xL args)) (xL args):=i5
 have hget:∀(i:Nat) (op' n':Int) (v':Vl) (name':List UInt8) (nl':Bool) (args':List Ex),args[i]?=some (.mk op' n' v' name' nl' args')->(xL args)[i]?=some (V2 op' n' v' name' (ng nl' (xL args'))):=λi op' n' v' name' nl' args' h=>by
  rw[<- Ex.ds_mk];exact m4 h
 obtain⟨d,hde⟩:∃d,d=ng nl (xL args):=⟨_,rfl⟩
 rw[<- hde] at hF hd ⊢
 obtain⟨es,hes⟩:∃es,es=xL args:=⟨_,rfl⟩
 rw[<- hes] at hlen hm hd hget
 obtain⟨rs,hrs⟩:∃rs,rs=args.map (G7 ks):=⟨_,rfl⟩
 have hrl:rs.length=args.length:=by rw[hrs,D0]
 have hrg:∀(i:Nat) (x:Ex),args[i]?=some x->rs[i]?=some (G7 ks x):=λi x h=>by rw[hrs,G4,h];rfl
 rw[<- hrs]
 cases hk:(S4 op args.length).2 with
 |false=>
  have e:S0 op n v name ks args.length rs=(0,7):=by unfold S0;rw[hk,if_pos rfl]
  rw[e]
  rw[hk] at hac
  have hac:(j9 op).1<0:=by
   have:=of_decide_eq_false hac.symm
   omega
  repeat' first|refine st ?_|((with_reducible first|apply A8|apply A7);(·exact hC))|(with_reducible first|apply A5|apply A4)<;>intro _
  all_goals rfl
 |true=>
 rw[hk] at hac
 have hac:¬(j9 op).1<0:=of_decide_eq_true hac.symm
 cases hf:M8 op n v name args.length with
 |false=>
  have e:S0 op n v name ks args.length rs=(0,8):=by unfold S0;rw[hk,if_neg (by simp),hf,if_pos rfl]
  rw[e]
  rw[hf] at hF
  repeat' first|refine st ?_|((with_reducible first|apply A8|apply A7);(·first|exact hC|exact hF))|(with_reducible first|apply A5|apply A4)<;>intro _
  all_goals rfl
 |true=>
 rw[hf] at hF
 have hkl:=B6 ks
 have hkm:=D2 ks
 have hcnt:=A9v (A9M hf)
 obtain⟨q,hqe⟩:∃q,q=S0 op n v name ks args.length rs:=⟨_,rfl⟩
 rw[<- hqe]
 have hq2:op=2->q=if 0<=n/\n<ks.length then (ks.getD n.toNat 0,0) else (0,13):=λh2=>by
  rw[hqe];unfold S0;rw[hk,if_neg (by simp),hf,if_neg (by simp),if_pos h2]
 have hqo:op≠2->_:=λh2=>hqe.trans (B6p hf h2)
 clear hqe
 by_cases h2:op=2
 ·have hq:=hq2 h2
  subst h2
  by_cases hn:0<=n/\n<ks.length
  ·rw[if_pos hn] at hq
   obtain⟨n1,n2⟩:=hn
   have hx:ks[n.toNat]?=some (ks.getD n.toNat 0):=by
    rw[G9,C9 (by omega)];rfl
   have n3:n<(A0 ks).length:=by omega
   have n4:¬(A0 ks).length<=n:=by omega
   have ha0:args=[]:=A28.1 (by omega)
   subst ha0
   have hR:=C1a n v name d [] ks (.sl (A0 [])) L4 dk hdk _ n1 hx
   have hlen0:es.length=0:=hlen
   have hes0:es=[]:=A28.1 hlen0
   rw[hq]
   obtain⟨z,hz⟩:∃z,z=ks.getD n.toNat 0:=⟨_,rfl⟩
   rw[<- hz] at hR ⊢
   repeat' first|refine st ?_|((with_reducible first|apply A8|apply A7);(·first|exact hC|exact hF))|(with_reducible first|apply A5|apply A4)<;>intro _
   refine F3 A6 B4d B3Y (λ(i:Nat)=>[.arr 1 0,.d (eI i)]) (λi=>[.cells [.d (eI 2),.d (eI n),.d (eI v.k),.d (eI v.n),.d (.str v.s),.d (.str name),.d d],.arr [] 1 0 false]) (λi=>i=0) (λi=>0) 0 rfl rfl rfl rfl (λ_ _=>⟨rfl,rfl⟩) rfl rfl ?_
   repeat' first|refine st ?_|(with_reducible first|apply A5|apply A4)<;>intro _
   intro i hi
   subst hi
   have h0:es.length<=((0:Nat):Int):=by omega
   have h00:([]:List (List D)).length=0:=rfl
   have hm0:∀e∈([]:List (List D)),e.length=1:=by intro e he;cases he
   repeat' first|refine st ?_|((with_reducible first|apply A8|apply A7);(·exact hR))|(with_reducible first|apply A5|apply A4)<;>intro _
   all_goals rfl
  ·rw[if_neg hn] at hq
   rw[hq]
   by_cases hn0:n<0
   ·repeat' first|refine st ?_|((with_reducible first|apply A8|apply A7);(·first|exact hC|exact hF))|(with_reducible first|apply A5|apply A4)<;>intro _
    all_goals rfl
   ·have n3:(A0 ks).length<=n:=by omega
    repeat' first|refine st ?_|((with_reducible first|apply A8|apply A7);(·first|exact hC|exact hF))|(with_reducible first|apply A5|apply A4)<;>intro _
    all_goals rfl
 have hq:=hqo h2
 repeat' first|refine st ?_|((with_reducible first|apply A8|apply A7);(·first|exact hC|exact hF))|(with_reducible first|apply A5|apply A4)<;>intro _
 refine I8 A6 B4d B3Y (λ(i:Nat) (A:List (List D))=>[.arr 1 A.length,.d (eI i)]) (λi A=>[.cells [.d (eI op),.d (eI n),.d (eI v.k),.d (eI v.n),.d (.str v.s),.d (.str name),.d d],.arr A 1 0 false]) (λi A=>i<=args.length/\A=Kv rs i/\fe rs=fe (rs.drop i)) (λi _=>args.length-i) 0 [] rfl rfl rfl rfl (λ_ _ _=>⟨rfl,rfl⟩) rfl ⟨by omega,rfl,rfl⟩ ?_
 repeat' first|refine st ?_|(with_reducible first|apply A5|apply A4)<;>intro _
 intro i A ⟨h4,h5,h7⟩
 have hAl:A.length=i:=by rw[h5];exact B3S rs i (by omega)
 have hAm:∀e∈A,e.length=1:=by rw[h5];exact D2 _
 cases hx:args[i]? with
 |some x=>
  have hlt:=(B2.1 hx).1
  have hI:=ih' x (C2 hx)
  have hr:=hrg i x hx
  have hs:=B3T hr
  rw[B6W hr] at h7
  rw[<- h5] at hs
  obtain⟨⟨k,er⟩,hke⟩:∃ke,ke=G7 ks x:=⟨_,rfl⟩
  rw[<- hke] at hI hs h7
  obtain⟨op',n',v',name',nl',args'⟩:=x
  rw[Ex.av_mk] at hI
  have hg:=hget i _ _ _ _ _ _ hx
  by_cases her:er=0
  ·rw[if_pos her] at h7
   repeat' first|refine st ?_|((with_reducible first|apply A8|apply A7);(·exact hI))|(with_reducible first|apply A5|apply A4)<;>intro _
   exact⟨i+1,A++[[eI k]],rfl,rfl,rfl,by omega,by omega,hs,h7⟩
  ·rw[if_neg her] at h7
   dsimp only at h7
   rw[h7,if_neg her] at hq
   rw[hq]
   repeat' first|refine st ?_|((with_reducible first|apply A8|apply A7);(·exact hI))|(with_reducible first|apply A5|apply A4)<;>intro _
   all_goals rfl
 |none=>
  have hge:=D1.1 hx
  rw[R1 (by omega)] at h7
  rw[h7,if_pos (show fe []=0 from rfl)] at hq
  rw[B3R (by omega)] at h5
  clear hrg
  obtain⟨l,hl⟩:∃l,l=rs.map Prod.fst:=⟨_,rfl⟩
  have hll:l.length=args.length:=by rw[hl,D0,hrl]
  rw[<- hl] at h5 hq
  have h22:op=22->1<=l.length:=λe=>by omega
  obtain⟨⟨kr,br⟩,hre⟩:∃r,r=o9 op v l:=⟨_,rfl⟩
  have hR:=C19 op n v name d l (by omega) (.sl (A0 l)) L4 dk h22 (by omega) h2
  rw[<- hre,<- h5] at hR
  rw[<- hre] at hq
  rw[hq]
  cases br with
  |true=>
   repeat' first|refine st ?_|((with_reducible first|apply A8|apply A7);(·exact hR))|(with_reducible first|apply A5|apply A4)<;>intro _
   all_goals rfl
  |false=>
   repeat' first|refine st ?_|((with_reducible first|apply A8|apply A7);(·exact hR))|(with_reducible first|apply A5|apply A4)<;>intro _
   all_goals rfl
theorem C10(ks:List Int)(hks:ks.length<=1048576)(dk:D)(hdk:B5 dk (A0 ks))(e:Ex)(he:e.bk<=1048576):Pure Tryz.prog B4w [e.av,.d dk] (.tup [.d (eI (if 24<L9 e then (0,26) else G7 ks e).1),.d (eI (if 24<L9 e then ((0,26):Int×Int) else G7 ks e).2)]):=by
 have hD:=C18 e he
 have hC:=C17 ks hks dk hdk e he
 obtain⟨kr,hre⟩:∃r,r=G7 ks e:=⟨_,rfl⟩
 obtain⟨dp,hdp⟩:∃dp,dp=L9 e:=⟨_,rfl⟩
 rw[<- hre] at hC ⊢
 rw[<- hdp] at hD ⊢
 obtain⟨op,n,v,name,nl,args⟩:=e
 rw[Ex.av_mk] at hC hD ⊢
 refine C23.go A6 rfl ?_
 by_cases h:24<dp
 ·rw[if_pos h]
  have h2:(24:Int)<(dp:Int):=by omega
  repeat' first|refine st ?_|((with_reducible first|apply A8|apply A7);(·first|exact hD|exact hC))|(with_reducible first|apply A5|apply A4)<;>intro _
  all_goals rfl
 ·rw[if_neg h]
  have h2:(dp:Int)<=24:=by omega
  repeat' first|refine st ?_|((with_reducible first|apply A8|apply A7);(·first|exact hD|exact hC))|(with_reducible first|apply A5|apply A4)<;>intro _
  all_goals rfl
end Go.Proofs
end
section
namespace Go.Proofs
open Go.Bi
def A18(ks:List Int)(e:Ex):Int×Int:=if 24<L9 e then (0,26) else G7 ks e
def A0g(ks:List Int)(e:Ex):Int:=if (A18 ks e).2=0 then (if (A18 ks e).1=3\/(A18 ks e).1=0 then 0 else 7) else (A18 ks e).2
def t8(ks:List Int):List Ex->Int
 |[]=>0
 |e::r=>if A0g ks e=0 then t8 ks r else A0g ks e
def A17(ks:List Int)(l:List Ex):Int:=if l.length<=4 then t8 ks l else 5
theorem B6i{ks:List Int}{l:List Ex}{i:Nat}{e:Ex}(h:l[i]?=some e):t8 ks (l.drop i)=if A0g ks e=0 then t8 ks (l.drop (i+1)) else A0g ks e:=by
 obtain⟨hlt,he⟩:=B2.1 h
 rw[V5 hlt,he];rfl
theorem m5{args:List Ex}(i:Nat)(op' n':Int)(v':Vl)(name':List UInt8)(nl':Bool)(args':List Ex)(h:args[i]?=some (.mk op' n' v' name' nl' args')):(xL args)[i]?=some (V2 op' n' v' name' (ng nl' (xL args'))):=by
 rw[<- Ex.ds_mk];exact m4 h
theorem C1H(n:List UInt8)(l:List Co)(hl:l.length<=1048576)(dc dk df dx:D)(hc:B5 dc (B3 l))(xs:List Ex)(hxs:xs.length<=1048576)(hxb:∀e∈xs,e.bk<=1048576)(hdx:B5 dx (xL xs)):Pure Tryz.prog A6X [eT n dc dk df dx] (.d (eI (A17 (kd l) xs))):=by
 refine C3f.go A6 rfl ?_
 have h1:=I3 xs
 have hm:=N5 xs
 have hK:=C1F n l hl dc dk df dx hc
 unfold A17
 by_cases h0:xs.length<=4
 rotate_left
 ·rw[if_neg h0]
  repeat' first|refine st ?_|(with_reducible first|apply A5|apply A4)<;>intro _
  all_goals first|rfl|(exfalso;omega)
 rw[if_pos h0]
 obtain⟨q,hq⟩:∃q,q=t8 (kd l) xs:=⟨_,rfl⟩
 rw[<- hq]
 repeat' first|refine st ?_|(with_reducible first|apply A5|apply A4)<;>intro _
 refine F3 A6 C5S C4M (λ(i:Nat)=>[.d (eI i)]) (λi=>[.cells [.d (.str n),.d dc,.d dk,.d df,.d dx]]) (λi=>i<=xs.length/\q=t8 (kd l) (xs.drop i)) (λi=>xs.length-i) 0 rfl rfl rfl rfl (λ_ _=>⟨rfl,rfl⟩) rfl ⟨by omega,hq⟩ ?_
 repeat' first|refine st ?_|(with_reducible first|apply A5|apply A4)<;>intro _
 intro i ⟨h4,h5⟩
 cases hx:xs[i]? with
 |some e=>
  have hlt:=(B2.1 hx).1
  have hE:=C0Q (kd l) (by rw[A5E];exact hl) (kdD l) (D1b l) e (hxb e (C2 hx))
  rw[B6i hx] at h5
  unfold A0g at h5
  obtain⟨⟨k,er⟩,hr⟩:∃r,r=A18 (kd l) e:=⟨_,rfl⟩
  rw[<- hr] at h5
  unfold A18 at hr
  rw[<- hr] at hE
  dsimp only at h5 hE
  obtain⟨op',n',v',name',nl',args'⟩:=e
  rw[Ex.av_mk] at hE
  have hg:=m5 i _ _ _ _ _ _ hx
  obtain⟨z,hz⟩:∃z,z=(if er=0 then (if k=3\/k=0 then (0:Int) else 7) else er):=⟨_,rfl⟩
  rw[<- hz] at h5
  by_cases he:er=0
  ·rw[if_pos he] at hz
   by_cases h3:k=3
   ·rw[if_pos (Or.inl h3)] at hz
    rw[if_pos hz] at h5
    repeat' first|refine st ?_|((with_reducible first|apply A8|apply A7);(·first|exact hK|exact hE))|(with_reducible first|apply A5|apply A4)<;>intro _
    exact⟨i+1,rfl,rfl,rfl,by omega,by omega,h5⟩
   ·by_cases h00:k=0
    ·rw[if_pos (Or.inr h00)] at hz
     rw[if_pos hz] at h5
     repeat' first|refine st ?_|((with_reducible first|apply A8|apply A7);(·first|exact hK|exact hE))|(with_reducible first|apply A5|apply A4)<;>intro _
     exact⟨i+1,rfl,rfl,rfl,by omega,by omega,h5⟩
    ·rw[if_neg (by omega)] at hz
     rw[if_neg (by omega),hz] at h5
     rw[h5]
     repeat' first|refine st ?_|((with_reducible first|apply A8|apply A7);(·first|exact hK|exact hE))|(with_reducible first|apply A5|apply A4)<;>intro _
     all_goals rfl
  ·rw[if_neg he] at hz
   rw[if_neg (by omega),hz] at h5
   rw[h5]
   repeat' first|refine st ?_|((with_reducible first|apply A8|apply A7);(·first|exact hK|exact hE))|(with_reducible first|apply A5|apply A4)<;>intro _
   all_goals rfl
 |none=>
  have hge:=D1.1 hx
  rw[R1 hge] at h5
  rw[h5]
  repeat' first|refine st ?_|(with_reducible first|apply A5|apply A4)<;>intro _
  all_goals rfl
end Go.Proofs
end
section
namespace Go.Proofs
open Go.Bi
structure Tb where
 nm:List UInt8
 cs:List Co
 ks:List Int
 fs:List Fo
 xs:List Ex
structure N4(t:Tb)(dc dk df dx:D):Prop where
 hn:t.nm.length<=1048576
 hl:t.cs.length<=1048576
 hls:∀c∈t.cs,c.nm.length<=1048576
 hk:t.ks.length<=1048576
 hfl:t.fs.length<=1048576
 hfc:∀f∈t.fs,f.cs.length<=1048576/\f.tb.length<=1048576
 hxs:t.xs.length<=1048576
 hxb:∀e∈t.xs,e.bk<=1048576
 dc:B5 dc (B3 t.cs)
 dk:B5 dk (A0 t.ks)
 df:B5 df (F8 t.fs)
 dx:B5 dx (xL t.xs)
def A1a(t:Tb):Int:=if t.fs.length<=4 then (if V7 t.cs.length t.fs=0 then A17 (kd t.cs) t.xs else V7 t.cs.length t.fs) else 5
theorem C9r(t:Tb):A1a t=if A3S t.cs.length t.fs=0 then A17 (kd t.cs) t.xs else A3S t.cs.length t.fs:=by
 unfold A1a A3S
 by_cases h:t.fs.length<=4
 ·rw[if_pos h,if_pos h]
 ·rw[if_neg h,if_neg h,if_neg (by decide)]
def J0(t:Tb):Int:=if L2 t.nm then (if u4 t.cs=0 then (if A0l t.cs t.ks=0 then A1a t else A0l t.cs t.ks) else u4 t.cs) else 1
theorem C1g(t:Tb)(dc dk df dx:D)(h:N4 t dc dk df dx):Pure Tryz.prog B4G [eT t.nm dc dk df dx] (.d (eI (A1a t))):=by
 obtain⟨n,l,ks,fs,xs⟩:=t
 obtain⟨hn,hl,hls,hk,hfl,hfc,hxs,hxb,hc,hdk,hdf,hdx⟩:=h
 dsimp only at hn hl hls hk hfl hfc hxs hxb hc hdk hdf hdx ⊢
 refine C2k.go A6 rfl ?_
 have h1:=c8 fs
 have hm:=y7 fs
 have h2:=I3 xs
 have hm2:=N5 xs
 have hK:=C1c n l hl dc dk df dx hc
 unfold A1a
 dsimp only
 by_cases h0:fs.length<=4
 rotate_left
 ·rw[if_neg h0]
  repeat' first|refine st ?_|(with_reducible first|apply A5|apply A4)<;>intro _
  all_goals first|rfl|(exfalso;omega)
 rw[if_pos h0]
 obtain⟨q,hq⟩:∃q,q=(if V7 l.length fs=0 then A17 (kd l) xs else V7 l.length fs):=⟨_,rfl⟩
 rw[<- hq]
 repeat' first|refine st ?_|(with_reducible first|apply A5|apply A4)<;>intro _
 refine F3 A6 C5c C46 (λ(i:Nat)=>[.d (eI i)]) (λi=>[.cells [.d (.str n),.d dc,.d dk,.d df,.d dx]]) (λi=>i<=fs.length/\V7 l.length fs=V7 l.length (fs.drop i)) (λi=>fs.length-i) 0 rfl rfl rfl rfl (λ_ _=>⟨rfl,rfl⟩) rfl ⟨by omega,rfl⟩ ?_
 repeat' first|refine st ?_|(with_reducible first|apply A5|apply A4)<;>intro _
 intro i ⟨h4,h5⟩
 cases hx:fs[i]? with
 |some f=>
  have hlt:=(B2.1 hx).1
  have hg:=A0i hx
  obtain⟨hf,hft⟩:=hfc f (C2 hx)
  have hF:=C1h n l hl dc dk df dx hc f hf hft
  rw[B7n hx] at h5
  obtain⟨e,he⟩:∃e,e=A0j l.length f:=⟨_,rfl⟩
  rw[<- he] at h5 hF
  obtain⟨fd,hfd⟩:∃fd,fd=f.d:=⟨_,rfl⟩
  have hg:(F8 fs)[i]?=some [fd,.str f.tb]:=by rw[hfd];exact hg
  rw[<- hfd] at hF
  by_cases h0:e=0
  ·rw[if_pos h0] at h5
   repeat' first|refine st ?_|((with_reducible first|apply A8|apply A7);(·exact hF))|(with_reducible first|apply A5|apply A4)<;>intro _
   exact⟨i+1,rfl,rfl,rfl,by omega,by omega,h5⟩
  ·rw[if_neg h0] at h5
   rw[h5,if_neg h0] at hq
   rw[hq]
   repeat' first|refine st ?_|((with_reducible first|apply A8|apply A7);(·exact hF))|(with_reducible first|apply A5|apply A4)<;>intro _
   all_goals rfl
 |none=>
  have hge:=D1.1 hx
  rw[R1 hge] at h5
  have h5:V7 l.length fs=0:=h5
  rw[if_pos h5] at hq
  unfold A17 at hq
  by_cases h0:xs.length<=4
  rotate_left
  ·rw[if_neg h0] at hq
   rw[hq]
   repeat' first|refine st ?_|(with_reducible first|apply A5|apply A4)<;>intro _
   all_goals first|rfl|(exfalso;omega)
  rw[if_pos h0] at hq
  repeat' first|refine st ?_|(with_reducible first|apply A5|apply A4)<;>intro _
  refine F3 A6 C5d C47 (λ(i:Nat)=>[.d (eI i)]) (λi=>[.cells [.d (.str n),.d dc,.d dk,.d df,.d dx]]) (λi=>i<=xs.length/\q=t8 (kd l) (xs.drop i)) (λi=>xs.length-i) 0 rfl rfl rfl rfl (λ_ _=>⟨rfl,rfl⟩) rfl ⟨by omega,hq⟩ ?_
  repeat' first|refine st ?_|(with_reducible first|apply A5|apply A4)<;>intro _
  intro i ⟨h4,h5⟩
  cases hx:xs[i]? with
  |some e=>
   have hlt:=(B2.1 hx).1
   have hE:=C10 (kd l) (by rw[A5E];exact hl) (.sl (A0 (kd l))) (.inr rfl) e (hxb e (C2 hx))
   rw[B6i hx] at h5
   unfold A0g at h5
   obtain⟨⟨k,er⟩,hr⟩:∃r,r=A18 (kd l) e:=⟨_,rfl⟩
   rw[<- hr] at h5
   unfold A18 at hr
   rw[<- hr] at hE
   dsimp only at h5 hE
   obtain⟨op',n',v',name',nl',args'⟩:=e
   rw[Ex.av_mk] at hE
   have hg:=m5 i _ _ _ _ _ _ hx
   obtain⟨z,hz⟩:∃z,z=(if er=0 then (if k=3\/k=0 then (0:Int) else 7) else er):=⟨_,rfl⟩
   rw[<- hz] at h5
   by_cases he:er=0
   ·rw[if_pos he] at hz
    by_cases h3:k=3
    ·rw[if_pos (Or.inl h3)] at hz
     rw[if_pos hz] at h5
     repeat' first|refine st ?_|((with_reducible first|apply A8|apply A7);(·first|exact hK|exact hE))|(with_reducible first|apply A5|apply A4)<;>intro _
     exact⟨i+1,rfl,rfl,rfl,by omega,by omega,h5⟩
    ·by_cases h00:k=0
     ·rw[if_pos (Or.inr h00)] at hz
      rw[if_pos hz] at h5
      repeat' first|refine st ?_|((with_reducible first|apply A8|apply A7);(·first|exact hK|exact hE))|(with_reducible first|apply A5|apply A4)<;>intro _
      exact⟨i+1,rfl,rfl,rfl,by omega,by omega,h5⟩
     ·rw[if_neg (by omega)] at hz
      rw[if_neg (by omega),hz] at h5
      rw[h5]
      repeat' first|refine st ?_|((with_reducible first|apply A8|apply A7);(·first|exact hK|exact hE))|(with_reducible first|apply A5|apply A4)<;>intro _
      all_goals rfl
   ·rw[if_neg he] at hz
    rw[if_neg (by omega),hz] at h5
    rw[h5]
    repeat' first|refine st ?_|((with_reducible first|apply A8|apply A7);(·first|exact hK|exact hE))|(with_reducible first|apply A5|apply A4)<;>intro _
    all_goals rfl
  |none=>
   have hge:=D1.1 hx
   rw[R1 hge] at h5
   rw[h5]
   repeat' first|refine st ?_|(with_reducible first|apply A5|apply A4)<;>intro _
   all_goals rfl
theorem A6w(t:Tb)(dc dk df dx:D)(h:N4 t dc dk df dx):Pure Tryz.prog A4V [eT t.nm dc dk df dx] (.d (eI (J0 t))):=by
 have h1:=A4u t.nm h.hn
 have h2:=C1f t.nm t.cs h.hl h.hls dc dk df dx h.dc
 have h3:=C1j t.nm t.cs h.hl dc dk df dx h.dc t.ks h.hk h.dk
 have h4:=C1g t dc dk df dx h
 refine C2d.go A6 rfl ?_
 unfold J0
 cases hv:L2 t.nm with
 |false=>
  rw[hv] at h1
  rw[if_neg (by simp)]
  repeat' first|refine st ?_|((with_reducible first|apply A8|apply A7);(·exact h1))|(with_reducible first|apply A5|apply A4)<;>intro _
  all_goals rfl
 |true=>
  rw[hv] at h1
  rw[if_pos rfl]
  by_cases ha:u4 t.cs=0
  ·rw[if_pos ha]
   rw[ha] at h2
   by_cases hb:A0l t.cs t.ks=0
   ·rw[if_pos hb]
    rw[hb] at h3
    repeat' first|refine st ?_|((with_reducible first|apply A8|apply A7);(·first|exact h1|exact h2|exact h3|exact h4))|(with_reducible first|apply A5|apply A4)<;>intro _
    all_goals rfl
   ·rw[if_neg hb]
    repeat' first|refine st ?_|((with_reducible first|apply A8|apply A7);(·first|exact h1|exact h2|exact h3|exact h4))|(with_reducible first|apply A5|apply A4)<;>intro _
    all_goals rfl
  ·rw[if_neg ha]
   repeat' first|refine st ?_|((with_reducible first|apply A8|apply A7);(·first|exact h1|exact h2|exact h3|exact h4))|(with_reducible first|apply A5|apply A4)<;>intro _
   all_goals rfl
theorem A8n(t:Tb)(dc dk df dx:D)(h:N4 t dc dk df dx):Pure Tryz.prog A8Z [eT t.nm dc dk df dx] (.d (eI (J0 t))):=by
 have h1:=A4w t.nm h.hn
 have h2:=C1I t.nm t.cs h.hl h.hls dc dk df dx h.dc
 have h3:=C1K t.nm t.cs h.hl dc dk df dx h.dc t.ks h.hk h.dk
 have h4:=C1J t.nm t.cs h.hl t.fs h.hfl h.hfc dc dk df dx h.dc h.df
 have h5:=C1H t.nm t.cs h.hl dc dk df dx h.dc t.xs h.hxs h.hxb h.dx
 obtain⟨n,l,ks,fs,xs⟩:=t
 dsimp only at h1 h2 h3 h4 h5 ⊢
 refine C39.go A6 rfl ?_
 unfold J0
 rw[C9r]
 dsimp only
 cases hv:L2 n with
 |false=>
  rw[hv] at h1
  rw[if_neg (by simp)]
  repeat' first|refine st ?_|((with_reducible first|apply A8|apply A7);(·exact h1))|(with_reducible first|apply A5|apply A4)<;>intro _
  all_goals rfl
 |true=>
  rw[hv] at h1
  rw[if_pos rfl]
  obtain⟨a,ha⟩:∃a,a=u4 l:=⟨_,rfl⟩
  obtain⟨b,hb⟩:∃a,a=A0l l ks:=⟨_,rfl⟩
  obtain⟨c,hc⟩:∃a,a=A3S l.length fs:=⟨_,rfl⟩
  obtain⟨d,hd⟩:∃a,a=A17 (kd l) xs:=⟨_,rfl⟩
  rw[<- ha] at h2 ⊢
  rw[<- hb] at h3 ⊢
  rw[<- hc] at h4 ⊢
  rw[<- hd] at h5 ⊢
  obtain⟨q,hq⟩:∃q,q=(if a=0 then (if b=0 then (if c=0 then d else c) else b) else a):=⟨_,rfl⟩
  rw[<- hq]
  obtain⟨A,hA⟩:∃A:List (List D),A=[[.fn A6Y],[.fn A70],[.fn A6Z],[.fn A6X]]:=⟨_,rfl⟩
  have hAl:A.length=4:=by rw[hA];rfl
  repeat' first|refine st ?_|((with_reducible first|apply A8|apply A7);(·exact h1))|(with_reducible first|apply A5|apply A4)<;>intro _
  rw[<- hA]
  refine F3 A6 C5P C4J (λ(i:Nat)=>[.d (eI i)]) (λi=>[.cells [.d (.str n),.d dc,.d dk,.d df,.d dx],.arr A 1 0 false]) (λi=>i<=4/\(0<i->a=0)/\(1<i->b=0)/\(2<i->c=0)/\(3<i->d=0)) (λi=>4-i) 0 rfl rfl rfl rfl (λ_ _=>⟨rfl,rfl⟩) rfl ⟨by omega,by omega,by omega,by omega,by omega⟩ ?_
  repeat' first|refine st ?_|(with_reducible first|apply A5|apply A4)<;>intro _
  intro i ⟨g0,g1,g2,g3,g4⟩
  by_cases e4:i=4
  ·rw[if_pos (g1 (by omega)),if_pos (g2 (by omega)),if_pos (g3 (by omega)),g4 (by omega)] at hq
   rw[hq]
   repeat' first|refine st ?_|(with_reducible first|apply A5|apply A4)<;>intro _
   all_goals rfl
  by_cases e0:i=0
  ·have hg:A[i]?=some [.fn A6Y]:=by rw[hA,e0];rfl
   by_cases z:a=0
   ·repeat' first|refine st ?_|((with_reducible first|apply A8|apply A7);(·exact h2))|(with_reducible first|apply A5|apply A4)<;>intro _
    exact⟨i+1,rfl,rfl,rfl,by omega,by omega,λ_=>z,by omega,by omega,by omega⟩
   ·rw[if_neg z] at hq
    rw[hq]
    repeat' first|refine st ?_|((with_reducible first|apply A8|apply A7);(·exact h2))|(with_reducible first|apply A5|apply A4)<;>intro _
    all_goals rfl
  by_cases e1:i=1
  ·have hg:A[i]?=some [.fn A70]:=by rw[hA,e1];rfl
   rw[if_pos (g1 (by omega))] at hq
   by_cases z:b=0
   ·repeat' first|refine st ?_|((with_reducible first|apply A8|apply A7);(·exact h3))|(with_reducible first|apply A5|apply A4)<;>intro _
    exact⟨i+1,rfl,rfl,rfl,by omega,by omega,λ_=>g1 (by omega),λ_=>z,by omega,by omega⟩
   ·rw[if_neg z] at hq
    rw[hq]
    repeat' first|refine st ?_|((with_reducible first|apply A8|apply A7);(·exact h3))|(with_reducible first|apply A5|apply A4)<;>intro _
    all_goals rfl
  by_cases e2:i=2
  ·have hg:A[i]?=some [.fn A6Z]:=by rw[hA,e2];rfl
   rw[if_pos (g1 (by omega)),if_pos (g2 (by omega))] at hq
   by_cases z:c=0
   ·repeat' first|refine st ?_|((with_reducible first|apply A8|apply A7);(·exact h4))|(with_reducible first|apply A5|apply A4)<;>intro _
    exact⟨i+1,rfl,rfl,rfl,by omega,by omega,λ_=>g1 (by omega),λ_=>g2 (by omega),λ_=>z,by omega⟩
   ·rw[if_neg z] at hq
    rw[hq]
    repeat' first|refine st ?_|((with_reducible first|apply A8|apply A7);(·exact h4))|(with_reducible first|apply A5|apply A4)<;>intro _
    all_goals rfl
  have e3:i=3:=by omega
  ·have hg:A[i]?=some [.fn A6X]:=by rw[hA,e3];rfl
   rw[if_pos (g1 (by omega)),if_pos (g2 (by omega)),if_pos (g3 (by omega))] at hq
   by_cases z:d=0
   ·repeat' first|refine st ?_|((with_reducible first|apply A8|apply A7);(·exact h5))|(with_reducible first|apply A5|apply A4)<;>intro _
    exact⟨i+1,rfl,rfl,rfl,by omega,by omega,λ_=>g1 (by omega),λ_=>g2 (by omega),λ_=>g3 (by omega),λ_=>z⟩
   ·rw[hq]
    repeat' first|refine st ?_|((with_reducible first|apply A8|apply A7);(·exact h5))|(with_reducible first|apply A5|apply A4)<;>intro _
    all_goals rfl
end Go.Proofs
end
section
namespace Go.Bi
open Go
def C0(nl:Bool)(es:List (List D)):D:=if nl then .nil else .sl es
def DC1(os:List AO)(c:AV)(x:D):Prop:=c=.d x\/∃id es sz frz nl,c=.arr id es.length/\os[id]?=some (.arr es sz frz nl)/\x=C0 nl es
def DC(os:List AO)(c:AV)(x:D):Prop:=DC1 os c x\/∃(id:Nat) (es:List (List AV)) (sz:Nat) (nl:Bool) (l:List (List D)),c=.rs id es.length/\os[id]?=some (.rarr es sz nl)/\l.length=es.length/\
 (∀(i:Nat) (e:List AV) (e':List D),es[i]?=some e->l[i]?=some e'->e'.length=e.length/\∀(j:Nat) (c:AV) (x:D),e[j]?=some c->e'[j]?=some x->DC1 os c x)/\x=C0 nl l
def DL(os:List AO)(cs:List AV)(xs:List D):Prop:=xs.length=cs.length/\∀(j:Nat) (c:AV) (x:D),cs[j]?=some c->xs[j]?=some x->DC os c x
def DG(os:List AO)(a r:AV):Prop:=(∃x,DC os a x/\r=.d x)\/∃(cs:List AV) (xs:List D),a=.agg cs/\r=.agg (xs.map .d)/\DL os cs xs
def DA(os:List AO)(a r:AV):Prop:=DG os a r\/∃cs rs:List AV,a=.tup cs/\r=.tup rs/\rs.length=cs.length/\∀(j:Nat) (c x:AV),cs[j]?=some c->rs[j]?=some x->DG os c x
section
variable {P:Program}{M' M2:C5}{G':Gh}{os:List AO}{w':World}
variable (he:C3 M' G' os w')(hm:∀y u,M' y=some u->M2 y=some u)(hb:∀i,E6 os i->∀(o:Nat) u,w'.cell? ⟨G'.blk i,o,none⟩=some u->M2 ⟨G'.blk i,o,none⟩=some u)
include he hm hb
theorem B6C{c:AV}{u:Value}{x:D}(h:VC M' G' os c u)(hd:DC1 os c x):Rd M2 x u:=by
 rcases hd with rfl|⟨id,es,sz,frz,nl,rfl,h1,rfl⟩
 ·exact Rd.mono hm h
 ·obtain⟨_,es',sz',frz',nl',h2,_,h3⟩:=h
  rw[h1] at h2
  cases h2
  rw[h3 rfl]
  have hlv:nl=false->E6 os id:=λe=>⟨_,h1,by subst e;rfl⟩
  obtain⟨k1,k2,k3,k4,k5⟩:=he.obj id _ h1
  cases nl with
  |true=>exact Rd.nil
  |false=>
   obtain⟨ca,t,a1,a2,a3,a4,a5,a6⟩:=k5 rfl
   have hcell:∀k,w'.cell? ⟨G'.blk id,k,none⟩=ca[k]?:=λk=>by simp[World.cell?,a1]
   refine Rd.sl es (G'.blk id) 0 (G'.cap id) sz (λi j=>(ca[i*sz+j]?).getD undef) a3 k2 (λi j hi hj=>?_) (λi j e d hi hj=>?_)
   ·have hk:i*sz+j<ca.size:=by rw[a2];exact W9 (by omega) hj
    rw[x8]
    refine hb id (hlv rfl) _ _ ?_
    rw[hcell]
    simp[hk]
   ·obtain⟨v,b1,b2⟩:=a5 i j e d hi hj
    simp only[b1,j7]
    exact b2.mono hm
theorem B6D{c:AV}{u:Value}{x:D}(h:VC M' G' os c u)(hd:DC os c x):Rd M2 x u:=by
 rcases hd with hd|⟨id,es,sz,nl,l,rfl,h1,hl,hr,rfl⟩
 ·exact B6C he hm hb h hd
 ·obtain⟨_,es',sz',nl',h2,_,h3⟩:=h
  rw[h1] at h2
  cases h2
  rw[h3 rfl]
  have hlv:nl=false->E6 os id:=λe=>⟨_,h1,by subst e;rfl⟩
  obtain⟨k1,k2,k4,k5⟩:=he.obj id _ h1
  cases nl with
  |true=>exact Rd.nil
  |false=>
   obtain⟨ca,t,a1,a2,a3,a4,a5⟩:=k5 rfl
   have hcell:∀k,w'.cell? ⟨G'.blk id,k,none⟩=ca[k]?:=λk=>by simp[World.cell?,a1]
   have:=Rd.sl (M:=M2) l (G'.blk id) 0 (G'.cap id) sz (λi j=>(ca[i*sz+j]?).getD undef) (by omega) (λe he=>by
    obtain⟨i,hi⟩:=A1E.1 he
    have hlt:=(B2.1 hi).1
    have h0:es[i]?=some es[i]:=C9 (by omega)
    rw[(hr i _ _ h0 hi).1]
    exact k2 _ (C2 h0)) (λi j hi hj=>by
    have hk:i*sz+j<ca.size:=by rw[a2];exact W9 (by omega) hj
    rw[x8]
    refine hb id (hlv rfl) _ _ ?_
    rw[hcell]
    simp[hk]) (λi j e d hi hj=>by
    have hlt:=(B2.1 hi).1
    have h0:es[i]?=some es[i]:=C9 (by omega)
    obtain⟨q1,q2⟩:=hr i _ _ h0 hi
    have hjl:=(B2.1 hj).1
    have h4:es[i][j]?=some es[i][j]:=C9 (by omega)
    obtain⟨v,b1,b2⟩:=a5 i j _ _ h0 h4
    simp only[b1,j7]
    exact B6C he hm hb b2 (q2 j _ _ h4 hj))
   rw[hl] at this
   exact this
theorem B6F {a r : AV} {u : Value} (h : VG M' G' os a u) (hd : DG os a r) : VG M2 G' [] r u := by
  rcases hd with ⟨x, h1, rfl⟩ | ⟨cs, xs, rfl, rfl, h1, h2⟩
  · have hv : VC M' G' os a u := by
      cases a with
      | agg cs => rcases h1 with h1 | ⟨_, _, _, _, _, h1, _⟩; · rcases h1 with h1 | ⟨_, _, _, _, _, h1, _⟩ <;> cases h1
                  cases h1
      | _ => exact h
    exact B6D he hm hb hv h1
  · obtain ⟨vs, rfl, h3, h4⟩ := h
    refine ⟨vs, rfl, by simpa [h1] using h3, fun j c v hc hv => ?_⟩
    rw [G4] at hc
    obtain ⟨x, hx, rfl⟩ := H6.1 hc
    have hlt := (B2.1 hx).1
    have h0 : cs[j]? = some cs[j] := C9 (by omega)
    exact B6D he hm hb (h4 j _ v h0 hv) (h2 j _ x h0 hx)
theorem C9C{a r:AV}{u:Value}(h:VA M' G' os a u)(hd:DA os a r):VA M2 G' [] r u:=by
 rcases hd with hd|⟨cs,rs,rfl,rfl,h1,h2⟩
 ·have hv:VG M' G' os a u:=by
   rcases hd with ⟨x,h1,_⟩|⟨cs,xs,rfl,_⟩
   ·rcases h1 with (rfl|⟨_,_,_,_,_,rfl,_⟩)|⟨_,_,_,_,_,rfl,_⟩<;>exact h
   ·exact h
  have h3:=B6F he hm hb hv hd
  rcases hd with ⟨x,_,rfl⟩|⟨cs,xs,_,rfl,_⟩<;>exact h3
 ·obtain⟨vs,rfl,h3,h4⟩:=h
  refine⟨vs,rfl,by omega,λj c v hc hv=>?_⟩
  have hlt:=(B2.1 hc).1
  have h0:cs[j]?=some cs[j]:=C9 (by omega)
  exact B6F he hm hb (h4 j _ v h0 hv) (h2 j _ c h0 hc)
end
theorem B4.deep{P:Program}{f:FuncId}{args:List AV}{Q:AV->List AO->Prop}{Q':AV->Prop}(h:B4 P f args [] Q)(hq:∀r os,Q r os->∃r',DA os r r'/\Q' r'):B4 P f args [] (λr os=>Q' r/\os=[]):=by
 refine⟨h.1,λM G w vs he hl hv=>(h.2 M G w vs he hl hv).mono ?_⟩
 rintro e w' ⟨v,rfl,M',G',r,os,h1,h2,h3,h4⟩
 obtain⟨r',h5,h6⟩:=hq r os h4
 let M2:C5:=λy=>if w.heap.size<=y.block then w'.cell? y else M y
 have hm:∀y u,M' y=some u->M2 y=some u:=by
  intro y u hy
  by_cases hb:w.heap.size<=y.block
  ·simp only[M2,hb,if_true];exact h1.mem y u hy
  ·simp only[M2,hb,if_false]
   rcases h2.fresh y u hy with h7|h7|⟨i,hi,_⟩
   ·exact h7
   ·exact absurd h7 hb
   ·exact(e9 hi).elim
 have hb:∀i,E6 os i->∀(o:Nat) u,w'.cell? ⟨G'.blk i,o,none⟩=some u->M2 ⟨G'.blk i,o,none⟩=some u:=by
  intro i hi o u hu
  rcases h2.own i hi with h7|⟨j,hj,_⟩
  ·simp only[M2,h7,if_true];exact hu
  ·exact(e9 hj).elim
 refine⟨v,rfl,M2,G',r',[],⟨λy u hy=>?_,λid o ho=>by simp at ho,λi j hi=>(e9 hi).elim,λi y u hi=>(e9 hi).elim,λb hb=>⟨(h1.glb b hb).1,λi hi=>(e9 hi).elim⟩⟩,
  {sys:=h2.sys,tape:=h2.tape,output:=h2.output,size:=h2.size,frame:=h2.frame,grow:=λy u hy=>hm y u (h2.grow y u hy),fresh:=λy u hy=>?_,own:=λi hi=>(e9 hi).elim,keep:=λi o ho=>by simp at ho},C9C h1 hm hb h3 h5,h6,rfl⟩
 ·by_cases hb:w.heap.size<=y.block
  ·simp only[M2,hb,if_true] at hy;exact hy
  ·simp only[M2,hb,if_false] at hy;exact h1.mem y u (h2.grow y u hy)
 ·by_cases hb:w.heap.size<=y.block
  ·exact .inr (.inl hb)
  ·simp only[M2,hb,if_false] at hy;exact .inl hy
theorem B4.deepP{P:Program}{f:FuncId}{args:List AV}{Q:AV->List AO->Prop}{r':AV}(h:B4 P f args [] Q)(hq:∀r os,Q r os->DA os r r'):Pure P f args r':=
 (h.deep (Q':=λr=>r=r') λr os hh=>⟨r',hq r os hh,rfl⟩)
end Go.Bi
end
section
namespace Go.Bi
open Go
structure A4O(k:Nat)(P:Program)(n nb:Nat)(cd:IC)(N:Sl->List AO->Prop)(E:Nat->Sl->List AO->Prop)(R:Sl->List AO->Prop)(L:Sl)(os:List AO):Prop where
 h:∀body,cC P n body=some cd->∀c M G w a,W6 n nb c M G os w (D5 L) a->Code.rounds P body (post n nb c (toK ⟨N,E,R⟩)) k a w
section
variable {P:Program}{n nb:Nat}{cd:IC}{N:Sl->List AO->Prop}{E0:Nat->Sl->List AO->Prop}{R:Sl->List AO->Prop}{L:Sl}{os:List AO}
theorem A1z(k:Nat)(h:A4O k P n nb cd N E0 R L os):j6 P n nb cd N E0 R L os:=by
 refine⟨λcode=>?_⟩
 induction code with
 |loop body ih=>
  intro hc c M G w a hR
  simp only[cC] at hc
  obtain⟨ic',hic,he⟩:=Q8 hc
  cases he
  exact wp_loop_rounds k (h.h body hic c M G w a hR)
 |scope x ih=>
  intro hc c M G w a hR
  simp only[cC] at hc
  refine wp_scope_straight (wp_mono (ih hc c M G w a hR) λe a' w' hp=>?_)
  cases e<;>first|exact hp|exact hp.elim
 |skip=>intro hc;simp[cC] at hc
 |region id ops draw=>intro hc;simp only[cC] at hc;split at hc<;>(try split at hc)<;>(try split at hc)<;>(try split at hc)<;>cases hc
 |seq x y=>intro hc;simp only[cC] at hc;split at hc<;>cases hc
 |cond cnd x y=>intro hc;simp only[cC] at hc;split at hc<;>cases hc
 |block id x=>intro hc;simp only[cC] at hc;obtain⟨_,_,he⟩:=Q8 hc;cases he
 |exit id=>intro hc;simp[cC] at hc
 |ret=>intro hc;simp[cC] at hc
 |_=>intro hc;simp[cC] at hc
theorem P4(hm:P.follows .mixedOrders=true){k:Nat}(h:Go (xI P n nb cd (λL' os'=>A4O k P n nb cd N E0 R L' os') E0 R L os)):A4O (k+1) P n nb cd N E0 R L os:=by
 refine⟨λbody hb c M G w a hR=>?_⟩
 rw[rounds_succ]
 have h1:=A3j (K:=⟨λL' os'=>A4O k P n nb cd N E0 R L' os',E0,R⟩) (K':=toK ⟨λL' os'=>A4O k P n nb cd N E0 R L' os',E0,R⟩) ⟨λL' os' h=>⟨L',rfl,h⟩,λi L' os' h=>⟨L',rfl,h⟩,λL' os' h=>⟨L',rfl,h⟩⟩ h
 refine wp_mono (A6m hm body cd hb _ _ _ h1 c M G w a hR) λe a' w' hp=>?_
 cases e with
 |normal=>
  obtain⟨M',G',os',ρ',hR',L',rfl,hk⟩:=hp
  exact hk.h body hb c M' G' w' a' hR'
 |exit id=>exact hp
 |ret=>exact hp
 |_=>exact hp
theorem A6o(id off sz:Nat)(hsz:Nat.blt 0 sz=true){cs:List AV}(ho:os[id]?=some (.cells cs))(hn:cs[off]?=some (.d .nil))
  (k:j6 P n nb cd N E0 R L ((os++[AO.arr [] sz 0 true]).set id (.cells (cs.set off (.arr os.length 0))))):j6 P n nb cd N E0 R L os:=by
 have hw:=B9D (n:=n) (nb:=nb) (ρ:=D5 L) (os:=os) id off sz (A1J Nat.zero_lt_one (P2 hsz)) ho hn
 refine⟨λcode hc c M G w a hR=>?_⟩
 obtain⟨M',G',hR'⟩:=hw c M G w a hR
 exact k.h code hc c M' G' w a hR'
theorem A6p(id off sz:Nat)(hsz:Nat.blt 0 sz=true){cs:List AV}(ho:os[id]?=some (.cells cs))(hn:cs[off]?=some (.d .nil))
  (k:j6 P n nb cd N E0 R L ((os++[AO.rarr [] sz true]).set id (.cells (cs.set off (.rs os.length 0))))):j6 P n nb cd N E0 R L os:=by
 have hw:=D3v (n:=n) (nb:=nb) (ρ:=D5 L) (os:=os) id off sz (A1J Nat.zero_lt_one (P2 hsz)) ho hn
 refine⟨λcode hc c M G w a hR=>?_⟩
 obtain⟨M',G',hR'⟩:=hw c M G w a hR
 exact k.h code hc c M' G' w a hR'
end
theorem B4.own_nil{P:Program}{f:FuncId}{args:List AV}(sz:Nat)(hsz:0<sz)(h:B4 P f args [] (λr os=>r=.d .nil/\os=[])):B4 P f args [] (λr os=>r=.arr 0 0/\os=[.arr [] sz 0 true]):=by
 refine⟨h.1,λM G w vs he hl hv=>(h.2 M G w vs he hl hv).mono ?_⟩
 rintro e w' ⟨v,rfl,M',G',r,os,h1,h2,h3,rfl,rfl⟩
 obtain⟨n1,n2⟩:=A5r h1 sz hsz
 refine⟨v,rfl,M',G',_,_,n1,h2.trans n2,?_,rfl,rfl⟩
 have:=A05 h3
 subst this
 exact⟨rfl,[],sz,0,true,rfl,M9 _,λ_=>by simp[Gh.slv]⟩
end Go.Bi
end
