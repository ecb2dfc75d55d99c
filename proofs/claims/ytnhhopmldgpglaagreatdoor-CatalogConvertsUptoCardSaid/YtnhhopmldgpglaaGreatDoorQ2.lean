/- Texts of this claim, joined. No condition. -/
import Derived.Test.YtnhhopmldgpglaaGreatDoorQ1
import Derived.LoopN
import Derived.Test.YtnhhopmldgpglaaGreatDoorBi
import Derived.Shelf.Sort.Plain
import Derived.Shelf.Slices.In.SortNone
import Derived.Shelf.Slices.CompactI
set_option linter.unusedSimpArgs false
set_option linter.unusedVariables false
set_option maxRecDepth 10000
set_option maxHeartbeats 4000000
section
namespace Go.Proofs
open Go.Bi
def M8(op n:Int)(v:Vl)(name:List UInt8)(k:Nat):Bool:=
 (S4 op k).1&&decide (name=[])&&(if op=1 then decide (n=0)&&K7 v else if op=24 then decide (0<=n/\n<13)&&decide (v=F4) else if op=2 then decide (v=F4) else decide (n=0)&&decide (v=F4))
theorem A42(v:Vl):decide (v=F4)=(decide (v.k=0)&&(decide (v.n=0)&&decide (v.s=[]))):=by
 rw[A0U]
 simp only[decide_eq_true_eq,L6,D80]
 exact Iff.rfl
theorem B9G(n:Int)(v:Vl)(k:Nat)(h:(S4 1 k).1=true):M8 1 n v [] k=(decide (n=0)&&K7 v):=by unfold M8;rw[h];rfl
theorem B9I(n:Int)(v:Vl)(k:Nat)(h:(S4 24 k).1=true):M8 24 n v [] k=(decide (0<=n/\n<13)&&decide (v=F4)):=by unfold M8;rw[h];rfl
theorem B9H(n:Int)(v:Vl)(k:Nat)(h:(S4 2 k).1=true):M8 2 n v [] k=decide (v=F4):=by unfold M8;rw[h];rfl
theorem B9J(op n:Int)(v:Vl)(k:Nat)(h:(S4 op k).1=true)(h1:op≠1)(h2:op≠24)(h3:op≠2):M8 op n v [] k=(decide (n=0)&&decide (v=F4)):=by unfold M8;rw[h,if_neg h1,if_neg h2,if_neg h3];rfl
theorem C3A(op n:Int)(v:Vl)(name:List UInt8)(d:D)(es:List (List D))(hd:B3 d es)(hs:v.s.length<=1048576)(hl:es.length<=1048576):Pure Tryz.prog B7t [eX op n v name d] (.d (.bool (M8 op n v name es.length))):=by
 refine C6b.go A4 rfl ?_
 have hV:=A5m v (by omega)
 have hC:=B2K op es.length
 cases hc:(S4 op es.length).1 with
 |false=>
  have hr:M8 op n v name es.length=false:=by unfold M8;rw[hc];rfl
  rw[hr]
  rw[hc] at hC
  repeat' first|refine st ?_|((with_reducible apply C4);conv=>whnf)|refine⟨λ_=>?_,λ_=>?_⟩|fail
 |true=>
 rw[hc] at hC
 by_cases hn:name=[]
 rotate_left
 ·have hr:M8 op n v name es.length=false:=by unfold M8;rw[decide_eq_false hn,Bool.and_false];rfl
  rw[hr]
  repeat' first|refine st ?_|((with_reducible apply C4);conv=>whnf)|refine⟨λ_=>?_,λ_=>?_⟩|fail
  all_goals rfl
 subst hn
 by_cases h1:op=1
 ·subst h1
  obtain⟨r,hr⟩:∃r,r=M8 1 n v [] es.length:=⟨_,rfl⟩
  rw[<- hr]
  rw[B9G _ _ _ hc] at hr
  by_cases hn:n=0
  ·rw[decide_eq_true hn] at hr
   repeat' first|refine st ?_|((with_reducible apply C4);conv=>whnf)|refine⟨λ_=>?_,λ_=>?_⟩|fail
   all_goals (rw[hr];try rfl)
  ·rw[decide_eq_false hn] at hr
   repeat' first|refine st ?_|((with_reducible apply C4);conv=>whnf)|refine⟨λ_=>?_,λ_=>?_⟩|fail
   all_goals (rw[hr];try rfl)
 by_cases h2:op=24
 ·subst h2
  obtain⟨r,hr⟩:∃r,r=M8 24 n v [] es.length:=⟨_,rfl⟩
  rw[<- hr]
  rw[B9I _ _ _ hc,A42] at hr
  by_cases hn:0<=n/\n<13
  ·rw[decide_eq_true hn] at hr
   obtain⟨n1,n2⟩:=hn
   have n3:¬n<0:=by omega
   have n4:¬13<=n:=by omega
   repeat' first|refine st ?_|((with_reducible apply C4);conv=>whnf)|refine⟨λ_=>?_,λ_=>?_⟩|fail
   all_goals (rw[hr];try (clear hr;simp_all[F4];try omega))
  ·rw[decide_eq_false hn] at hr
   repeat' first|refine st ?_|((with_reducible apply C4);conv=>whnf)|refine⟨λ_=>?_,λ_=>?_⟩|fail
   all_goals (rw[hr];try (clear hr;simp_all[F4];try omega))
 by_cases h3:op=2
 ·subst h3
  obtain⟨r,hr⟩:∃r,r=M8 2 n v [] es.length:=⟨_,rfl⟩
  rw[<- hr]
  rw[B9H _ _ _ hc,A42] at hr
  repeat' first|refine st ?_|((with_reducible apply C4);conv=>whnf)|refine⟨λ_=>?_,λ_=>?_⟩|fail
  all_goals (rw[hr];try rfl)
 obtain⟨r,hr⟩:∃r,r=M8 op n v [] es.length:=⟨_,rfl⟩
 rw[<- hr]
 rw[B9J _ _ _ _ hc h1 h2 h3,A42] at hr
 by_cases hn:n=0
 ·rw[decide_eq_true hn] at hr
  repeat' first|refine st ?_|((with_reducible apply C4);conv=>whnf)|refine⟨λ_=>?_,λ_=>?_⟩|fail
  all_goals (rw[hr];try rfl)
 ·rw[decide_eq_false hn] at hr
  repeat' first|refine st ?_|((with_reducible apply C4);conv=>whnf)|refine⟨λ_=>?_,λ_=>?_⟩|fail
  all_goals (rw[hr];try rfl)
theorem C3S(op n:Int)(v:Vl)(name:List UInt8)(d:D)(es:List (List D))(hd:B3 d es)(hs:v.s.length<=1048576)(hl:es.length<=1048576):Pure Tryz.prog B6K [eX op n v name d] (.d (.bool (M8 op n v name es.length))):=by
 refine C5j.go A4 rfl ?_
 have hV:=A5j v (by omega)
 have hC:=B2Q op
 have hac:=(B8o op es.length hl).1
 cases hc:(S4 op es.length).1 with
 |false=>
  have hr:M8 op n v name es.length=false:=by unfold M8;rw[hc];rfl
  rw[hr]
  rw[hc] at hac
  have hac:(m5 op).1<0\/(es.length:Int)<(m5 op).1\/(m5 op).2<(es.length:Int):=by
   have:=of_decide_eq_false hac.symm
   omega
  repeat' first|refine st ?_|((with_reducible apply C4);conv=>whnf)|refine⟨λ_=>?_,λ_=>?_⟩|fail
  all_goals first|rfl|(exfalso;omega)
 |true=>
 rw[hc] at hac
 have hac:=of_decide_eq_true hac.symm
 have a1:¬(m5 op).1<0:=by omega
 have a2:¬(es.length:Int)<(m5 op).1:=by omega
 have a3:¬(m5 op).2<(es.length:Int):=by omega
 clear hac
 by_cases hn:name=[]
 rotate_left
 ·have hr:M8 op n v name es.length=false:=by unfold M8;rw[decide_eq_false hn,Bool.and_false];rfl
  rw[hr]
  repeat' first|refine st ?_|((with_reducible apply C4);conv=>whnf)|refine⟨λ_=>?_,λ_=>?_⟩|fail
  all_goals rfl
 subst hn
 by_cases h1:op=1
 ·subst h1
  obtain⟨r,hr⟩:∃r,r=M8 1 n v [] es.length:=⟨_,rfl⟩
  rw[<- hr]
  rw[B9G _ _ _ hc] at hr
  by_cases hn:n=0
  ·rw[decide_eq_true hn] at hr
   repeat' first|refine st ?_|((with_reducible apply C4);conv=>whnf)|((with_reducible first|apply x9|apply x8);(·exact A0n))|refine⟨λ_=>?_,λ_=>?_⟩|fail
   all_goals (rw[hr];try rfl)
  ·rw[decide_eq_false hn] at hr
   repeat' first|refine st ?_|((with_reducible apply C4);conv=>whnf)|((with_reducible first|apply x9|apply x8);(·exact A0n))|refine⟨λ_=>?_,λ_=>?_⟩|fail
   all_goals (rw[hr];try rfl)
 by_cases h2:op=24
 ·subst h2
  obtain⟨r,hr⟩:∃r,r=M8 24 n v [] es.length:=⟨_,rfl⟩
  rw[<- hr]
  rw[B9I _ _ _ hc,A42] at hr
  by_cases hn:0<=n/\n<13
  ·rw[decide_eq_true hn] at hr
   obtain⟨n1,n2⟩:=hn
   have n3:¬n<0:=by omega
   have n4:¬13<=n:=by omega
   repeat' first|refine st ?_|((with_reducible apply C4);conv=>whnf)|((with_reducible first|apply x9|apply x8);(·exact A0n))|refine⟨λ_=>?_,λ_=>?_⟩|fail
   all_goals (rw[hr];try (clear hr;simp_all[F4];try omega))
  ·rw[decide_eq_false hn] at hr
   repeat' first|refine st ?_|((with_reducible apply C4);conv=>whnf)|((with_reducible first|apply x9|apply x8);(·exact A0n))|refine⟨λ_=>?_,λ_=>?_⟩|fail
   all_goals (rw[hr];try (clear hr;simp_all[F4];try omega))
 by_cases h3:op=2
 ·subst h3
  obtain⟨r,hr⟩:∃r,r=M8 2 n v [] es.length:=⟨_,rfl⟩
  rw[<- hr]
  rw[B9H _ _ _ hc,A42] at hr
  repeat' first|refine st ?_|((with_reducible apply C4);conv=>whnf)|((with_reducible first|apply x9|apply x8);(·exact A0n))|refine⟨λ_=>?_,λ_=>?_⟩|fail
  all_goals (rw[hr];try rfl)
 obtain⟨r,hr⟩:∃r,r=M8 op n v [] es.length:=⟨_,rfl⟩
 rw[<- hr]
 rw[B9J _ _ _ _ hc h1 h2 h3,A42] at hr
 by_cases hn:n=0
 ·rw[decide_eq_true hn] at hr
  repeat' first|refine st ?_|((with_reducible apply C4);conv=>whnf)|((with_reducible first|apply x9|apply x8);(·exact A0n))|refine⟨λ_=>?_,λ_=>?_⟩|fail
  all_goals (rw[hr];try rfl)
 ·rw[decide_eq_false hn] at hr
  repeat' first|refine st ?_|((with_reducible apply C4);conv=>whnf)|((with_reducible first|apply x9|apply x8);(·exact A0n))|refine⟨λ_=>?_,λ_=>?_⟩|fail
  all_goals (rw[hr];try rfl)
def w64(n:Int):Int:=IntKind.i64.wrap n
theorem A8x{α β:Type}(f:β->α->β)(b:β)(l:List α)(i:Nat)(x:α)(h:l[i]?=some x):(l.take (i+1)).foldl f b=f ((l.take i).foldl f b) x:=by
 rw[P1,h];simp
theorem B10{op:Int}{k:Nat}(h:(S4 op k).1=true):((op=1\/op=2)/\k=0)\/((op=4\/op=18\/op=20\/op=21)/\k=1)\/((7<=op/\op<=17\/op=19)/\k=2)\/((op=5\/op=6)/\2<=k)\/(op=22/\k=3)\/(op=23/\1<=k)\/(op=24/\k=4):=by
 unfold S4 at h
 repeat' split at h
 all_goals (simp at h)
 all_goals omega
theorem B1q{op n:Int}{v:Vl}{name:List UInt8}{k:Nat}(h:M8 op n v name k=true):(S4 op k).1=true:=by
 unfold M8 at h
 simp only[L6] at h
 exact h.1.1
theorem D7P:K7 F4=true:=by decide
theorem D7R(v:Vl):K7 (z8 v)=true:=by
 unfold z8
 split
 ·assumption
 ·exact D7P
abbrev z3:List D:=[eI 0,eI 0,.str []]
def A0j(k:Int):List Int->Int×Bool
 |[]=>(k,true)
 |x::l=>if x=0 then A0j k l else if k≠0/\k≠x then (0,false) else A0j x l
def k9(l:List Int):Int×Bool:=A0j 0 l
theorem C27{k:Int}{l:List Int}{i:Nat}{x:Int}(h:l[i]?=some x):A0j k (l.drop i)=if x=0 then A0j k (l.drop (i+1)) else if k≠0/\k≠x then (0,false) else A0j x (l.drop (i+1)):=by
 obtain⟨hlt,he⟩:=A7.1 h
 rw[P7 hlt,he];rfl
theorem A9y(l:List Int)(hl:l.length<=1048577)(d:D)(hd:B3 d (A0 l)):Pure Tryz.prog B7v [.d d] (.tup [.d (eI (k9 l).1),.d (.bool (k9 l).2)]):=by
 refine C6d.go A4 rfl ?_
 have h1:=B4 l
 have hm:=C9 l
 repeat' first|refine st ?_|((with_reducible apply C4);conv=>whnf)|refine⟨λ_=>?_,λ_=>?_⟩|fail
 refine I2 A4 C9c C84 (λ(i:Nat) (k:Int)=>[.d (eI k),.d (eI i)]) (λi k=>[]) (λi k=>i<=l.length/\k9 l=A0j k (l.drop i)) (λi _=>l.length-i) 0 0 rfl rfl rfl rfl (λ_ _ _=>⟨rfl,rfl⟩) rfl ⟨by omega,rfl⟩ ?_
 repeat' first|refine st ?_|((with_reducible apply C4);conv=>whnf)|refine⟨λ_=>?_,λ_=>?_⟩|fail
 intro i k ⟨h2,h3⟩
 cases hx:l[i]? with
 |some x=>
  have hlt:=(A7.1 hx).1
  have hg:=K5 hx
  rw[C27 hx] at h3
  by_cases hx0:x=0
  ·rw[if_pos hx0] at h3
   repeat' first|refine st ?_|((with_reducible apply C4);conv=>whnf)|refine⟨λ_=>?_,λ_=>?_⟩|fail
   exact⟨i+1,_,rfl,rfl,rfl,by omega,by omega,h3⟩
  ·rw[if_neg hx0] at h3
   by_cases hk:k≠0/\k≠x
   ·rw[if_pos hk] at h3
    rw[h3]
    obtain⟨hk1,hk2⟩:=hk
    repeat' first|refine st ?_|((with_reducible apply C4);conv=>whnf)|refine⟨λ_=>?_,λ_=>?_⟩|fail
    all_goals rfl
   ·rw[if_neg hk] at h3
    by_cases hk0:k=0
    ·repeat' first|refine st ?_|((with_reducible apply C4);conv=>whnf)|refine⟨λ_=>?_,λ_=>?_⟩|fail
     exact⟨i+1,_,rfl,rfl,rfl,by omega,by omega,h3⟩
    ·have hkx:k=x:=by omega
     repeat' first|refine st ?_|((with_reducible apply C4);conv=>whnf)|refine⟨λ_=>?_,λ_=>?_⟩|fail
     exact⟨i+1,_,rfl,rfl,rfl,by omega,by omega,h3⟩
 |none=>
  have hge:=C8.1 hx
  rw[S1 hge] at h3
  rw[h3]
  repeat' first|refine st ?_|((with_reducible apply C4);conv=>whnf)|refine⟨λ_=>?_,λ_=>?_⟩|fail
  all_goals rfl
theorem B2R(l:List Int)(hl:l.length<=1048577)(d:D)(hd:B3 d (A0 l)):Pure Tryz.prog B6L [.d d] (.tup [.d (eI (k9 l).1),.d (.bool (k9 l).2)]):=by
 refine C5k.go A4 rfl ?_
 have h1:=B4 l
 have hm:=C9 l
 repeat' first|refine st ?_|((with_reducible apply C4);conv=>whnf)|refine⟨λ_=>?_,λ_=>?_⟩|fail
 refine I2 A4 C8u C7m (λ(i:Nat) (k:Int)=>[.d (eI k),.d (eI i)]) (λi k=>[]) (λi k=>i<=l.length/\k9 l=A0j k (l.drop i)) (λi _=>l.length-i) 0 0 rfl rfl rfl rfl (λ_ _ _=>⟨rfl,rfl⟩) rfl ⟨by omega,rfl⟩ ?_
 repeat' first|refine st ?_|((with_reducible apply C4);conv=>whnf)|refine⟨λ_=>?_,λ_=>?_⟩|fail
 intro i k ⟨h2,h3⟩
 cases hx:l[i]? with
 |some x=>
  have hlt:=(A7.1 hx).1
  have hg:=K5 hx
  rw[C27 hx] at h3
  by_cases hx0:x=0
  ·rw[if_pos hx0] at h3
   repeat' first|refine st ?_|((with_reducible apply C4);conv=>whnf)|refine⟨λ_=>?_,λ_=>?_⟩|fail
   exact⟨i+1,_,rfl,rfl,rfl,by omega,by omega,h3⟩
  ·rw[if_neg hx0] at h3
   by_cases hk:k≠0/\k≠x
   ·rw[if_pos hk] at h3
    rw[h3]
    obtain⟨hk1,hk2⟩:=hk
    repeat' first|refine st ?_|((with_reducible apply C4);conv=>whnf)|refine⟨λ_=>?_,λ_=>?_⟩|fail
    all_goals rfl
   ·rw[if_neg hk] at h3
    by_cases hk0:k=0
    ·repeat' first|refine st ?_|((with_reducible apply C4);conv=>whnf)|refine⟨λ_=>?_,λ_=>?_⟩|fail
     exact⟨i+1,_,rfl,rfl,rfl,by omega,by omega,h3⟩
    ·have hkx:k=x:=by omega
     repeat' first|refine st ?_|((with_reducible apply C4);conv=>whnf)|refine⟨λ_=>?_,λ_=>?_⟩|fail
     exact⟨i+1,_,rfl,rfl,rfl,by omega,by omega,h3⟩
 |none=>
  have hge:=C8.1 hx
  rw[S1 hge] at h3
  rw[h3]
  repeat' first|refine st ?_|((with_reducible apply C4);conv=>whnf)|refine⟨λ_=>?_,λ_=>?_⟩|fail
  all_goals rfl
def j0(l:List Int)(c:Int):Bool:=l.all λx=>decide (x=c\/x=0)
theorem C28(c:Int)(hc:c≠0):∀(l:List Int)(k:Int),((A0j k (l++[c])).2&&decide ((A0j k (l++[c])).1=c))=(decide (k=0\/k=c)&&j0 l c)
 |[],k=>by
  simp only[A1v,A0j,if_neg hc,j0,List.all_nil,Bool.and_true]
  by_cases h:k≠0/\k≠c
  ·rw[if_pos h,decide_eq_false (show ¬(k=0\/k=c) by omega)];rfl
  ·rw[if_neg h,decide_eq_true (show k=0\/k=c by omega)];simp
 |x::l,k=>by
  have ih:=C28 c hc l
  simp only[A3n,A0j,j0,i6] at ih ⊢
  by_cases hx:x=0
  ·rw[if_pos hx,ih k,decide_eq_true (show x=c\/x=0 from .inr hx)];simp
  ·rw[if_neg hx]
   by_cases h:k≠0/\k≠x
   ·rw[if_pos h]
    by_cases hxc:x=c
    ·rw[decide_eq_false (show ¬(k=0\/k=c) by omega)];simp
    ·rw[decide_eq_false (show ¬(x=c\/x=0) by omega)];simp
   ·rw[if_neg h,ih x]
    by_cases hxc:x=c
    ·rw[decide_eq_true (show x=0\/x=c from .inr hxc),decide_eq_true (show x=c\/x=0 from .inl hxc),decide_eq_true (show k=0\/k=c by omega)];simp
    ·rw[decide_eq_false (show ¬(x=0\/x=c) by omega),decide_eq_false (show ¬(x=c\/x=0) by omega)];simp
theorem C3c:Pure Tryz.prog W9 [.d .nil] (.d .nil):=by
 refine A7E.go A4 rfl ?_
 repeat' first|refine st ?_|((with_reducible apply C4);conv=>whnf)|refine⟨λ_=>?_,λ_=>?_⟩|fail
theorem C3d(es:List (List D))(hl:es.length<=1048577)(hm:∀e∈es,e.length=1):B0 Tryz.prog W9 [.d (.sl es)] [] (λr os=>r=.arr 0 es.length/\os=[.arr es 1 0 false]):=by
 refine A7E.goO A4 rfl ?_
 have h0:([]:List (List D)).length=0:=rfl
 have h00:(([]:List (List D))++es).length=es.length:=rfl
 have hb:(([]:List (List D)).length+es.length)*8<=140737488355328/\([]:List (List D)).length+es.length<=9223372036854775807:=by rw[h0];omega
 repeat' first|refine st ?_|((with_reducible apply C4);conv=>whnf)|refine⟨λ_=>?_,λ_=>?_⟩|fail
 all_goals (refine⟨rfl,?_⟩;cases es<;>rfl)
theorem D3W(l:List Int)(x:Int):A0 l++[[eI x]]=A0 (l++[x]):=by simp[A0]
theorem A7n(l:List Int)(hl:l.length<=1048576)(d:D)(hd:B3 d (A0 l))(c:Int)(hc:c≠0):Pure Tryz.prog B7s [.d d,.d (eI c)] (.d (.bool (j0 l c))):=by
 refine C67.go A4 rfl ?_
 have h1:=B4 l
 have hm:=C9 l
 have hU:=A9y (l++[c]) (by simp;omega) (.sl (A0 (l++[c]))) J7
 have hres:=C28 c hc l 0
 rw[show decide ((0:Int)=0\/(0:Int)=c)=true from rfl,Y9] at hres
 rw[<- hres]
 unfold k9 at hU
 rw[<- D3W] at hU
 obtain⟨x,b⟩:∃x b,A0j 0 (l++[c])=(x,b):=⟨_,_,rfl⟩
 rcases hd with ⟨rfl,he⟩|rfl
 ·rw[he] at hU
  repeat' first|refine st ?_|((with_reducible apply C4);conv=>whnf)|((with_reducible first|apply x9|apply x8);(·exact C3c))|refine⟨λ_=>?_,λ_=>?_⟩|fail
  all_goals simp[*]
 ·have hC:=C3d (A0 l) (by omega) hm
  have ha:(A0 l++[[eI c]]).length=l.length+1:=by simp[h1]
  repeat' first|refine st ?_|((with_reducible apply C4);conv=>whnf)|((with_reducible first|apply I5|apply I8);(·exact hC);(try rintro _ _ ⟨rfl,rfl⟩))|((with_reducible apply I9);(·exact hC))|refine⟨λ_=>?_,λ_=>?_⟩|fail
  all_goals simp[*]
theorem A7o(l:List Int)(hl:l.length<=1048577)(d:D)(hd:B3 d (A0 l))(c:Int):Pure Tryz.prog B6N [.d d,.d (eI c)] (.d (.bool (j0 l c))):=by
 refine C5m.go A4 rfl ?_
 have h1:=B4 l
 have hm:=C9 l
 repeat' first|refine st ?_|((with_reducible apply C4);conv=>whnf)|refine⟨λ_=>?_,λ_=>?_⟩|fail
 refine F2 A4 C8w C7o (λ(i:Nat)=>[.d (eI i)]) (λi=>[]) (λi=>i<=l.length/\(l.take i).all (λx=>decide (x=c\/x=0))=true) (λi=>l.length-i) 0 rfl rfl rfl rfl (λ_ _=>⟨rfl,rfl⟩) rfl ⟨by omega,rfl⟩ ?_
 repeat' first|refine st ?_|((with_reducible apply C4);conv=>whnf)|refine⟨λ_=>?_,λ_=>?_⟩|fail
 intro i ⟨h2,h3⟩
 cases hx:l[i]? with
 |some x=>
  have hlt:=(A7.1 hx).1
  have hg:=K5 hx
  by_cases hk:x=c
  ·repeat' first|refine st ?_|((with_reducible apply C4);conv=>whnf)|refine⟨λ_=>?_,λ_=>?_⟩|fail
   refine⟨i+1,rfl,rfl,rfl,by omega,by omega,?_⟩
   rw[A3z hx,h3,decide_eq_true (show x=c\/x=0 from .inl hk)];rfl
  ·by_cases hk0:x=0
   ·repeat' first|refine st ?_|((with_reducible apply C4);conv=>whnf)|refine⟨λ_=>?_,λ_=>?_⟩|fail
    refine⟨i+1,rfl,rfl,rfl,by omega,by omega,?_⟩
    rw[A3z hx,h3,decide_eq_true (show x=c\/x=0 from .inr hk0)];rfl
   ·repeat' first|refine st ?_|((with_reducible apply C4);conv=>whnf)|refine⟨λ_=>?_,λ_=>?_⟩|fail
    rw[j0,A4p hx (decide_eq_false (show ¬(x=c\/x=0) by omega))]
 |none=>
  have hge:=C8.1 hx
  rw[J5 hge] at h3
  repeat' first|refine st ?_|((with_reducible apply C4);conv=>whnf)|refine⟨λ_=>?_,λ_=>?_⟩|fail
  rw[j0,h3]
def s8(op:Int)(v:Vl)(l:List Int):Int×Bool:=
 if op=1 then (v.k,true)
 else if op=4\/op=5\/op=6 then (3,j0 l 3)
 else if op=7\/op=8\/op=9\/op=10\/op=11\/op=12 then (3,(k9 l).2)
 else if op=19 then (2,j0 l 2)
 else if op=20 then (1,j0 l 2)
 else if op=21 then (3,true)
 else if op=22 then ((k9 (l.drop 1)).1,(k9 (l.drop 1)).2&&j0 (l.take 1) 3)
 else if op=23 then k9 l
 else if op=24 then (3,j0 l 1) else (1,j0 l 1)
theorem B9a(l:List Int)(i:Nat):(A0 l).drop i=A0 (l.drop i):=by simp[A0]
theorem B9b(l:List Int)(i:Nat):(A0 l).take i=A0 (l.take i):=by simp[A0]
theorem B2M(op n:Int)(v:Vl)(name:List UInt8)(d0:D)(l:List Int)(hl:l.length<=1048576)(d:D)(hd:B3 d (A0 l))(h22:op=22->1<=l.length):Pure Tryz.prog B7u [eX op n v name d0,.d d] (.tup [.d (eI (s8 op v l).1),.d (.bool (s8 op v l).2)]):=by
 refine C6c.go A4 rfl ?_
 have h1:=B4 l
 have hm:=C9 l
 by_cases h22':op=22
 ·subst h22'
  have hl1:=h22 rfl
  rcases hd with ⟨rfl,he⟩|rfl
  ·rw[he] at h1;simp at h1;omega
  have hU:=A9y (l.drop 1) (by simp;omega) (.sl (A0 (l.drop 1))) J7
  have hA:=A7n (l.take 1) (by simp;omega) (.sl (A0 (l.take 1))) J7 3 (by decide)
  have hcut:((A0 l).drop (1:Int).toNat).take (((A0 l).length:Int).toNat-(1:Int).toNat)=A0 (l.drop 1):=by
   rw[<- B9a,show(1:Int).toNat=1 from rfl,J5]
   simp
  have hcut2:((A0 l).drop ((0:Nat):Int).toNat).take ((1:Int).toNat-((0:Nat):Int).toNat)=A0 (l.take 1):=by
   rw[<- B9b];rfl
  rw[show s8 22 v l=((k9 (l.drop 1)).1,(k9 (l.drop 1)).2&&j0 (l.take 1) 3) from rfl]
  obtain⟨⟨k,b⟩,hkb⟩:∃kb,k9 (l.drop 1)=kb:=⟨_,rfl⟩
  rw[hkb] at hU ⊢
  obtain⟨z,hz⟩:∃z,j0 (l.take 1) 3=z:=⟨_,rfl⟩
  rw[hz] at hA ⊢
  obtain⟨e1,he1⟩:∃e1,e1=A0 (l.drop 1):=⟨_,rfl⟩
  obtain⟨e2,he2⟩:∃e2,e2=A0 (l.take 1):=⟨_,rfl⟩
  rw[<- he1] at hU hcut
  rw[<- he2] at hA hcut2
  have hel:((A0 l).length:Int)=l.length:=by rw[h1]
  obtain⟨es,hes⟩:∃es,es=A0 l:=⟨_,rfl⟩
  rw[<- hes] at hcut hcut2 hel hm h1 ⊢
  cases b with
  |false=>
   repeat' first|refine st ?_|refine⟨λ_=>?_,λ_=>?_⟩|fail
   all_goals (try rw[hcut])
   repeat' first|refine st ?_|refine⟨λ_=>?_,λ_=>?_⟩|fail
   all_goals rfl
  |true=>
   repeat' first|refine st ?_|refine⟨λ_=>?_,λ_=>?_⟩|fail
   all_goals (try rw[hcut])
   repeat' first|refine st ?_|refine⟨λ_=>?_,λ_=>?_⟩|fail
   all_goals (try rw[hcut2])
   repeat' first|refine st ?_|refine⟨λ_=>?_,λ_=>?_⟩|fail
   all_goals rfl
 have A3:=A7n l hl d hd 3 (by decide)
 have A2:=A7n l hl d hd 2 (by decide)
 have A1:=A7n l hl d hd 1 (by decide)
 have U:=A9y l (by omega) d hd
 repeat' first|refine st ?_|((with_reducible first|apply x9|apply x8);(·first|exact A3|exact A2|exact A1|exact U))|refine⟨λ_=>?_,λ_=>?_⟩|fail
 all_goals first
  |(subst_vars;rfl)
  |(simp only[s8];rw[if_neg (by omega),if_neg (by omega),if_neg (by omega),if_neg (by omega),if_neg (by omega),if_neg (by omega),if_neg (by omega),if_neg (by omega),if_neg (by omega)])
theorem C3Y(n:Int)(v:Vl)(name:List UInt8)(d0:D)(l ks:List Int)(d:D)(hd:B3 d (A0 l))(dk:D)(hdk:B3 dk (A0 ks))(k:Int)(h0:0<=n)(hk:ks[n.toNat]?=some k):Pure Tryz.prog B06 [eX 2 n v name d0,.d d,.d dk] (.tup [.d (eI k),.d (.bool true)]):=by
 refine B3d.go A4 rfl ?_
 have h1:=B4 ks
 have hm:=C9 ks
 have hg:=K5 hk
 have hlt:=(A7.1 hk).1
 have hn2:n<(A0 ks).length:=by omega
 repeat' first|refine st ?_|refine⟨λ_=>?_,λ_=>?_⟩|fail
 all_goals rfl
theorem C3X(op n:Int)(v:Vl)(name:List UInt8)(d0:D)(l:List Int)(hl:l.length<=1048576)(d:D)(hd:B3 d (A0 l))(dk:D)(h22:op=22->1<=l.length)(hop:op=1\/4<=op/\op<=24)(h2:op≠2):Pure Tryz.prog B06 [eX op n v name d0,.d d,.d dk] (.tup [.d (eI (s8 op v l).1),.d (.bool (s8 op v l).2)]):=by
  refine B3d.go A4 rfl ?_
  have h1:=B4 l
  have hm:=C9 l
  by_cases h22':op=22
  · subst h22'
    have hl1:=h22 rfl
    rcases hd with ⟨rfl,he⟩|rfl
    · rw[he] at h1;simp at h1;omega
    have hU:=B2R (l.drop 1) (by simp;omega) (.sl (A0 (l.drop 1))) J7
    have hA:=A7o (l.take 1) (by simp;omega) (.sl (A0 (l.take 1))) J7 3
    have hcut:((A0 l).drop (1:Int).toNat).take (((A0 l).length:Int).toNat-(1:Int).toNat)=A0 (l.drop 1):=by
      rw[<- B9a,show(1:Int).toNat=1 from rfl,J5]
      simp
    have hcut2:((A0 l).drop ((0:Nat):Int).toNat).take ((1:Int).toNat-((0:Nat):Int).toNat)=A0 (l.take 1):=by
      rw[<- B9b];rfl
    rw[show s8 22 v l=((k9 (l.drop 1)).1,(k9 (l.drop 1)).2&&j0 (l.take 1) 3) from rfl]
    obtain⟨⟨k,b⟩,hkb⟩:∃kb,k9 (l.drop 1)=kb:=⟨_,rfl⟩
    rw[hkb] at hU ⊢
    obtain⟨z,hz⟩:∃z,j0 (l.take 1) 3=z:=⟨_,rfl⟩
    rw[hz] at hA ⊢
    obtain⟨e1,he1⟩:∃e1,e1=A0 (l.drop 1):=⟨_,rfl⟩
    obtain⟨e2,he2⟩:∃e2,e2=A0 (l.take 1):=⟨_,rfl⟩
    rw[<- he1] at hU hcut
    rw[<- he2] at hA hcut2
    have hel:((A0 l).length:Int)=l.length:=by rw[h1]
    obtain⟨es,hes⟩:∃es,es=A0 l:=⟨_,rfl⟩
    rw[<- hes] at hcut hcut2 hel hm h1 ⊢
    cases b with
    |false=>
      repeat' first|refine st ?_|refine⟨λ_=>?_,λ_=>?_⟩|fail
      all_goals (try rw[hcut])
      repeat' first|refine st ?_|refine⟨λ_=>?_,λ_=>?_⟩|fail
      all_goals rfl
    |true=>
      repeat' first|refine st ?_|refine⟨λ_=>?_,λ_=>?_⟩|fail
      all_goals (try rw[hcut])
      repeat' first|refine st ?_|refine⟨λ_=>?_,λ_=>?_⟩|fail
      all_goals (try rw[hcut2])
      repeat' first|refine st ?_|refine⟨λ_=>?_,λ_=>?_⟩|fail
      all_goals rfl
  have A3:=A7o l (by omega) d hd 3
  have A2:=A7o l (by omega) d hd 2
  have A1:=A7o l (by omega) d hd 1
  have U:=B2R l (by omega) d hd
  repeat' first|refine st ?_|((with_reducible first|apply x9|apply x8);(·first|exact A3|exact A2|exact A1|exact U))|refine⟨λ_=>?_,λ_=>?_⟩|fail
  all_goals first
    |(subst_vars;rfl)
    | (have : op = 24 := by omega
       subst this;rfl)
end Go.Proofs
end
section
namespace Go.Proofs
open Go.Bi
def fe:List (Int×Int)->Int
 |[]=>0
 |r::rs=>if r.2=0 then fe rs else r.2
def S0(op n:Int)(v:Vl)(name:List UInt8)(ks:List Int)(k:Nat)(rs:List (Int×Int)):Int×Int:=
 if (S4 op k).2=false then (0,7) else if M8 op n v name k=false then (0,8)
 else if op=2 then (if 0<=n/\n<ks.length then (ks.getD n.toNat 0,0) else (0,13))
 else if fe rs=0 then (if (s8 op v (rs.map Prod.fst)).2 then ((s8 op v (rs.map Prod.fst)).1,0) else (0,7)) else (0,fe rs)
mutual
def F5(ks:List Int):Ex->Int×Int
 |.mk op n v name nl args=>S0 op n v name ks args.length (A63 ks args)
def A63(ks:List Int):List Ex->List (Int×Int)
 |[]=>[]
 |e::es=>F5 ks e::A63 ks es
end
theorem B8N(ks:List Int):∀l,A63 ks l=l.map (F5 ks)
 |[]=>by simp[A63]
 |e::es=>by simp[A63,B8N ks es]
theorem A1a(ks:List Int)(op n:Int)(v:Vl)(name:List UInt8)(nl:Bool)(args:List Ex):F5 ks (.mk op n v name nl args)=S0 op n v name ks args.length (args.map (F5 ks)):=by rw[F5,B8N]
theorem B9p{l:List (Int×Int)}{i:Nat}{x:Int×Int}(h:l[i]?=some x):fe (l.drop i)=if x.2=0 then fe (l.drop (i+1)) else x.2:=by
 obtain⟨hlt,he⟩:=A7.1 h
 rw[P7 hlt,he];rfl
def Kv(rs:List (Int×Int))(i:Nat):List (List D):=A0 ((rs.take i).map Prod.fst)
theorem B66(rs:List (Int×Int))(i:Nat)(h:i<=rs.length):(Kv rs i).length=i:=by
 unfold Kv
 rw[B4,C6,J1]
 omega
theorem B67{rs:List (Int×Int)}{i:Nat}{x:Int×Int}(h:rs[i]?=some x):Kv rs i++[[eI x.1]]=Kv rs (i+1):=by
 unfold Kv
 rw[P1,h]
 simp[A0]
theorem B65{rs:List (Int×Int)}{i:Nat}(h:rs.length<=i):Kv rs i=A0 (rs.map Prod.fst):=by
 unfold Kv
 rw[J5 h]
theorem B8R{op n:Int}{v:Vl}{name:List UInt8}{ks:List Int}{k:Nat}{rs:List (Int×Int)}(h:M8 op n v name k=true)(h2:op≠2):S0 op n v name ks k rs=if fe rs=0 then (if (s8 op v (rs.map Prod.fst)).2 then ((s8 op v (rs.map Prod.fst)).1,0) else (0,7)) else (0,fe rs):=by
 have hc:=B10 (B1q h)
 unfold S0
 have:(S4 op k).2=true:=by
  unfold S4
  repeat' split
  all_goals first|rfl|omega
 rw[this,h,if_neg (by simp),if_neg (by simp),if_neg h2]
theorem C3y(ks:List Int)(hks:ks.length<=1048576)(dk:D)(hdk:B3 dk (A0 ks)):∀e:Ex,e.bk<=1048576->Pure Tryz.prog B0k [e.av,.d dk] (.tup [.d (eI (F5 ks e).1),.d (eI (F5 ks e).2)]):=by
 refine Ex.ind λop n v name nl args ih hbk=>?_
 obtain⟨b1,b2,b3,b4⟩:=Ex.bk_bounds hbk
 have ih':∀a∈args,Pure Tryz.prog B0k [a.av,.d dk] (.tup [.d (eI (F5 ks a).1),.d (eI (F5 ks a).2)]):=λa ha=>ih a ha (b4 a ha)
 clear ih
 rw[Ex.av_mk,A1a]
 refine C68.go A4 rfl ?_
 have hlen:=I7 args
 have hF:=C3A op n v name (ng nl (xL args)) (xL args) t7 b2 (by omega)
 rw[hlen] at hF
 have hC:=B2K op args.length
 have hm:=O7 args
 have hd:B3 (ng nl (xL args)) (xL args):=t7
 have hget:∀(i:Nat) (op' n':Int) (v':Vl) (name':List UInt8) (nl':Bool) (args':List Ex),args[i]?=some (.mk op' n' v' name' nl' args')->(xL args)[i]?=some (W6 op' n' v' name' (ng nl' (xL args'))):=λi op' n' v' name' nl' args' h=>by
  rw[<- Ex.ds_mk];exact t8 h
 obtain⟨d,hde⟩:∃d,d=ng nl (xL args):=⟨_,rfl⟩
 rw[<- hde] at hF hd ⊢
 obtain⟨es,hes⟩:∃es,es=xL args:=⟨_,rfl⟩
 rw[<- hes] at hlen hm hd hget
 rw[<- hlen] at hC
 obtain⟨rs,hrs⟩:∃rs,rs=args.map (F5 ks):=⟨_,rfl⟩
 have hrl:rs.length=args.length:=by rw[hrs,C6]
 have hrg:∀(i:Nat) (x:Ex),args[i]?=some x->rs[i]?=some (F5 ks x):=λi x h=>by rw[hrs,F8,h];rfl
 rw[<- hrs]
 cases hk:(S4 op args.length).2 with
 |false=>
  have e:S0 op n v name ks args.length rs=(0,7):=by unfold S0;rw[hk,if_pos rfl]
  rw[e]
  rw[hlen,hk,<- hlen] at hC
  repeat' first|refine st ?_|refine⟨λ_=>?_,λ_=>?_⟩|fail
  all_goals rfl
 |true=>
 rw[hlen,hk,<- hlen] at hC
 cases hf:M8 op n v name args.length with
 |false=>
  have e:S0 op n v name ks args.length rs=(0,8):=by unfold S0;rw[hk,if_neg (by simp),hf,if_pos rfl]
  rw[e]
  rw[hf] at hF
  repeat' first|refine st ?_|refine⟨λ_=>?_,λ_=>?_⟩|fail
  all_goals rfl
 |true=>
 rw[hf] at hF
 have hkl:=B4 ks
 have hkm:=C9 ks
 by_cases h2:op=2
 ·subst h2
  by_cases hn:0<=n/\n<ks.length
  ·have e:S0 2 n v name ks args.length rs=(ks.getD n.toNat 0,0):=by unfold S0;rw[hk,if_neg (by simp),hf,if_neg (by simp),if_pos rfl,if_pos hn]
   rw[e]
   obtain⟨n1,n2⟩:=hn
   have hx:ks[n.toNat]?=some (ks.getD n.toNat 0):=by
    rw[E8,C3 (by omega)];rfl
   have hg:=K5 hx
   have n3:n<(A0 ks).length:=by omega
   repeat' first|refine st ?_|refine⟨λ_=>?_,λ_=>?_⟩|fail
   all_goals rfl
  ·have e:S0 2 n v name ks args.length rs=(0,13):=by unfold S0;rw[hk,if_neg (by simp),hf,if_neg (by simp),if_pos rfl,if_neg hn]
   rw[e]
   by_cases hn0:n<0
   ·repeat' first|refine st ?_|refine⟨λ_=>?_,λ_=>?_⟩|fail
    all_goals rfl
   ·have n3:(A0 ks).length<=n:=by omega
    repeat' first|refine st ?_|refine⟨λ_=>?_,λ_=>?_⟩|fail
    all_goals rfl
 have hq:=B8R (ks:=ks) (rs:=rs) hf h2
 obtain⟨q,hqe⟩:∃q,q=S0 op n v name ks args.length rs:=⟨_,rfl⟩
 rw[<- hqe] at hq ⊢
 have hcnt:=B10 (B1q hf)
 repeat' first|refine st ?_|refine⟨λ_=>?_,λ_=>?_⟩|fail
 refine A00 8 1 rfl rfl ?_
 repeat' first|refine st ?_|refine⟨λ_=>?_,λ_=>?_⟩|fail
 refine I2 A4 C9a C82 (λ(i:Nat) (w:List (List D)×Bool)=>[.arr 1 w.1.length,.d (eI i)]) (λi w=>[.cells [.d (eI op),.d (eI n),.d (eI v.k),.d (eI v.n),.d (.str v.s),.d (.str name),.d d],.arr w.1 1 0 w.2]) (λi w=>i<=args.length/\w.1=Kv rs i/\w.2=w.1.isEmpty/\fe rs=fe (rs.drop i)) (λi _=>args.length-i) 0 ([],true) rfl rfl rfl rfl (λ_ _ _=>⟨rfl,rfl⟩) rfl ⟨by omega,rfl,rfl,rfl⟩ ?_
 repeat' first|refine st ?_|refine⟨λ_=>?_,λ_=>?_⟩|fail
 intro i w ⟨h4,h5,h6,h7⟩
 obtain⟨A,b⟩:=w
 dsimp only at h5 h6 h7 ⊢
 have hAl:A.length=i:=by rw[h5];exact B66 rs i (by omega)
 have hAm:∀e∈A,e.length=1:=by rw[h5];exact C9 _
 cases hx:args[i]? with
 |some x=>
  have hlt:=(A7.1 hx).1
  have hI:=ih' x (B9 hx)
  have hr:=hrg i x hx
  have hs:=B67 hr
  rw[B9p hr] at h7
  rw[<- h5] at hs
  obtain⟨⟨k,er⟩,hke⟩:∃ke,ke=F5 ks x:=⟨_,rfl⟩
  rw[<- hke] at hI hs h7
  obtain⟨op',n',v',name',nl',args'⟩:=x
  rw[Ex.av_mk] at hI
  have hg:=hget i _ _ _ _ _ _ hx
  by_cases her:er=0
  ·rw[if_pos her] at h7
   repeat' first|refine st ?_|refine⟨λ_=>?_,λ_=>?_⟩|fail
   exact⟨i+1,(A++[[eI k]],false),rfl,rfl,rfl,by omega,by omega,hs,by simp,h7⟩
  ·rw[if_neg her] at h7
   dsimp only at h7
   rw[h7,if_neg her] at hq
   rw[hq]
   repeat' first|refine st ?_|refine⟨λ_=>?_,λ_=>?_⟩|fail
   all_goals rfl
 |none=>
  have hge:=C8.1 hx
  rw[S1 (by omega)] at h7
  rw[h7,if_pos (show fe []=0 from rfl)] at hq
  rw[B65 (by omega)] at h5
  clear hrg
  obtain⟨l,hl⟩:∃l,l=rs.map Prod.fst:=⟨_,rfl⟩
  have hll:l.length=args.length:=by rw[hl,C6,hrl]
  rw[<- hl] at h5 hq
  have h22:op=22->1<=l.length:=λe=>by omega
  obtain⟨⟨kr,br⟩,hre⟩:∃r,r=s8 op v l:=⟨_,rfl⟩
  cases b with
  |true=>
   have hA0:A=[]:=by simpa using h6
   subst hA0
   have hR:=B2M op n v name d l (by omega) .nil (.inl ⟨rfl,h5.symm⟩) h22
   rw[<- hre] at hR hq
   rw[hq]
   cases br with
   |true=>
    repeat' first|refine st ?_|refine⟨λ_=>?_,λ_=>?_⟩|fail
    all_goals rfl
   |false=>
    repeat' first|refine st ?_|refine⟨λ_=>?_,λ_=>?_⟩|fail
    all_goals rfl
  |false=>
   have hR:=B2M op n v name d l (by omega) (.sl (A0 l)) J7 h22
   rw[<- hre,<- h5] at hR
   rw[<- hre] at hq
   rw[hq]
   cases br with
   |true=>
    repeat' first|refine st ?_|refine⟨λ_=>?_,λ_=>?_⟩|fail
    all_goals rfl
   |false=>
    repeat' first|refine st ?_|refine⟨λ_=>?_,λ_=>?_⟩|fail
    all_goals rfl
theorem C3v(ks:List Int)(hks:ks.length<=1048576)(dk:D)(hdk:B3 dk (A0 ks))(e:Ex)(he:e.bk<=1048576):Pure Tryz.prog B7n [e.av,.d dk] (.tup [.d (eI (if 24<L9 e then (0,26) else F5 ks e).1),.d (eI (if 24<L9 e then ((0,26):Int×Int) else F5 ks e).2)]):=by
 have hD:=C3x e he
 have hC:=C3y ks hks dk hdk e he
 obtain⟨kr,hre⟩:∃r,r=F5 ks e:=⟨_,rfl⟩
 obtain⟨dp,hdp⟩:∃dp,dp=L9 e:=⟨_,rfl⟩
 rw[<- hre] at hC ⊢
 rw[<- hdp] at hD ⊢
 obtain⟨op,n,v,name,nl,args⟩:=e
 rw[Ex.av_mk] at hC hD ⊢
 refine C60.go A4 rfl ?_
 by_cases h:24<dp
 ·rw[if_pos h]
  have h2:(24:Int)<((min 25 dp:Nat):Int):=by omega
  repeat' first|refine st ?_|refine⟨λ_=>?_,λ_=>?_⟩|fail
  all_goals rfl
 ·rw[if_neg h]
  have h2:((min 25 dp:Nat):Int)<=24:=by omega
  repeat' first|refine st ?_|refine⟨λ_=>?_,λ_=>?_⟩|fail
  all_goals rfl
end Go.Proofs
end
section
namespace Go.Proofs
open Go.Bi
theorem C3V(ks:List Int)(hks:ks.length<=1048576)(dk:D)(hdk:B3 dk (A0 ks)):∀e:Ex,e.bk<=1048576->Pure Tryz.prog B04 [e.av,.d dk] (.tup [.d (eI (F5 ks e).1),.d (eI (F5 ks e).2)]):=by
 refine Ex.ind λop n v name nl args ih hbk=>?_
 obtain⟨b1,b2,b3,b4⟩:=Ex.bk_bounds hbk
 have ih':∀a∈args,Pure Tryz.prog B04 [a.av,.d dk] (.tup [.d (eI (F5 ks a).1),.d (eI (F5 ks a).2)]):=λa ha=>ih a ha (b4 a ha)
 clear ih
 rw[Ex.av_mk,A1a]
 refine C5n.go A4 rfl ?_
 have hlen:=I7 args
 have hF:=C3S op n v name (ng nl (xL args)) (xL args) t7 b2 (by omega)
 rw[hlen] at hF
 have hC:=B2Q op
 have hac:=(B8o op args.length (by omega)).2
 have hm:=O7 args
 have hd:B3 (ng nl (xL args)) (xL args):=t7
 have hget:∀(i:Nat) (op' n':Int) (v':Vl) (name':List UInt8) (nl':Bool) (args':List Ex),args[i]?=some (.mk op' n' v' name' nl' args')->(xL args)[i]?=some (W6 op' n' v' name' (ng nl' (xL args'))):=λi op' n' v' name' nl' args' h=>by
  rw[<- Ex.ds_mk];exact t8 h
 obtain⟨d,hde⟩:∃d,d=ng nl (xL args):=⟨_,rfl⟩
 rw[<- hde] at hF hd ⊢
 obtain⟨es,hes⟩:∃es,es=xL args:=⟨_,rfl⟩
 rw[<- hes] at hlen hm hd hget
 obtain⟨rs,hrs⟩:∃rs,rs=args.map (F5 ks):=⟨_,rfl⟩
 have hrl:rs.length=args.length:=by rw[hrs,C6]
 have hrg:∀(i:Nat) (x:Ex),args[i]?=some x->rs[i]?=some (F5 ks x):=λi x h=>by rw[hrs,F8,h];rfl
 rw[<- hrs]
 cases hk:(S4 op args.length).2 with
 |false=>
  have e:S0 op n v name ks args.length rs=(0,7):=by unfold S0;rw[hk,if_pos rfl]
  rw[e]
  rw[hk] at hac
  have hac:(m5 op).1<0:=by
   have:=of_decide_eq_false hac.symm
   omega
  repeat' first|refine st ?_|refine⟨λ_=>?_,λ_=>?_⟩|fail
  all_goals rfl
 |true=>
 rw[hk] at hac
 have hac:¬(m5 op).1<0:=of_decide_eq_true hac.symm
 cases hf:M8 op n v name args.length with
 |false=>
  have e:S0 op n v name ks args.length rs=(0,8):=by unfold S0;rw[hk,if_neg (by simp),hf,if_pos rfl]
  rw[e]
  rw[hf] at hF
  repeat' first|refine st ?_|refine⟨λ_=>?_,λ_=>?_⟩|fail
  all_goals rfl
 |true=>
 rw[hf] at hF
 have hkl:=B4 ks
 have hkm:=C9 ks
 have hcnt:=B10 (B1q hf)
 obtain⟨q,hqe⟩:∃q,q=S0 op n v name ks args.length rs:=⟨_,rfl⟩
 rw[<- hqe]
 have hq2:op=2->q=if 0<=n/\n<ks.length then (ks.getD n.toNat 0,0) else (0,13):=λh2=>by
  rw[hqe];unfold S0;rw[hk,if_neg (by simp),hf,if_neg (by simp),if_pos h2]
 have hqo:op≠2->_:=λh2=>hqe.trans (B8R hf h2)
 clear hqe
 by_cases h2:op=2
 ·have hq:=hq2 h2
  subst h2
  by_cases hn:0<=n/\n<ks.length
  ·rw[if_pos hn] at hq
   obtain⟨n1,n2⟩:=hn
   have hx:ks[n.toNat]?=some (ks.getD n.toNat 0):=by
    rw[E8,C3 (by omega)];rfl
   have n3:n<(A0 ks).length:=by omega
   have n4:¬(A0 ks).length<=n:=by omega
   have ha0:args=[]:=A2K.1 (by omega)
   subst ha0
   have hR:=C3Y n v name d [] ks (.sl (A0 [])) J7 dk hdk _ n1 hx
   have hlen0:es.length=0:=hlen
   have hes0:es=[]:=A2K.1 hlen0
   rw[hq]
   obtain⟨z,hz⟩:∃z,z=ks.getD n.toNat 0:=⟨_,rfl⟩
   rw[<- hz] at hR ⊢
   repeat' first|refine st ?_|refine⟨λ_=>?_,λ_=>?_⟩|fail
   refine F2 A4 B6o B6b (λ(i:Nat)=>[.arr 1 0,.d (eI i)]) (λi=>[.cells [.d (eI 2),.d (eI n),.d (eI v.k),.d (eI v.n),.d (.str v.s),.d (.str name),.d d],.arr [] 1 0 false]) (λi=>i=0) (λi=>0) 0 rfl rfl rfl rfl (λ_ _=>⟨rfl,rfl⟩) rfl rfl ?_
   repeat' first|refine st ?_|refine⟨λ_=>?_,λ_=>?_⟩|fail
   intro i hi
   subst hi
   have h0:es.length<=((0:Nat):Int):=by omega
   have h00:([]:List (List D)).length=0:=rfl
   have hm0:∀e∈([]:List (List D)),e.length=1:=by intro e he;cases he
   repeat' first|refine st ?_|refine⟨λ_=>?_,λ_=>?_⟩|fail
   all_goals rfl
  ·rw[if_neg hn] at hq
   rw[hq]
   by_cases hn0:n<0
   ·repeat' first|refine st ?_|refine⟨λ_=>?_,λ_=>?_⟩|fail
    all_goals rfl
   ·have n3:(A0 ks).length<=n:=by omega
    repeat' first|refine st ?_|refine⟨λ_=>?_,λ_=>?_⟩|fail
    all_goals rfl
 have hq:=hqo h2
 repeat' first|refine st ?_|refine⟨λ_=>?_,λ_=>?_⟩|fail
 refine I2 A4 B6o B6b (λ(i:Nat) (A:List (List D))=>[.arr 1 A.length,.d (eI i)]) (λi A=>[.cells [.d (eI op),.d (eI n),.d (eI v.k),.d (eI v.n),.d (.str v.s),.d (.str name),.d d],.arr A 1 0 false]) (λi A=>i<=args.length/\A=Kv rs i/\fe rs=fe (rs.drop i)) (λi _=>args.length-i) 0 [] rfl rfl rfl rfl (λ_ _ _=>⟨rfl,rfl⟩) rfl ⟨by omega,rfl,rfl⟩ ?_
 repeat' first|refine st ?_|refine⟨λ_=>?_,λ_=>?_⟩|fail
 intro i A ⟨h4,h5,h7⟩
 have hAl:A.length=i:=by rw[h5];exact B66 rs i (by omega)
 have hAm:∀e∈A,e.length=1:=by rw[h5];exact C9 _
 cases hx:args[i]? with
 |some x=>
  have hlt:=(A7.1 hx).1
  have hI:=ih' x (B9 hx)
  have hr:=hrg i x hx
  have hs:=B67 hr
  rw[B9p hr] at h7
  rw[<- h5] at hs
  obtain⟨⟨k,er⟩,hke⟩:∃ke,ke=F5 ks x:=⟨_,rfl⟩
  rw[<- hke] at hI hs h7
  obtain⟨op',n',v',name',nl',args'⟩:=x
  rw[Ex.av_mk] at hI
  have hg:=hget i _ _ _ _ _ _ hx
  by_cases her:er=0
  ·rw[if_pos her] at h7
   repeat' first|refine st ?_|refine⟨λ_=>?_,λ_=>?_⟩|fail
   exact⟨i+1,A++[[eI k]],rfl,rfl,rfl,by omega,by omega,hs,h7⟩
  ·rw[if_neg her] at h7
   dsimp only at h7
   rw[h7,if_neg her] at hq
   rw[hq]
   repeat' first|refine st ?_|refine⟨λ_=>?_,λ_=>?_⟩|fail
   all_goals rfl
 |none=>
  have hge:=C8.1 hx
  rw[S1 (by omega)] at h7
  rw[h7,if_pos (show fe []=0 from rfl)] at hq
  rw[B65 (by omega)] at h5
  clear hrg
  obtain⟨l,hl⟩:∃l,l=rs.map Prod.fst:=⟨_,rfl⟩
  have hll:l.length=args.length:=by rw[hl,C6,hrl]
  rw[<- hl] at h5 hq
  have h22:op=22->1<=l.length:=λe=>by omega
  obtain⟨⟨kr,br⟩,hre⟩:∃r,r=s8 op v l:=⟨_,rfl⟩
  have hR:=C3X op n v name d l (by omega) (.sl (A0 l)) J7 dk h22 (by omega) h2
  rw[<- hre,<- h5] at hR
  rw[<- hre] at hq
  rw[hq]
  cases br with
  |true=>
   repeat' first|refine st ?_|refine⟨λ_=>?_,λ_=>?_⟩|fail
   all_goals rfl
  |false=>
   repeat' first|refine st ?_|refine⟨λ_=>?_,λ_=>?_⟩|fail
   all_goals rfl
theorem C3Q(ks:List Int)(hks:ks.length<=1048576)(dk:D)(hdk:B3 dk (A0 ks))(e:Ex)(he:e.bk<=1048576):Pure Tryz.prog B6I [e.av,.d dk] (.tup [.d (eI (if 24<L9 e then (0,26) else F5 ks e).1),.d (eI (if 24<L9 e then ((0,26):Int×Int) else F5 ks e).2)]):=by
 have hD:=C3W e he
 have hC:=C3V ks hks dk hdk e he
 obtain⟨kr,hre⟩:∃r,r=F5 ks e:=⟨_,rfl⟩
 obtain⟨dp,hdp⟩:∃dp,dp=L9 e:=⟨_,rfl⟩
 rw[<- hre] at hC ⊢
 rw[<- hdp] at hD ⊢
 obtain⟨op,n,v,name,nl,args⟩:=e
 rw[Ex.av_mk] at hC hD ⊢
 refine C5h.go A4 rfl ?_
 by_cases h:24<dp
 ·rw[if_pos h]
  have h2:(24:Int)<(dp:Int):=by omega
  repeat' first|refine st ?_|refine⟨λ_=>?_,λ_=>?_⟩|fail
  all_goals rfl
 ·rw[if_neg h]
  have h2:(dp:Int)<=24:=by omega
  repeat' first|refine st ?_|refine⟨λ_=>?_,λ_=>?_⟩|fail
  all_goals rfl
end Go.Proofs
end
section
namespace Go.Proofs
open Go.Bi
def A1J(ks:List Int)(e:Ex):Int×Int:=if 24<L9 e then (0,26) else F5 ks e
def A0x(ks:List Int)(e:Ex):Int:=if (A1J ks e).2=0 then (if (A1J ks e).1=3\/(A1J ks e).1=0 then 0 else 7) else (A1J ks e).2
def w7(ks:List Int):List Ex->Int
 |[]=>0
 |e::r=>if A0x ks e=0 then w7 ks r else A0x ks e
def A1I(ks:List Int)(l:List Ex):Int:=if l.length<=4 then w7 ks l else 5
theorem B8M{ks:List Int}{l:List Ex}{i:Nat}{e:Ex}(h:l[i]?=some e):w7 ks (l.drop i)=if A0x ks e=0 then w7 ks (l.drop (i+1)) else A0x ks e:=by
 obtain⟨hlt,he⟩:=A7.1 h
 rw[P7 hlt,he];rfl
theorem o3{args:List Ex}(i:Nat)(op' n':Int)(v':Vl)(name':List UInt8)(nl':Bool)(args':List Ex)(h:args[i]?=some (.mk op' n' v' name' nl' args')):(xL args)[i]?=some (W6 op' n' v' name' (ng nl' (xL args'))):=by
 rw[<- Ex.ds_mk];exact t8 h
theorem C4z(n:List UInt8)(l:List Co)(hl:l.length<=1048576)(dc dk df dx:D)(hc:B3 dc (A9 l))(xs:List Ex)(hxs:xs.length<=1048576)(hxb:∀e∈xs,e.bk<=1048576)(hdx:B3 dx (xL xs)):Pure Tryz.prog A81 [eT n dc dk df dx] (.d (eI (A1I (kd l) xs))):=by
 refine C6s.go A4 rfl ?_
 have h1:=I7 xs
 have hm:=O7 xs
 have hK:=B33 n l hl dc dk df dx hc
 unfold A1I
 by_cases h0:xs.length<=4
 rotate_left
 ·rw[if_neg h0]
  repeat' first|refine st ?_|refine⟨λ_=>?_,λ_=>?_⟩|fail
  all_goals first|rfl|(exfalso;omega)
 rw[if_pos h0]
 obtain⟨q,hq⟩:∃q,q=w7 (kd l) xs:=⟨_,rfl⟩
 rw[<- hq]
 repeat' first|refine st ?_|refine⟨λ_=>?_,λ_=>?_⟩|fail
 refine F2 A4 C9l C8d (λ(i:Nat)=>[.d (eI i)]) (λi=>[.cells [.d (.str n),.d dc,.d dk,.d df,.d dx]]) (λi=>i<=xs.length/\q=w7 (kd l) (xs.drop i)) (λi=>xs.length-i) 0 rfl rfl rfl rfl (λ_ _=>⟨rfl,rfl⟩) rfl ⟨by omega,hq⟩ ?_
 repeat' first|refine st ?_|refine⟨λ_=>?_,λ_=>?_⟩|fail
 intro i ⟨h4,h5⟩
 cases hx:xs[i]? with
 |some e=>
  have hlt:=(A7.1 hx).1
  have hE:=C3v (kd l) (by rw[Q2];exact hl) (kdD l) (C0f l) e (hxb e (B9 hx))
  rw[B8M hx] at h5
  unfold A0x at h5
  obtain⟨⟨k,er⟩,hr⟩:∃r,r=A1J (kd l) e:=⟨_,rfl⟩
  rw[<- hr] at h5
  unfold A1J at hr
  rw[<- hr] at hE
  dsimp only at h5 hE
  obtain⟨op',n',v',name',nl',args'⟩:=e
  rw[Ex.av_mk] at hE
  have hg:=o3 i _ _ _ _ _ _ hx
  obtain⟨z,hz⟩:∃z,z=(if er=0 then (if k=3\/k=0 then (0:Int) else 7) else er):=⟨_,rfl⟩
  rw[<- hz] at h5
  by_cases he:er=0
  ·rw[if_pos he] at hz
   by_cases h3:k=3
   ·rw[if_pos (Or.inl h3)] at hz
    rw[if_pos hz] at h5
    repeat' first|refine st ?_|refine⟨λ_=>?_,λ_=>?_⟩|fail
    exact⟨i+1,rfl,rfl,rfl,by omega,by omega,h5⟩
   ·by_cases h00:k=0
    ·rw[if_pos (Or.inr h00)] at hz
     rw[if_pos hz] at h5
     repeat' first|refine st ?_|refine⟨λ_=>?_,λ_=>?_⟩|fail
     exact⟨i+1,rfl,rfl,rfl,by omega,by omega,h5⟩
    ·rw[if_neg (by omega)] at hz
     rw[if_neg (by omega),hz] at h5
     rw[h5]
     repeat' first|refine st ?_|refine⟨λ_=>?_,λ_=>?_⟩|fail
     all_goals rfl
  ·rw[if_neg he] at hz
   rw[if_neg (by omega),hz] at h5
   rw[h5]
   repeat' first|refine st ?_|refine⟨λ_=>?_,λ_=>?_⟩|fail
   all_goals rfl
 |none=>
  have hge:=C8.1 hx
  rw[S1 hge] at h5
  rw[h5]
  repeat' first|refine st ?_|refine⟨λ_=>?_,λ_=>?_⟩|fail
  all_goals rfl
end Go.Proofs
end
section
namespace Go.Proofs
open Go.Bi
structure Tb where
 nm:List UInt8
 cs:List Co
 ks:List Int
 fs:List Fo
 xs:List Ex
structure N6(t:Tb)(dc dk df dx:D):Prop where
 hn:t.nm.length<=1048576
 hl:t.cs.length<=1048576
 hls:∀c∈t.cs,c.nm.length<=1048576
 hk:t.ks.length<=1048576
 hfl:t.fs.length<=1048576
 hfc:∀f∈t.fs,f.cs.length<=1048576/\f.tb.length<=1048576
 hxs:t.xs.length<=1048576
 hxb:∀e∈t.xs,e.bk<=1048576
 dc:B3 dc (A9 t.cs)
 dk:B3 dk (A0 t.ks)
 df:B3 df (G5 t.fs)
 dx:B3 dx (xL t.xs)
def A1L(t:Tb):Int:=if t.fs.length<=4 then (if V7 t.cs.length t.fs=0 then A1I (kd t.cs) t.xs else V7 t.cs.length t.fs) else 5
theorem D3p(t:Tb):A1L t=if A4I t.cs.length t.fs=0 then A1I (kd t.cs) t.xs else A4I t.cs.length t.fs:=by
 unfold A1L A4I
 by_cases h:t.fs.length<=4
 ·rw[if_pos h,if_pos h]
 ·rw[if_neg h,if_neg h,if_neg (by decide)]
def H9(t:Tb):Int:=if L5 t.nm then (if w8 t.cs=0 then (if A0G t.cs t.ks=0 then A1L t else A0G t.cs t.ks) else w8 t.cs) else 1
theorem C43(t:Tb)(dc dk df dx:D)(h:N6 t dc dk df dx):Pure Tryz.prog B6T [eT t.nm dc dk df dx] (.d (eI (A1L t))):=by
 obtain⟨n,l,ks,fs,xs⟩:=t
 obtain⟨hn,hl,hls,hk,hfl,hfc,hxs,hxb,hc,hdk,hdf,hdx⟩:=h
 dsimp only at hn hl hls hk hfl hfc hxs hxb hc hdk hdf hdx ⊢
 refine C5y.go A4 rfl ?_
 have h1:=A0C fs
 have hm:=A2j fs
 have h2:=I7 xs
 have hm2:=O7 xs
 have hK:=A5h n l hl dc dk df dx hc
 unfold A1L
 dsimp only
 by_cases h0:fs.length<=4
 rotate_left
 ·rw[if_neg h0]
  repeat' first|refine st ?_|refine⟨λ_=>?_,λ_=>?_⟩|fail
  all_goals first|rfl|(exfalso;omega)
 rw[if_pos h0]
 obtain⟨q,hq⟩:∃q,q=(if V7 l.length fs=0 then A1I (kd l) xs else V7 l.length fs):=⟨_,rfl⟩
 rw[<- hq]
 repeat' first|refine st ?_|refine⟨λ_=>?_,λ_=>?_⟩|fail
 refine F2 A4 C8H C7z (λ(i:Nat)=>[.d (eI i)]) (λi=>[.cells [.d (.str n),.d dc,.d dk,.d df,.d dx]]) (λi=>i<=fs.length/\V7 l.length fs=V7 l.length (fs.drop i)) (λi=>fs.length-i) 0 rfl rfl rfl rfl (λ_ _=>⟨rfl,rfl⟩) rfl ⟨by omega,rfl⟩ ?_
 repeat' first|refine st ?_|refine⟨λ_=>?_,λ_=>?_⟩|fail
 intro i ⟨h4,h5⟩
 cases hx:fs[i]? with
 |some f=>
  have hlt:=(A7.1 hx).1
  have hg:=A2V hx
  obtain⟨hf,hft⟩:=hfc f (B9 hx)
  have hF:=C44 n l hl dc dk df dx hc f hf hft
  rw[B9P hx] at h5
  obtain⟨e,he⟩:∃e,e=A0E l.length f:=⟨_,rfl⟩
  rw[<- he] at h5 hF
  obtain⟨fd,hfd⟩:∃fd,fd=f.d:=⟨_,rfl⟩
  have hg:(G5 fs)[i]?=some [fd,.str f.tb]:=by rw[hfd];exact hg
  rw[<- hfd] at hF
  by_cases h0:e=0
  ·rw[if_pos h0] at h5
   repeat' first|refine st ?_|refine⟨λ_=>?_,λ_=>?_⟩|fail
   exact⟨i+1,rfl,rfl,rfl,by omega,by omega,h5⟩
  ·rw[if_neg h0] at h5
   rw[h5,if_neg h0] at hq
   rw[hq]
   repeat' first|refine st ?_|refine⟨λ_=>?_,λ_=>?_⟩|fail
   all_goals rfl
 |none=>
  have hge:=C8.1 hx
  rw[S1 hge] at h5
  have h5:V7 l.length fs=0:=h5
  rw[if_pos h5] at hq
  unfold A1I at hq
  by_cases h0:xs.length<=4
  rotate_left
  ·rw[if_neg h0] at hq
   rw[hq]
   repeat' first|refine st ?_|refine⟨λ_=>?_,λ_=>?_⟩|fail
   all_goals first|rfl|(exfalso;omega)
  rw[if_pos h0] at hq
  repeat' first|refine st ?_|refine⟨λ_=>?_,λ_=>?_⟩|fail
  refine F2 A4 C8I C7A (λ(i:Nat)=>[.d (eI i)]) (λi=>[.cells [.d (.str n),.d dc,.d dk,.d df,.d dx]]) (λi=>i<=xs.length/\q=w7 (kd l) (xs.drop i)) (λi=>xs.length-i) 0 rfl rfl rfl rfl (λ_ _=>⟨rfl,rfl⟩) rfl ⟨by omega,hq⟩ ?_
  repeat' first|refine st ?_|refine⟨λ_=>?_,λ_=>?_⟩|fail
  intro i ⟨h4,h5⟩
  cases hx:xs[i]? with
  |some e=>
   have hlt:=(A7.1 hx).1
   have hE:=C3Q (kd l) (by rw[Q2];exact hl) (.sl (A0 (kd l))) (.inr rfl) e (hxb e (B9 hx))
   rw[B8M hx] at h5
   unfold A0x at h5
   obtain⟨⟨k,er⟩,hr⟩:∃r,r=A1J (kd l) e:=⟨_,rfl⟩
   rw[<- hr] at h5
   unfold A1J at hr
   rw[<- hr] at hE
   dsimp only at h5 hE
   obtain⟨op',n',v',name',nl',args'⟩:=e
   rw[Ex.av_mk] at hE
   have hg:=o3 i _ _ _ _ _ _ hx
   obtain⟨z,hz⟩:∃z,z=(if er=0 then (if k=3\/k=0 then (0:Int) else 7) else er):=⟨_,rfl⟩
   rw[<- hz] at h5
   by_cases he:er=0
   ·rw[if_pos he] at hz
    by_cases h3:k=3
    ·rw[if_pos (Or.inl h3)] at hz
     rw[if_pos hz] at h5
     repeat' first|refine st ?_|refine⟨λ_=>?_,λ_=>?_⟩|fail
     exact⟨i+1,rfl,rfl,rfl,by omega,by omega,h5⟩
    ·by_cases h00:k=0
     ·rw[if_pos (Or.inr h00)] at hz
      rw[if_pos hz] at h5
      repeat' first|refine st ?_|refine⟨λ_=>?_,λ_=>?_⟩|fail
      exact⟨i+1,rfl,rfl,rfl,by omega,by omega,h5⟩
     ·rw[if_neg (by omega)] at hz
      rw[if_neg (by omega),hz] at h5
      rw[h5]
      repeat' first|refine st ?_|refine⟨λ_=>?_,λ_=>?_⟩|fail
      all_goals rfl
   ·rw[if_neg he] at hz
    rw[if_neg (by omega),hz] at h5
    rw[h5]
    repeat' first|refine st ?_|refine⟨λ_=>?_,λ_=>?_⟩|fail
    all_goals rfl
  |none=>
   have hge:=C8.1 hx
   rw[S1 hge] at h5
   rw[h5]
   repeat' first|refine st ?_|refine⟨λ_=>?_,λ_=>?_⟩|fail
   all_goals rfl
theorem A9z(t:Tb)(dc dk df dx:D)(h:N6 t dc dk df dx):Pure Tryz.prog A7N [eT t.nm dc dk df dx] (.d (eI (H9 t))):=by
 have h1:=A5i t.nm h.hn
 have h2:=C42 t.nm t.cs h.hl h.hls dc dk df dx h.dc
 have h3:=C46 t.nm t.cs h.hl dc dk df dx h.dc t.ks h.hk h.dk
 have h4:=C43 t dc dk df dx h
 refine C5q.go A4 rfl ?_
 unfold H9
 cases hv:L5 t.nm with
 |false=>
  rw[hv] at h1
  rw[if_neg (by simp)]
  repeat' first|refine st ?_|refine⟨λ_=>?_,λ_=>?_⟩|fail
  all_goals rfl
 |true=>
  rw[hv] at h1
  rw[if_pos rfl]
  by_cases ha:w8 t.cs=0
  ·rw[if_pos ha]
   rw[ha] at h2
   by_cases hb:A0G t.cs t.ks=0
   ·rw[if_pos hb]
    rw[hb] at h3
    repeat' first|refine st ?_|refine⟨λ_=>?_,λ_=>?_⟩|fail
    all_goals rfl
   ·rw[if_neg hb]
    repeat' first|refine st ?_|refine⟨λ_=>?_,λ_=>?_⟩|fail
    all_goals rfl
  ·rw[if_neg ha]
   repeat' first|refine st ?_|refine⟨λ_=>?_,λ_=>?_⟩|fail
   all_goals rfl
theorem A7u(t:Tb)(dc dk df dx:D)(h:N6 t dc dk df dx):Pure Tryz.prog A7Z [eT t.nm dc dk df dx] (.d (eI (H9 t))):=by
 have h1:=A5k t.nm h.hn
 have h2:=C4A t.nm t.cs h.hl h.hls dc dk df dx h.dc
 have h3:=C4C t.nm t.cs h.hl dc dk df dx h.dc t.ks h.hk h.dk
 have h4:=C4B t.nm t.cs h.hl t.fs h.hfl h.hfc dc dk df dx h.dc h.df
 have h5:=C4z t.nm t.cs h.hl dc dk df dx h.dc t.xs h.hxs h.hxb h.dx
 obtain⟨n,l,ks,fs,xs⟩:=t
 dsimp only at h1 h2 h3 h4 h5 ⊢
 refine C6n.go A4 rfl ?_
 unfold H9
 rw[D3p]
 dsimp only
 cases hv:L5 n with
 |false=>
  rw[hv] at h1
  rw[if_neg (by simp)]
  repeat' first|refine st ?_|refine⟨λ_=>?_,λ_=>?_⟩|fail
  all_goals rfl
 |true=>
  rw[hv] at h1
  rw[if_pos rfl]
  obtain⟨a,ha⟩:∃a,a=w8 l:=⟨_,rfl⟩
  obtain⟨b,hb⟩:∃a,a=A0G l ks:=⟨_,rfl⟩
  obtain⟨c,hc⟩:∃a,a=A4I l.length fs:=⟨_,rfl⟩
  obtain⟨d,hd⟩:∃a,a=A1I (kd l) xs:=⟨_,rfl⟩
  rw[<- ha] at h2 ⊢
  rw[<- hb] at h3 ⊢
  rw[<- hc] at h4 ⊢
  rw[<- hd] at h5 ⊢
  obtain⟨q,hq⟩:∃q,q=(if a=0 then (if b=0 then (if c=0 then d else c) else b) else a):=⟨_,rfl⟩
  rw[<- hq]
  obtain⟨A,hA⟩:∃A:List (List D),A=[[.fn A82],[.fn A84],[.fn A83],[.fn A81]]:=⟨_,rfl⟩
  have hAl:A.length=4:=by rw[hA];rfl
  repeat' first|refine st ?_|refine⟨λ_=>?_,λ_=>?_⟩|fail
  rw[<- hA]
  refine F2 A4 C9i C8a (λ(i:Nat)=>[.d (eI i)]) (λi=>[.cells [.d (.str n),.d dc,.d dk,.d df,.d dx],.arr A 1 0 false]) (λi=>i<=4/\(0<i->a=0)/\(1<i->b=0)/\(2<i->c=0)/\(3<i->d=0)) (λi=>4-i) 0 rfl rfl rfl rfl (λ_ _=>⟨rfl,rfl⟩) rfl ⟨by omega,by omega,by omega,by omega,by omega⟩ ?_
  repeat' first|refine st ?_|refine⟨λ_=>?_,λ_=>?_⟩|fail
  intro i ⟨g0,g1,g2,g3,g4⟩
  by_cases e4:i=4
  ·rw[if_pos (g1 (by omega)),if_pos (g2 (by omega)),if_pos (g3 (by omega)),g4 (by omega)] at hq
   rw[hq]
   repeat' first|refine st ?_|refine⟨λ_=>?_,λ_=>?_⟩|fail
   all_goals rfl
  by_cases e0:i=0
  ·have hg:A[i]?=some [.fn A82]:=by rw[hA,e0];rfl
   by_cases z:a=0
   ·repeat' first|refine st ?_|refine⟨λ_=>?_,λ_=>?_⟩|fail
    exact⟨i+1,rfl,rfl,rfl,by omega,by omega,λ_=>z,by omega,by omega,by omega⟩
   ·rw[if_neg z] at hq
    rw[hq]
    repeat' first|refine st ?_|refine⟨λ_=>?_,λ_=>?_⟩|fail
    all_goals rfl
  by_cases e1:i=1
  ·have hg:A[i]?=some [.fn A84]:=by rw[hA,e1];rfl
   rw[if_pos (g1 (by omega))] at hq
   by_cases z:b=0
   ·repeat' first|refine st ?_|refine⟨λ_=>?_,λ_=>?_⟩|fail
    exact⟨i+1,rfl,rfl,rfl,by omega,by omega,λ_=>g1 (by omega),λ_=>z,by omega,by omega⟩
   ·rw[if_neg z] at hq
    rw[hq]
    repeat' first|refine st ?_|refine⟨λ_=>?_,λ_=>?_⟩|fail
    all_goals rfl
  by_cases e2:i=2
  ·have hg:A[i]?=some [.fn A83]:=by rw[hA,e2];rfl
   rw[if_pos (g1 (by omega)),if_pos (g2 (by omega))] at hq
   by_cases z:c=0
   ·repeat' first|refine st ?_|refine⟨λ_=>?_,λ_=>?_⟩|fail
    exact⟨i+1,rfl,rfl,rfl,by omega,by omega,λ_=>g1 (by omega),λ_=>g2 (by omega),λ_=>z,by omega⟩
   ·rw[if_neg z] at hq
    rw[hq]
    repeat' first|refine st ?_|refine⟨λ_=>?_,λ_=>?_⟩|fail
    all_goals rfl
  have e3:i=3:=by omega
  ·have hg:A[i]?=some [.fn A81]:=by rw[hA,e3];rfl
   rw[if_pos (g1 (by omega)),if_pos (g2 (by omega)),if_pos (g3 (by omega))] at hq
   by_cases z:d=0
   ·repeat' first|refine st ?_|refine⟨λ_=>?_,λ_=>?_⟩|fail
    exact⟨i+1,rfl,rfl,rfl,by omega,by omega,λ_=>g1 (by omega),λ_=>g2 (by omega),λ_=>g3 (by omega),λ_=>z⟩
   ·rw[hq]
    repeat' first|refine st ?_|refine⟨λ_=>?_,λ_=>?_⟩|fail
    all_goals rfl
end Go.Proofs
end
section
namespace Go.Bi
open Go
def B5(nl:Bool)(es:List (List D)):D:=if nl then .nil else .sl es
def DC1(os:List AO)(c:AV)(x:D):Prop:=c=.d x\/∃id es sz frz nl,c=.arr id es.length/\os[id]?=some (.arr es sz frz nl)/\x=B5 nl es
def DC(os:List AO)(c:AV)(x:D):Prop:=DC1 os c x\/∃(id:Nat) (es:List (List AV)) (sz:Nat) (nl:Bool) (l:List (List D)),c=.rs id es.length/\os[id]?=some (.rarr es sz nl)/\l.length=es.length/\
 (∀(i:Nat) (e:List AV) (e':List D),es[i]?=some e->l[i]?=some e'->e'.length=e.length/\∀(j:Nat) (c:AV) (x:D),e[j]?=some c->e'[j]?=some x->DC1 os c x)/\x=B5 nl l
def DL(os:List AO)(cs:List AV)(xs:List D):Prop:=xs.length=cs.length/\∀(j:Nat) (c:AV) (x:D),cs[j]?=some c->xs[j]?=some x->DC os c x
def DG(os:List AO)(a r:AV):Prop:=(∃x,DC os a x/\r=.d x)\/∃(cs:List AV) (xs:List D),a=.agg cs/\r=.agg (xs.map .d)/\DL os cs xs
def DA(os:List AO)(a r:AV):Prop:=DG os a r\/∃cs rs:List AV,a=.tup cs/\r=.tup rs/\rs.length=cs.length/\∀(j:Nat) (c x:AV),cs[j]?=some c->rs[j]?=some x->DG os c x
section
variable {P:Program}{M' M2:C2}{G':Gh}{os:List AO}{w':World}
variable (he:C0 M' G' os w')(hm:∀y u,M' y=some u->M2 y=some u)(hb:∀i,E3 os i->∀(o:Nat) u,w'.cell? ⟨G'.blk i,o,none⟩=some u->M2 ⟨G'.blk i,o,none⟩=some u)
include he hm hb
theorem B94{c:AV}{u:Value}{x:D}(h:VC M' G' os c u)(hd:DC1 os c x):Rd M2 x u:=by
 rcases hd with rfl|⟨id,es,sz,frz,nl,rfl,h1,rfl⟩
 ·exact Rd.mono hm h
 ·obtain⟨_,es',sz',frz',nl',h2,_,h3⟩:=h
  rw[h1] at h2
  cases h2
  rw[h3 rfl]
  have hlv:nl=false->E3 os id:=λe=>⟨_,h1,by subst e;rfl⟩
  obtain⟨k1,k2,k3,k4,k5⟩:=he.obj id _ h1
  cases nl with
  |true=>exact Rd.nil
  |false=>
   obtain⟨ca,t,a1,a2,a3,a4,a5,a6⟩:=k5 rfl
   have hcell:∀k,w'.cell? ⟨G'.blk id,k,none⟩=ca[k]?:=λk=>by simp[World.cell?,a1]
   refine Rd.sl es (G'.blk id) 0 (G'.cap id) sz (λi j=>(ca[i*sz+j]?).getD undef) a3 k2 (λi j hi hj=>?_) (λi j e d hi hj=>?_)
   ·have hk:i*sz+j<ca.size:=by rw[a2];exact X4 (by omega) hj
    rw[v7]
    refine hb id (hlv rfl) _ _ ?_
    rw[hcell]
    simp[hk]
   ·obtain⟨v,b1,b2⟩:=a5 i j e d hi hj
    simp only[b1,l9]
    exact b2.mono hm
theorem B95{c:AV}{u:Value}{x:D}(h:VC M' G' os c u)(hd:DC os c x):Rd M2 x u:=by
 rcases hd with hd|⟨id,es,sz,nl,l,rfl,h1,hl,hr,rfl⟩
 ·exact B94 he hm hb h hd
 ·obtain⟨_,es',sz',nl',h2,_,h3⟩:=h
  rw[h1] at h2
  cases h2
  rw[h3 rfl]
  have hlv:nl=false->E3 os id:=λe=>⟨_,h1,by subst e;rfl⟩
  obtain⟨k1,k2,k4,k5⟩:=he.obj id _ h1
  cases nl with
  |true=>exact Rd.nil
  |false=>
   obtain⟨ca,t,a1,a2,a3,a4,a5⟩:=k5 rfl
   have hcell:∀k,w'.cell? ⟨G'.blk id,k,none⟩=ca[k]?:=λk=>by simp[World.cell?,a1]
   have:=Rd.sl (M:=M2) l (G'.blk id) 0 (G'.cap id) sz (λi j=>(ca[i*sz+j]?).getD undef) (by omega) (λe he=>by
    obtain⟨i,hi⟩:=A1t.1 he
    have hlt:=(A7.1 hi).1
    have h0:es[i]?=some es[i]:=C3 (by omega)
    rw[(hr i _ _ h0 hi).1]
    exact k2 _ (B9 h0)) (λi j hi hj=>by
    have hk:i*sz+j<ca.size:=by rw[a2];exact X4 (by omega) hj
    rw[v7]
    refine hb id (hlv rfl) _ _ ?_
    rw[hcell]
    simp[hk]) (λi j e d hi hj=>by
    have hlt:=(A7.1 hi).1
    have h0:es[i]?=some es[i]:=C3 (by omega)
    obtain⟨q1,q2⟩:=hr i _ _ h0 hi
    have hjl:=(A7.1 hj).1
    have h4:es[i][j]?=some es[i][j]:=C3 (by omega)
    obtain⟨v,b1,b2⟩:=a5 i j _ _ h0 h4
    simp only[b1,l9]
    exact B94 he hm hb b2 (q2 j _ _ h4 hj))
   rw[hl] at this
   exact this
theorem B97 {a r : AV} {u : Value} (h : VG M' G' os a u) (hd : DG os a r) : VG M2 G' [] r u := by
  rcases hd with ⟨x, h1, rfl⟩ | ⟨cs, xs, rfl, rfl, h1, h2⟩
  · have hv : VC M' G' os a u := by
      cases a with
      | agg cs => rcases h1 with h1 | ⟨_, _, _, _, _, h1, _⟩; · rcases h1 with h1 | ⟨_, _, _, _, _, h1, _⟩ <;> cases h1
                  cases h1
      | _ => exact h
    exact B95 he hm hb hv h1
  · obtain ⟨vs, rfl, h3, h4⟩ := h
    refine ⟨vs, rfl, by simpa [h1] using h3, fun j c v hc hv => ?_⟩
    rw [F8] at hc
    obtain ⟨x, hx, rfl⟩ := F7.1 hc
    have hlt := (A7.1 hx).1
    have h0 : cs[j]? = some cs[j] := C3 (by omega)
    exact B95 he hm hb (h4 j _ v h0 hv) (h2 j _ x h0 hx)
theorem D3y{a r:AV}{u:Value}(h:VA M' G' os a u)(hd:DA os a r):VA M2 G' [] r u:=by
 rcases hd with hd|⟨cs,rs,rfl,rfl,h1,h2⟩
 ·have hv:VG M' G' os a u:=by
   rcases hd with ⟨x,h1,_⟩|⟨cs,xs,rfl,_⟩
   ·rcases h1 with (rfl|⟨_,_,_,_,_,rfl,_⟩)|⟨_,_,_,_,_,rfl,_⟩<;>exact h
   ·exact h
  have h3:=B97 he hm hb hv hd
  rcases hd with ⟨x,_,rfl⟩|⟨cs,xs,_,rfl,_⟩<;>exact h3
 ·obtain⟨vs,rfl,h3,h4⟩:=h
  refine⟨vs,rfl,by omega,λj c v hc hv=>?_⟩
  have hlt:=(A7.1 hc).1
  have h0:cs[j]?=some cs[j]:=C3 (by omega)
  exact B97 he hm hb (h4 j _ v h0 hv) (h2 j _ c h0 hc)
end
theorem B0.deep{P:Program}{f:FuncId}{args:List AV}{Q:AV->List AO->Prop}{Q':AV->Prop}(h:B0 P f args [] Q)(hq:∀r os,Q r os->∃r',DA os r r'/\Q' r'):B0 P f args [] (λr os=>Q' r/\os=[]):=by
 refine⟨h.1,λM G w vs he hl hv=>(h.2 M G w vs he hl hv).mono ?_⟩
 rintro e w' ⟨v,rfl,M',G',r,os,h1,h2,h3,h4⟩
 obtain⟨r',h5,h6⟩:=hq r os h4
 let M2:C2:=λy=>if w.heap.size<=y.block then w'.cell? y else M y
 have hm:∀y u,M' y=some u->M2 y=some u:=by
  intro y u hy
  by_cases hb:w.heap.size<=y.block
  ·simp only[M2,hb,if_true];exact h1.mem y u hy
  ·simp only[M2,hb,if_false]
   rcases h2.fresh y u hy with h7|h7|⟨i,hi,_⟩
   ·exact h7
   ·exact absurd h7 hb
   ·exact(j8 hi).elim
 have hb:∀i,E3 os i->∀(o:Nat) u,w'.cell? ⟨G'.blk i,o,none⟩=some u->M2 ⟨G'.blk i,o,none⟩=some u:=by
  intro i hi o u hu
  rcases h2.own i hi with h7|⟨j,hj,_⟩
  ·simp only[M2,h7,if_true];exact hu
  ·exact(j8 hj).elim
 refine⟨v,rfl,M2,G',r',[],⟨λy u hy=>?_,λid o ho=>by simp at ho,λi j hi=>(j8 hi).elim,λi y u hi=>(j8 hi).elim,λb hb=>⟨(h1.glb b hb).1,λi hi=>(j8 hi).elim⟩⟩,
  {sys:=h2.sys,tape:=h2.tape,output:=h2.output,size:=h2.size,frame:=h2.frame,grow:=λy u hy=>hm y u (h2.grow y u hy),fresh:=λy u hy=>?_,own:=λi hi=>(j8 hi).elim,keep:=λi o ho=>by simp at ho},D3y h1 hm hb h3 h5,h6,rfl⟩
 ·by_cases hb:w.heap.size<=y.block
  ·simp only[M2,hb,if_true] at hy;exact hy
  ·simp only[M2,hb,if_false] at hy;exact h1.mem y u (h2.grow y u hy)
 ·by_cases hb:w.heap.size<=y.block
  ·exact .inr (.inl hb)
  ·simp only[M2,hb,if_false] at hy;exact .inl hy
theorem B0.deepP{P:Program}{f:FuncId}{args:List AV}{Q:AV->List AO->Prop}{r':AV}(h:B0 P f args [] Q)(hq:∀r os,Q r os->DA os r r'):Pure P f args r':=
 (h.deep (Q':=λr=>r=r') λr os hh=>⟨r',hq r os hh,rfl⟩)
end Go.Bi
end
section
namespace Go.Bi
open Go
structure A5C(k:Nat)(P:Program)(n nb:Nat)(cd:IC)(N:Sl->List AO->Prop)(E:Nat->Sl->List AO->Prop)(R:Sl->List AO->Prop)(L:Sl)(os:List AO):Prop where
 h:∀body,cC P n body=some cd->∀c M G w a,X0 n nb c M G os w (D1 L) a->Code.rounds P body (post n nb c (toK ⟨N,E,R⟩)) k a w
section
variable {P:Program}{n nb:Nat}{cd:IC}{N:Sl->List AO->Prop}{E0:Nat->Sl->List AO->Prop}{R:Sl->List AO->Prop}{L:Sl}{os:List AO}
theorem A26(k:Nat)(h:A5C k P n nb cd N E0 R L os):l8 P n nb cd N E0 R L os:=by
 refine⟨λcode=>?_⟩
 induction code with
 |loop body ih=>
  intro hc c M G w a hR
  simp only[cC] at hc
  obtain⟨ic',hic,he⟩:=R2 hc
  cases he
  exact wp_loop_rounds k (h.h body hic c M G w a hR)
 |scope x ih=>
  intro hc c M G w a hR
  simp only[cC] at hc
  refine wp_scope_straight (wp_mono (ih hc c M G w a hR) λe a' w' hp=>?_)
  cases e<;>first|exact hp|exact hp.elim
 |skip=>intro hc;simp[cC] at hc
 |region id ops draw=>intro hc;simp only[cC] at hc;split at hc<;>(try split at hc)<;>(try split at hc)<;>(try split at hc)<;>cases hc
 |seq x y=>intro hc;simp only[cC] at hc;split at hc<;>cases hc
 |cond cnd x y=>intro hc;simp only[cC] at hc;split at hc<;>cases hc
 |block id x=>intro hc;simp only[cC] at hc;obtain⟨_,_,he⟩:=R2 hc;cases he
 |exit id=>intro hc;simp[cC] at hc
 |ret=>intro hc;simp[cC] at hc
 |_=>intro hc;simp[cC] at hc
theorem Q5(hm:P.follows .mixedOrders=true){k:Nat}(h:Go (xI P n nb cd (λL' os'=>A5C k P n nb cd N E0 R L' os') E0 R L os)):A5C (k+1) P n nb cd N E0 R L os:=by
 refine⟨λbody hb c M G w a hR=>?_⟩
 rw[rounds_succ]
 have h1:=A46 (K:=⟨λL' os'=>A5C k P n nb cd N E0 R L' os',E0,R⟩) (K':=toK ⟨λL' os'=>A5C k P n nb cd N E0 R L' os',E0,R⟩) ⟨λL' os' h=>⟨L',rfl,h⟩,λi L' os' h=>⟨L',rfl,h⟩,λL' os' h=>⟨L',rfl,h⟩⟩ h
 refine wp_mono (A7f hm body cd hb _ _ _ h1 c M G w a hR) λe a' w' hp=>?_
 cases e with
 |normal=>
  obtain⟨M',G',os',ρ',hR',L',rfl,hk⟩:=hp
  exact hk.h body hb c M' G' w' a' hR'
 |exit id=>exact hp
 |ret=>exact hp
 |_=>exact hp
theorem A7h(id off sz:Nat)(hsz:Nat.blt 0 sz=true){cs:List AV}(ho:os[id]?=some (.cells cs))(hn:cs[off]?=some (.d .nil))
  (k:l8 P n nb cd N E0 R L ((os++[AO.arr [] sz 0 true]).set id (.cells (cs.set off (.arr os.length 0))))):l8 P n nb cd N E0 R L os:=by
 have hw:=C2h (n:=n) (nb:=nb) (ρ:=D1 L) (os:=os) id off sz (A2d Nat.zero_lt_one (P5 hsz)) ho hn
 refine⟨λcode hc c M G w a hR=>?_⟩
 obtain⟨M',G',hR'⟩:=hw c M G w a hR
 exact k.h code hc c M' G' w a hR'
theorem A7i(id off sz:Nat)(hsz:Nat.blt 0 sz=true){cs:List AV}(ho:os[id]?=some (.cells cs))(hn:cs[off]?=some (.d .nil))
  (k:l8 P n nb cd N E0 R L ((os++[AO.rarr [] sz true]).set id (.cells (cs.set off (.rs os.length 0))))):l8 P n nb cd N E0 R L os:=by
 have hw:=D84 (n:=n) (nb:=nb) (ρ:=D1 L) (os:=os) id off sz (A2d Nat.zero_lt_one (P5 hsz)) ho hn
 refine⟨λcode hc c M G w a hR=>?_⟩
 obtain⟨M',G',hR'⟩:=hw c M G w a hR
 exact k.h code hc c M' G' w a hR'
end
theorem B0.own_nil{P:Program}{f:FuncId}{args:List AV}(sz:Nat)(hsz:0<sz)(h:B0 P f args [] (λr os=>r=.d .nil/\os=[])):B0 P f args [] (λr os=>r=.arr 0 0/\os=[.arr [] sz 0 true]):=by
 refine⟨h.1,λM G w vs he hl hv=>(h.2 M G w vs he hl hv).mono ?_⟩
 rintro e w' ⟨v,rfl,M',G',r,os,h1,h2,h3,rfl,rfl⟩
 obtain⟨n1,n2⟩:=A6e h1 sz hsz
 refine⟨v,rfl,M',G',_,_,n1,h2.trans n2,?_,rfl,rfl⟩
 have:=A0l h3
 subst this
 exact⟨rfl,[],sz,0,true,rfl,G8 _,λ_=>by simp[Gh.slv]⟩
end Go.Bi
end
section
namespace Go.Bi
open Go Go.Proofs Go.Sort Go.Shelf
section
variable {P:Program}{M:C2}{G:Gh}{os:List AO}{w w':World}
theorem OR.live_lt(he:C0 M G os w){id:Nat}{o:AO}(ho:os[id]?=some o)(hl:o.live=true):G.blk id<w.heap.size:=he.lt ⟨o,ho,hl⟩
theorem A74(hsys:w'.os=w.os)(htape:w'.tape=w.tape)(hout:w'.output=w.output)(hsz:w.heap.size<=w'.heap.size)(hh:∀b,b<w.heap.size->w'.heap[b]?=w.heap[b]?):D6 M G os w M G os w' where
 sys:=hsys
 tape:=htape
 output:=hout
 size:=hsz
 frame:=λb hb _=>hh b hb
 grow:=λ_ _ h=>h
 fresh:=λ_ _ h=>.inl h
 own:=λi h=>.inr ⟨i,h,rfl⟩
 keep:=λi o h=>(D6.refl M G os w).keep i o h
theorem B1c(he:C0 M G os w)(hsys:w'.os=w.os)(htape:w'.tape=w.tape)(hout:w'.output=w.output)(hsz:w.heap.size<=w'.heap.size)(hh:∀b,b<w.heap.size->w'.heap[b]?=w.heap[b]?):C0 M G os w' where
 mem:=λa v h=>by
  have h1:=he.mem a v h
  have hlt:a.block<w.heap.size:=by
   unfold World.cell? at h1
   cases hb:w.heap[a.block]? with
   |none=>rw[hb] at h1;cases h1
   |some o=>exact(u4.1 hb).1
  rw[World.cell?_of_block (w:=w) (hh _ hlt)]
  exact h1
 obj:=λi x hx=>by
  have hold:=he.obj i x hx
  by_cases hlv:x.live=true
  ·exact OR.since (A74 hsys htape hout hsz hh) hold rfl rfl (hh _ (OR.live_lt he hx hlv)) (λ_ _=>rfl)
  ·cases x with
   |cells cs=>exact absurd rfl hlv
   |iter s p=>exact absurd rfl hlv
   |hole=>trivial
   |map kvs=>exact absurd rfl hlv
   |mit m n s=>exact absurd rfl hlv
   |arr es sz frz nl=>
    cases nl with
    |false=>exact absurd rfl hlv
    |true=>exact⟨hold.1,hold.2.1,hold.2.2.1,hold.2.2.2.1,λh=>by cases h⟩
   |rarr es sz nl=>
    cases nl with
    |false=>exact absurd rfl hlv
    |true=>exact⟨hold.1,hold.2.1,hold.2.2.1,λh=>by cases h⟩
 inj:=he.inj
 sep:=he.sep
 glb:=A1i (A74 (M:=M) (G:=G) (os:=os) hsys htape hout hsz hh) he.glb
def ints(zs:List Int):List (List D):=zs.map λz=>[.int .i64 z]
theorem A33(zs:List Int):(ints zs).length=zs.length:=by simp[ints]
theorem D4W(zs:List Int):∀e∈ints zs,e.length=1:=by
 intro e he
 obtain⟨z,_,rfl⟩:=D9.1 he
 rfl
theorem C0v(blk:Nat)(f:Array Value->Array Value)(b:Nat)(h:b≠blk):(mapBlock w blk f).heap[b]?=w.heap[b]?:=by
 unfold mapBlock
 simp only[A59]
 rw[if_neg (o5 h)]
theorem C1C(he:C0 M G os w){id:Nat}{zs ys:List Int}(ho:os[id]?=some (.arr (ints zs) 1 0 false))(hlen:ys.length=zs.length)(n:Nat) :
  C0 M G (os.set id (.arr (ints ys) 1 0 false)) (putRow (Value.int .i64) (Sort.ahead w n) (G.blk id) 0 ys.toArray)/\D6 M G os w M G (os.set id (.arr (ints ys) 1 0 false)) (putRow (Value.int .i64) (Sort.ahead w n) (G.blk id) 0 ys.toArray):=by
 obtain⟨h1,h2,h3,h4,h5⟩:=he.obj id _ ho
 obtain⟨ca,t,h6,h7,h8,h9,h10,h11⟩:=h5 rfl
 have hlt:=(A7.1 ho).1
 have hno:∀a v,M a=some v->a.block=G.blk id->False:=λa v ha hb=>by
  obtain⟨es',sz',frz',nl',h12,h13⟩:=he.sep id a v (E3.arr ho) ha hb
  rw[ho] at h12
  cases h12
  omega
 have hk:M5 G G id (os.set id (.arr (ints ys) 1 0 false)) (.arr (ints zs) 1 0 false):=⟨ints ys,0,false,by simp[hlt],by rw[A33,A33];omega,λ_=>⟨rfl,rfl,rfl⟩⟩
 have hoth:∀b,b≠G.blk id->(putRow (Value.int .i64) (Sort.ahead w n) (G.blk id) 0 ys.toArray).heap[b]?=w.heap[b]?:=λb hb=>C0v _ _ b hb
 have hs:=n8 he (w':=putRow (Value.int .i64) (Sort.ahead w n) (G.blk id) 0 ys.toArray) (M':=M) ho rfl rfl rfl rfl (by simp) hoth (λ_ _ h=>h) (λ_ _ h=>.inl h) hk
 refine⟨x6 he ho rfl rfl rfl rfl (by simp) hoth (λ_ _ h=>h) (λ_ _ h=>.inl h) hk (λ_ _=>rfl) (λa v ha hb=>(hno a v ha hb).elim) (λa v ha hb=>(hno a v ha hb).elim) ?_,hs⟩
 rw[A33] at h8
 refine⟨h1,D4W ys,R1 _,λh=>(by cases h),λ_=>⟨putCells (Value.int .i64) 0 ys.toArray ca,t,?_,?_,?_,h9,λi j e x hi hj=>?_,λo ho=>(by omega)⟩⟩
 ·show(mapBlock (Sort.ahead w n) (G.blk id) _).heap[G.blk id]?=_
  unfold mapBlock
  simp only[A59,if_true]
  show Option.map _ w.heap[G.blk id]?=_
  rw[h6];rfl
 ·unfold putCells
  rw[Array.size_mapIdx,h7]
 ·rw[A33];omega
 ·obtain⟨z,hz,rfl⟩:∃z,ys[i]?=some z/\e=[.int .i64 z]:=by
   unfold ints at hi
   rw[F8] at hi
   cases hy:ys[i]? with
   |none=>rw[hy] at hi;cases hi
   |some z=>rw[hy] at hi;cases hi;exact⟨z,rfl,rfl⟩
  have hil:=(A7.1 hz).1
  cases j with
  |succ j=>cases hj
  |zero=>
   cases hj
   refine⟨.int .i64 z,?_,.int _ _⟩
   unfold putCells
   have hic:i*1+0<ca.size:=by rw[h7];omega
   rw[Array.getElem?_mapIdx,J4 hic,A10,if_pos (by simp;omega)]
   have:ys.toArray[i*1+0-0]! = z:=by
    have e:i*1+0-0=i:=by omega
    rw[e,getElem!_pos _ i (by simpa using hil)]
    simpa using(A7.1 hz).2
   rw[this]
theorem C1D(he:C0 M G os w){id:Nat}{zs:List Int}(ho:os[id]?=some (.arr (ints zs) 1 0 false)):Holds (Value.int .i64) w (G.blk id) 0 zs.toArray:=by
 obtain⟨h1,h2,h3,h4,h5⟩:=he.obj id _ ho
 obtain⟨ca,t,h6,h7,h8,h9,h10,h11⟩:=h5 rfl
 intro j hj
 have hj':j<zs.length:=by simpa using hj
 have hz:(ints zs)[j]?=some [.int .i64 zs[j]]:=by unfold ints;rw[F8,C3 hj'];rfl
 obtain⟨u,hu,hr⟩:=h10 j 0 _ _ hz rfl
 cases hr
 rw[Nat.mul_one,A1y] at hu
 refine⟨?_,?_⟩
 ·have:zs.toArray[j]! = zs[j]:=by rw[getElem!_pos _ j hj];simp
  rw[this,v7]
  unfold World.cell?
  rw[h6]
  simpa using hu
 ·unfold World.frozen?
  rw[h6]
  simp
theorem B9R(he:C0 M G os w){id m:Nat}{es:List (List D)}{sz:Nat}(ho:os[id]?=some (.arr es sz 0 false))(hm:m<=es.length) :
  C0 (C2.with M w (G.blk id) (m*sz)) G (os.set id (.arr es sz m false)) w/\
  D6 M G os w (C2.with M w (G.blk id) (m*sz)) G (os.set id (.arr es sz m false)) w/\
  Rd (C2.with M w (G.blk id) (m*sz)) (.sl (es.take m)) (.slice (some ⟨G.blk id,0,none⟩) m (G.cap id)):=by
 obtain⟨h1,h2,h3,h4,h5⟩:=he.obj id _ ho
 obtain⟨ca,t,h6,h7,h8,h9,h10,h11⟩:=h5 rfl
 have hlt:=(A7.1 ho).1
 have hgrow:∀x v,M x=some v->C2.with M w (G.blk id) (m*sz) x=some v:=λx v hx=>by
  unfold C2.with
  split
  ·exact he.mem x v hx
  ·exact hx
 have hnew:∀x v,C2.with M w (G.blk id) (m*sz) x=some v->M x=some v\/x.block=G.blk id:=λx v hx=>by
  unfold C2.with at hx
  split at hx
  ·rename_i hc;exact .inr hc.1
  ·exact .inl hx
 have hk:M5 G G id (os.set id (.arr es sz m false)) (.arr es sz 0 false):=⟨es,m,false,by simp[hlt],G8 _,λ_=>⟨rfl,rfl,rfl⟩⟩
 have hs:=n8 he (w':=w) ho rfl rfl rfl rfl rfl (λ_ _=>rfl) hgrow hnew hk
 have hcl:∀o,o<m*sz->C2.with M w (G.blk id) (m*sz) ⟨G.blk id,o,none⟩=ca[o]?:=λo ho=>by
  unfold C2.with
  rw[if_pos ⟨rfl,rfl,ho⟩]
  simp[World.cell?,h6]
 refine⟨x6 he ho rfl rfl rfl rfl rfl (λ_ _=>rfl) hgrow hnew hk (λx hx=>?_) (λx v hx hb=>?_) (λx v hx hb=>?_) ?_,hs,?_⟩
 ·unfold C2.with
  rw[if_neg (λhc=>hx hc.1)]
 ·unfold C2.with at hx
  split at hx
  ·exact hx
  ·exact he.mem x v hx
 ·refine⟨_,_,_,_,rfl,?_⟩
  unfold C2.with at hx
  split at hx
  ·rename_i hc;exact hc.2.2
  ·obtain⟨es',sz',frz',nl',h12,h13⟩:=he.sep id x v (E3.arr ho) hx hb
   rw[ho] at h12
   cases h12
   omega
 ·refine⟨h1,h2,hm,λh=>(by cases h),λ_=>⟨ca,t,h6,h7,h8,h9,λi j e x hi hj=>?_,hcl⟩⟩
  obtain⟨u,hu,hr⟩:=h10 i j e x hi hj
  exact⟨u,hu,hr.mono hgrow⟩
 ·have hlen:(es.take m).length=m:=by rw[J1];omega
  have key:Rd (C2.with M w (G.blk id) (m*sz)) (.sl (es.take m)) (.slice (some ⟨G.blk id,0,none⟩) (es.take m).length (G.cap id)):=by
   refine Rd.sl (es.take m) (G.blk id) 0 (G.cap id) sz (λi j=>(ca[i*sz+j]?).getD undef) (by omega) (λe hx=>h2 e (Z1 hx)) (λi j hi hj=>?_) (λi j e d hi hj=>?_)
   ·rw[hlen] at hi
    rw[v7,hcl _ (X4 hi hj)]
    have hsz:i*sz+j<ca.size:=by
     rw[h7]
     exact A2d (X4 hi hj) (Y3 _ (by omega))
    simp[hsz]
   ·have hil:=(A7.1 hi).1
    rw[Z0,if_pos (by omega)] at hi
    obtain⟨u,hu,hr⟩:=h10 i j e d hi hj
    simp only[hu,l9]
    exact hr.mono hgrow
  rwa [hlen] at key
theorem D7m{ρ:Ren}(L:Lays.n189 P ρ)(he:Enters P (ρ.f 189))(zs:List Int)(nl:Bool)(hz:zs.length<4611686018427387904) :
  B0 P (ρ.f 189) [.arr 0 (ints zs).length] [.arr (ints zs) 1 0 nl] (λr os'=>r=.tup []/\os'=[.arr (ints (zs.mergeSort λx y=>decide (x<=y))) 1 0 nl]):=by
 refine⟨he,λM G w vs hE hl hv=>?_⟩
 obtain⟨v,rfl⟩:∃v,vs=#[v]:=by
  obtain⟨l⟩:=vs
  match l,hl with
  |[x],_=>exact⟨x,rfl⟩
 have hval:=hv 0 _ v rfl rfl
 obtain⟨h0,es,sz,frz,nl',h1,h2,h3⟩:=hval
 cases h1
 have hv:=h3 rfl
 subst hv
 unfold Gh.slv
 cases nl with
 |true=>
  have hnil:ints zs=[]:=(hE.obj 0 _ rfl).2.2.2.1 rfl
  have hzs:zs=[]:=by unfold ints at hnil;simpa using hnil
  subst hzs
  rw[if_pos rfl]
  refine(Any.slices_Sort_int_none L none 0 w).mono ?_
  rintro e w' ⟨rfl,rfl⟩
  exact⟨_,rfl,M,G,.tup [],_,hE,D6.refl ..,⟨#[],rfl,rfl,by simp⟩,rfl,by simp⟩
 |false=>
  rw[if_neg (by decide),A33]
  have hlt:=OR.live_lt hE (id:=0) rfl rfl
  refine(Any.slices_Sort_int L (G.blk 0) 0 (G.cap 0) zs w (C1D hE (id:=0) rfl) hlt hz).mono ?_
  rintro e w' ⟨rfl,n,xs,rfl⟩
  obtain⟨e1,s1⟩:=C1C hE (id:=0) (ys:=zs.mergeSort λx y=>decide (x<=y)) rfl (by simp) n
  have hh:∀b,b<(putRow (Value.int .i64) (Sort.ahead w n) (G.blk 0) 0 (zs.mergeSort λx y=>decide (x<=y)).toArray).heap.size->(grow (putRow (Value.int .i64) (Sort.ahead w n) (G.blk 0) 0 (zs.mergeSort λx y=>decide (x<=y)).toArray) xs).heap[b]?=(putRow (Value.int .i64) (Sort.ahead w n) (G.blk 0) 0 (zs.mergeSort λx y=>decide (x<=y)).toArray).heap[b]?:=λb hb=>by
   unfold grow
   exact A27 hb
  refine⟨_,rfl,M,G,.tup [],_,B1c e1 rfl rfl rfl (by simp[grow]) hh,s1.trans (A74 rfl rfl rfl (by simp[grow]) hh),⟨#[],rfl,rfl,by simp⟩,rfl,rfl⟩
theorem B8Y(zs:List Int):(Lib.compact zs).length<=zs.length:=by
 unfold Lib.compact Lib.compactUpTo
 rw[C6]
 exact O4 (A0X _ _) (by simp)
theorem D3o{ρ:Ren}(L:Lays2.n20 P ρ)(he:Enters P (ρ.f 20))(zs:List Int)(nl:Bool)(hz:zs.length<=9223372036854775807) :
  B0 P (ρ.f 20) [.arr 0 (ints zs).length] [.arr (ints zs) 1 0 nl] (λr os'=>r=.d (if nl then .nil else .sl (ints (Lib.compact zs)))/\os'=[.arr (ints (Lib.compact zs++List.replicate (zs.length-(Lib.compact zs).length) 0)) 1 (if nl then 0 else (Lib.compact zs).length) nl]):=by
 refine⟨he,λM G w vs hE hl hv=>?_⟩
 obtain⟨v,rfl⟩:∃v,vs=#[v]:=by
  obtain⟨l⟩:=vs
  match l,hl with
  |[x],_=>exact⟨x,rfl⟩
 have hval:=hv 0 _ v rfl rfl
 obtain⟨h0,es,sz,frz,nl',h1,h2,h3⟩:=hval
 cases h1
 have hv:=h3 rfl
 subst hv
 unfold Gh.slv
 cases nl with
 |true=>
  have hnil:ints zs=[]:=(hE.obj 0 _ rfl).2.2.2.1 rfl
  have hzs:zs=[]:=by unfold ints at hnil;simpa using hnil
  subst hzs
  rw[if_pos rfl]
  refine(Any.slices_Compact_int_empty L none 0 w).mono ?_
  rintro e w' ⟨rfl,rfl⟩
  exact⟨_,rfl,M,G,.d .nil,_,hE,D6.refl ..,Rd.nil,rfl,rfl⟩
 |false=>
  rw[if_neg (by decide),A33]
  obtain⟨h1,h2,h3,h4,h5⟩:=hE.obj 0 _ rfl
  obtain⟨ca,t,h6,h7,h8,h9,h10,h11⟩:=h5 rfl
  rw[A33] at h8
  refine(Any.slices_Compact_int L (G.blk 0) 0 (G.cap 0) zs w (C1D hE (id:=0) rfl) hz h8).mono ?_
  rintro e w' ⟨rfl,n,rfl⟩
  have hcl:=B8Y zs
  have hlen:(Lib.compact zs++List.replicate (zs.length-(Lib.compact zs).length) 0).length=zs.length:=by simp;omega
  obtain⟨e1,s1⟩:=C1C hE (id:=0) (ys:=Lib.compact zs++List.replicate (zs.length-(Lib.compact zs).length) 0) rfl hlen n
  obtain⟨e2,s2,r2⟩:=B9R e1 (id:=0) (m:=(Lib.compact zs).length) rfl (by rw[A33,hlen];exact hcl)
  refine⟨_,rfl,_,G,.d (.sl (ints (Lib.compact zs))),_,e2,s1.trans s2,?_,rfl,rfl⟩
  have ht:(ints (Lib.compact zs++List.replicate (zs.length-(Lib.compact zs).length) 0)).take (Lib.compact zs).length=ints (Lib.compact zs):=by
   unfold ints
   rw[<- List.map_take,List.take_left]
  rw[ht] at r2
  exact r2
end
theorem D82{n nb:Nat}{ρ:C5}{os:List AO}(t:Nat){id len sz frz:Nat}{nl:Bool}{es:List (List D)}(ht:ρ t=.arr id len)(ho:os[id]?=some (.arr es sz frz nl))(hl:len=es.length) :
  m4 n nb ρ os (upd t (.d (if nl then .nil else .sl es)) ρ) (os.set id (.arr es sz es.length nl)):=by
 intro c M G w a hR
 have hv:=hR.tmps t
 rw[ht] at hv
 obtain⟨M1,h1,h2,h3⟩:=A6j hR.env (c:=.arr id len) (x:=if nl then .nil else .sl es) (os1:=os.set id (.arr es sz es.length nl)) (by unfold A1f;dsimp only;rw[ho];dsimp only;rw[if_pos hl]) hv
 exact⟨M1,G,{
  env:=h1,since:=hR.since.trans h2,size:=hR.size,defers:=hR.defers,base:=hR.base
  tmps:=λs=>by
   have hs:=(hR.tmps s).since h2
   unfold upd
   split
   ·rename_i h
    subst h
    exact h3
   ·exact hs}⟩
theorem A2F{P:Program}{n nb:Nat}{cd:IC}{N:Sl->List AO->Prop}{E0:Nat->Sl->List AO->Prop}{R:Sl->List AO->Prop}{L:Sl}{os:List AO}(t:Nat){id len sz frz:Nat}{nl:Bool}{es:List (List D)}(ht:D1 L t=.arr id len)(ho:os[id]?=some (.arr es sz frz nl))(hl:len=es.length)
  (k:Go (l8 P n nb cd N E0 R ((t,.d (if nl then .nil else .sl es))::L) (os.set id (.arr es sz es.length nl)))):l8 P n nb cd N E0 R L os:=by
 have hw:=D82 (n:=n) (nb:=nb) (ρ:=D1 L) (os:=os) t ht ho hl
 rw[B1R] at hw
 refine⟨λcode hc c M G w a hR=>?_⟩
 obtain⟨M',G',hR'⟩:=hw c M G w a hR
 exact k.h code hc c M' G' w a hR'
end Go.Bi
end
