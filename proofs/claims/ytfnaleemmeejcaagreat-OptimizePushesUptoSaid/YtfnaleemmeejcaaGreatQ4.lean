/- Texts of this claim, joined. No condition. -/
import Derived.Test.YtfnaleemmeejcaaGreatQ3
set_option linter.unusedSimpArgs false
set_option linter.unusedVariables false
set_option maxRecDepth 10000
set_option maxHeartbeats 4000000
section
namespace Go.Proofs
open Go.Bi
def fe:List (Int×Int)->Int
 |[]=>0
 |r::rs=>if r.2=0 then fe rs else r.2
def W7(op n:Int)(v:Vl)(name:List UInt8)(ks:List Int)(k:Nat)(rs:List (Int×Int)):Int×Int:=
 if (T1 op k).2=false then (0,7) else if K3 op n v name k=false then (0,8)
 else if op=2 then (if 0<=n/\n<ks.length then (ks.getD n.toNat 0,0) else (0,13))
 else if fe rs=0 then (if (N8 op v (rs.map Prod.fst)).2 then ((N8 op v (rs.map Prod.fst)).1,0) else (0,7)) else (0,fe rs)
mutual
def F6(ks:List Int):Ex->Int×Int
 |.mk op n v name nl args=>W7 op n v name ks args.length (A6u ks args)
def A6u(ks:List Int):List Ex->List (Int×Int)
 |[]=>[]
 |e::es=>F6 ks e::A6u ks es
end
theorem C0x(ks:List Int):∀l,A6u ks l=l.map (F6 ks)
 |[]=>by simp[A6u]
 |e::es=>by simp[A6u,C0x ks es]
theorem w6(ks:List Int)(op n:Int)(v:Vl)(name:List UInt8)(nl:Bool)(args:List Ex):F6 ks (.mk op n v name nl args)=W7 op n v name ks args.length (args.map (F6 ks)):=by rw[F6,C0x]
theorem C1w{l:List (Int×Int)}{i:Nat}{x:Int×Int}(h:l[i]?=some x):fe (l.drop i)=if x.2=0 then fe (l.drop (i+1)) else x.2:=by
 obtain⟨hlt,he⟩:=B4.1 h
 rw[S1 hlt,he];rfl
def Kv(rs:List (Int×Int))(i:Nat):List (List D):=A5 ((rs.take i).map Prod.fst)
theorem B7u(rs:List (Int×Int))(i:Nat)(h:i<=rs.length):(Kv rs i).length=i:=by
 unfold Kv
 rw[F9,D8,M4]
 omega
theorem B7v{rs:List (Int×Int)}{i:Nat}{x:Int×Int}(h:rs[i]?=some x):Kv rs i++[[eI x.1]]=Kv rs (i+1):=by
 unfold Kv
 rw[L8,h]
 simp[A5]
theorem B7t{rs:List (Int×Int)}{i:Nat}(h:rs.length<=i):Kv rs i=A5 (rs.map Prod.fst):=by
 unfold Kv
 rw[H4 h]
theorem A2L{op n:Int}{v:Vl}{name:List UInt8}{ks:List Int}{k:Nat}{rs:List (Int×Int)}(h:K3 op n v name k=true)(h2:op≠2):W7 op n v name ks k rs=if fe rs=0 then (if (N8 op v (rs.map Prod.fst)).2 then ((N8 op v (rs.map Prod.fst)).1,0) else (0,7)) else (0,fe rs):=by
 have hc:=A6E (A4j h)
 unfold W7
 have:(T1 op k).2=true:=by
  unfold T1
  repeat' split
  all_goals first|rfl|omega
 rw[this,h,if_neg (by simp),if_neg (by simp),if_neg h2]
theorem C50(ks:List Int)(hks:ks.length<=1073741824)(dk:D)(hdk:A9 dk (A5 ks)):∀e:Ex,e.bk<=1073741824->Pure Tryz.prog B17 [e.av,.d dk] (.tup [.d (eI (F6 ks e).1),.d (eI (F6 ks e).2)]):=by
 refine Ex.ind λop n v name nl args ih hbk=>?_
 obtain⟨b1,b2,b3,b4⟩:=Ex.bk_bounds hbk
 have ih':∀a∈args,Pure Tryz.prog B17 [a.av,.d dk] (.tup [.d (eI (F6 ks a).1),.d (eI (F6 ks a).2)]):=λa ha=>ih a ha (b4 a ha)
 clear ih
 rw[Ex.av_mk,w6]
 refine C8e.go A6 rfl ?_
 have hlen:=P0 args
 have hF:=C52 op n v name (ng nl (xL args)) (xL args) C7 b2 (by omega)
 rw[hlen] at hF
 have hC:=B3I op args.length
 have hm:=P2 args
 have hd:A9 (ng nl (xL args)) (xL args):=C7
 have hget:∀(i:Nat) (op' n':Int) (v':Vl) (name':List UInt8) (nl':Bool) (args':List Ex),args[i]?=some (.mk op' n' v' name' nl' args')->(xL args)[i]?=some (T5 op' n' v' name' (ng nl' (xL args'))):=λi op' n' v' name' nl' args' h=>by
  rw[<- Ex.ds_mk];exact Y1 h
 obtain⟨d,hde⟩:∃d,d=ng nl (xL args):=⟨_,rfl⟩
 rw[<- hde] at hF hd ⊢
 obtain⟨es,hes⟩:∃es,es=xL args:=⟨_,rfl⟩
 rw[<- hes] at hlen hm hd hget
 rw[<- hlen] at hC
 obtain⟨rs,hrs⟩:∃rs,rs=args.map (F6 ks):=⟨_,rfl⟩
 have hrl:rs.length=args.length:=by rw[hrs,D8]
 have hrg:∀(i:Nat) (x:Ex),args[i]?=some x->rs[i]?=some (F6 ks x):=λi x h=>by rw[hrs,J1,h];rfl
 rw[<- hrs]
 cases hk:(T1 op args.length).2 with
 |false=>
  have e:W7 op n v name ks args.length rs=(0,7):=by unfold W7;rw[hk,if_pos rfl]
  rw[e]
  rw[hlen,hk,<- hlen] at hC
  repeat' first|refine st ?_|refine⟨λ_=>?_,λ_=>?_⟩|fail
  all_goals rfl
 |true=>
 rw[hlen,hk,<- hlen] at hC
 cases hf:K3 op n v name args.length with
 |false=>
  have e:W7 op n v name ks args.length rs=(0,8):=by unfold W7;rw[hk,if_neg (by simp),hf,if_pos rfl]
  rw[e]
  rw[hf] at hF
  repeat' first|refine st ?_|refine⟨λ_=>?_,λ_=>?_⟩|fail
  all_goals rfl
 |true=>
 rw[hf] at hF
 have hkl:=F9 ks
 have hkm:=I1 ks
 by_cases h2:op=2
 ·subst h2
  by_cases hn:0<=n/\n<ks.length
  ·have e:W7 2 n v name ks args.length rs=(ks.getD n.toNat 0,0):=by unfold W7;rw[hk,if_neg (by simp),hf,if_neg (by simp),if_pos rfl,if_pos hn]
   rw[e]
   obtain⟨n1,n2⟩:=hn
   have hx:ks[n.toNat]?=some (ks.getD n.toNat 0):=by
    rw[I4,F4 (by omega)];rfl
   have hg:=N2 hx
   have n3:n<(A5 ks).length:=by omega
   repeat' first|refine st ?_|refine⟨λ_=>?_,λ_=>?_⟩|fail
   all_goals rfl
  ·have e:W7 2 n v name ks args.length rs=(0,13):=by unfold W7;rw[hk,if_neg (by simp),hf,if_neg (by simp),if_pos rfl,if_neg hn]
   rw[e]
   by_cases hn0:n<0
   ·repeat' first|refine st ?_|refine⟨λ_=>?_,λ_=>?_⟩|fail
    all_goals rfl
   ·have n3:(A5 ks).length<=n:=by omega
    repeat' first|refine st ?_|refine⟨λ_=>?_,λ_=>?_⟩|fail
    all_goals rfl
 have hq:=A2L (ks:=ks) (rs:=rs) hf h2
 obtain⟨q,hqe⟩:∃q,q=W7 op n v name ks args.length rs:=⟨_,rfl⟩
 rw[<- hqe] at hq ⊢
 have hcnt:=A6E (A4j hf)
 repeat' first|refine st ?_|refine⟨λ_=>?_,λ_=>?_⟩|fail
 refine U7 8 1 rfl rfl ?_
 repeat' first|refine st ?_|refine⟨λ_=>?_,λ_=>?_⟩|fail
 refine L6 A6 D1a C9T (λ(i:Nat) (w:List (List D)×Bool)=>[.arr 1 w.1.length,.d (eI i)]) (λi w=>[.cells [.d (eI op),.d (eI n),.d (eI v.k),.d (eI v.n),.d (.str v.s),.d (.str name),.d d],.arr w.1 1 0 w.2]) (λi w=>i<=args.length/\w.1=Kv rs i/\w.2=w.1.isEmpty/\fe rs=fe (rs.drop i)) (λi _=>args.length-i) 0 ([],true) rfl rfl rfl rfl (λ_ _ _=>⟨rfl,rfl⟩) rfl ⟨by omega,rfl,rfl,rfl⟩ ?_
 repeat' first|refine st ?_|refine⟨λ_=>?_,λ_=>?_⟩|fail
 intro i w ⟨h4,h5,h6,h7⟩
 obtain⟨A,b⟩:=w
 dsimp only at h5 h6 h7 ⊢
 have hAl:A.length=i:=by rw[h5];exact B7u rs i (by omega)
 have hAm:∀e∈A,e.length=1:=by rw[h5];exact I1 _
 cases hx:args[i]? with
 |some x=>
  have hlt:=(B4.1 hx).1
  have hI:=ih' x (C3 hx)
  have hr:=hrg i x hx
  have hs:=B7v hr
  rw[C1w hr] at h7
  rw[<- h5] at hs
  obtain⟨⟨k,er⟩,hke⟩:∃ke,ke=F6 ks x:=⟨_,rfl⟩
  rw[<- hke] at hI hs h7
  obtain⟨op',n',v',name',nl',args'⟩:=x
  rw[Ex.av_mk] at hI
  have hg:=hget i _ _ _ _ _ _ hx
  by_cases her:er=0
  ·rw[if_pos her] at h7
   repeat' first|refine st ?_|refine⟨λ_=>?_,λ_=>?_⟩|fail
   exact⟨i+1,(A++[[eI k]],false),rfl,rfl,rfl,by omega,by omega,hs,by simp,h7⟩
  ·rw[if_neg her] at h7
   dsimp only at h7
   rw[h7,if_neg her] at hq
   rw[hq]
   repeat' first|refine st ?_|refine⟨λ_=>?_,λ_=>?_⟩|fail
   all_goals rfl
 |none=>
  have hge:=E9.1 hx
  rw[R1 (by omega)] at h7
  rw[h7,if_pos (show fe []=0 from rfl)] at hq
  rw[B7t (by omega)] at h5
  clear hrg
  obtain⟨l,hl⟩:∃l,l=rs.map Prod.fst:=⟨_,rfl⟩
  have hll:l.length=args.length:=by rw[hl,D8,hrl]
  rw[<- hl] at h5 hq
  have h22:op=22->1<=l.length:=λe=>by omega
  obtain⟨⟨kr,br⟩,hre⟩:∃r,r=N8 op v l:=⟨_,rfl⟩
  cases b with
  |true=>
   have hA0:A=[]:=by simpa using h6
   subst hA0
   have hR:=B3K op n v name d l (by omega) .nil (.inl ⟨rfl,h5.symm⟩) h22
   rw[<- hre] at hR hq
   rw[hq]
   cases br with
   |true=>
    repeat' first|refine st ?_|refine⟨λ_=>?_,λ_=>?_⟩|fail
    all_goals rfl
   |false=>
    repeat' first|refine st ?_|refine⟨λ_=>?_,λ_=>?_⟩|fail
    all_goals rfl
  |false=>
   have hR:=B3K op n v name d l (by omega) (.sl (A5 l)) u4 h22
   rw[<- hre,<- h5] at hR
   rw[<- hre] at hq
   rw[hq]
   cases br with
   |true=>
    repeat' first|refine st ?_|refine⟨λ_=>?_,λ_=>?_⟩|fail
    all_goals rfl
   |false=>
    repeat' first|refine st ?_|refine⟨λ_=>?_,λ_=>?_⟩|fail
    all_goals rfl
theorem B3G(ks:List Int)(hks:ks.length<=1073741824)(dk:D)(hdk:A9 dk (A5 ks))(e:Ex)(he:e.bk<=1073741824):Pure Tryz.prog A8l [e.av,.d dk] (.tup [.d (eI (if 24<G5 e then (0,26) else F6 ks e).1),.d (eI (if 24<G5 e then ((0,26):Int×Int) else F6 ks e).2)]):=by
 have hD:=C4Z e he
 have hC:=C50 ks hks dk hdk e he
 obtain⟨kr,hre⟩:∃r,r=F6 ks e:=⟨_,rfl⟩
 obtain⟨dp,hdp⟩:∃dp,dp=G5 e:=⟨_,rfl⟩
 rw[<- hre] at hC ⊢
 rw[<- hdp] at hD ⊢
 obtain⟨op,n,v,name,nl,args⟩:=e
 rw[Ex.av_mk] at hC hD ⊢
 refine C87.go A6 rfl ?_
 by_cases h:24<dp
 ·rw[if_pos h]
  have h2:(24:Int)<((min 25 dp:Nat):Int):=by omega
  repeat' first|refine st ?_|refine⟨λ_=>?_,λ_=>?_⟩|fail
  all_goals rfl
 ·rw[if_neg h]
  have h2:((min 25 dp:Nat):Int)<=24:=by omega
  repeat' first|refine st ?_|refine⟨λ_=>?_,λ_=>?_⟩|fail
  all_goals rfl
end Go.Proofs
end
section
namespace Go.Proofs
open Go.Bi
theorem C5t(ks:List Int)(hks:ks.length<=1073741824)(dk:D)(hdk:A9 dk (A5 ks)):∀e:Ex,e.bk<=1073741824->Pure Tryz.prog B0Y [e.av,.d dk] (.tup [.d (eI (F6 ks e).1),.d (eI (F6 ks e).2)]):=by
 refine Ex.ind λop n v name nl args ih hbk=>?_
 obtain⟨b1,b2,b3,b4⟩:=Ex.bk_bounds hbk
 have ih':∀a∈args,Pure Tryz.prog B0Y [a.av,.d dk] (.tup [.d (eI (F6 ks a).1),.d (eI (F6 ks a).2)]):=λa ha=>ih a ha (b4 a ha)
 clear ih
 rw[Ex.av_mk,w6]
 refine C7z.go A6 rfl ?_
 have hlen:=P0 args
 have hF:=B0l op n v name (ng nl (xL args)) (xL args) C7 b2 (by omega)
 rw[hlen] at hF
 have hC:=B3T op
 have hac:=(C0c op args.length (by omega)).2
 have hm:=P2 args
 have hd:A9 (ng nl (xL args)) (xL args):=C7
 have hget:∀(i:Nat) (op' n':Int) (v':Vl) (name':List UInt8) (nl':Bool) (args':List Ex),args[i]?=some (.mk op' n' v' name' nl' args')->(xL args)[i]?=some (T5 op' n' v' name' (ng nl' (xL args'))):=λi op' n' v' name' nl' args' h=>by
  rw[<- Ex.ds_mk];exact Y1 h
 obtain⟨d,hde⟩:∃d,d=ng nl (xL args):=⟨_,rfl⟩
 rw[<- hde] at hF hd ⊢
 obtain⟨es,hes⟩:∃es,es=xL args:=⟨_,rfl⟩
 rw[<- hes] at hlen hm hd hget
 obtain⟨rs,hrs⟩:∃rs,rs=args.map (F6 ks):=⟨_,rfl⟩
 have hrl:rs.length=args.length:=by rw[hrs,D8]
 have hrg:∀(i:Nat) (x:Ex),args[i]?=some x->rs[i]?=some (F6 ks x):=λi x h=>by rw[hrs,J1,h];rfl
 rw[<- hrs]
 cases hk:(T1 op args.length).2 with
 |false=>
  have e:W7 op n v name ks args.length rs=(0,7):=by unfold W7;rw[hk,if_pos rfl]
  rw[e]
  rw[hk] at hac
  have hac:(s9 op).1<0:=by
   have:=of_decide_eq_false hac.symm
   omega
  repeat' first|refine st ?_|((with_reducible apply A4);conv=>whnf)|refine⟨λ_=>?_,λ_=>?_⟩|fail
  all_goals rfl
 |true=>
 rw[hk] at hac
 have hac:¬(s9 op).1<0:=of_decide_eq_true hac.symm
 cases hf:K3 op n v name args.length with
 |false=>
  have e:W7 op n v name ks args.length rs=(0,8):=by unfold W7;rw[hk,if_neg (by simp),hf,if_pos rfl]
  rw[e]
  rw[hf] at hF
  repeat' first|refine st ?_|((with_reducible apply A4);conv=>whnf)|refine⟨λ_=>?_,λ_=>?_⟩|fail
  all_goals rfl
 |true=>
 rw[hf] at hF
 have hkl:=F9 ks
 have hkm:=I1 ks
 have hcnt:=A6E (A4j hf)
 obtain⟨q,hqe⟩:∃q,q=W7 op n v name ks args.length rs:=⟨_,rfl⟩
 rw[<- hqe]
 have hq2:op=2->q=if 0<=n/\n<ks.length then (ks.getD n.toNat 0,0) else (0,13):=λh2=>by
  rw[hqe];unfold W7;rw[hk,if_neg (by simp),hf,if_neg (by simp),if_pos h2]
 have hqo:op≠2->_:=λh2=>hqe.trans (A2L hf h2)
 clear hqe
 by_cases h2:op=2
 ·have hq:=hq2 h2
  subst h2
  by_cases hn:0<=n/\n<ks.length
  ·rw[if_pos hn] at hq
   obtain⟨n1,n2⟩:=hn
   have hx:ks[n.toNat]?=some (ks.getD n.toNat 0):=by
    rw[I4,F4 (by omega)];rfl
   have n3:n<(A5 ks).length:=by omega
   have n4:¬(A5 ks).length<=n:=by omega
   have ha0:args=[]:=A0J.1 (by omega)
   subst ha0
   have hR:=C5C n v name d [] ks (.sl (A5 [])) u4 dk hdk _ n1 hx
   have hlen0:es.length=0:=hlen
   have hes0:es=[]:=A0J.1 hlen0
   rw[hq]
   obtain⟨z,hz⟩:∃z,z=ks.getD n.toNat 0:=⟨_,rfl⟩
   rw[<- hz] at hR ⊢
   repeat' first|refine st ?_|((with_reducible apply A4);conv=>whnf)|refine⟨λ_=>?_,λ_=>?_⟩|fail
   refine K6 A6 B7H B7y (λ(i:Nat)=>[.arr 1 0,.d (eI i)]) (λi=>[.cells [.d (eI 2),.d (eI n),.d (eI v.k),.d (eI v.n),.d (.str v.s),.d (.str name),.d d],.arr [] 1 0 false]) (λi=>i=0) (λi=>0) 0 rfl rfl rfl rfl (λ_ _=>⟨rfl,rfl⟩) rfl rfl ?_
   repeat' first|refine st ?_|((with_reducible apply A4);conv=>whnf)|refine⟨λ_=>?_,λ_=>?_⟩|fail
   intro i hi
   subst hi
   have h0:es.length<=((0:Nat):Int):=by omega
   have h00:([]:List (List D)).length=0:=rfl
   have hm0:∀e∈([]:List (List D)),e.length=1:=by intro e he;cases he
   repeat' first|refine st ?_|((with_reducible apply A4);conv=>whnf)|refine⟨λ_=>?_,λ_=>?_⟩|fail
   all_goals rfl
  ·rw[if_neg hn] at hq
   rw[hq]
   by_cases hn0:n<0
   ·repeat' first|refine st ?_|((with_reducible apply A4);conv=>whnf)|refine⟨λ_=>?_,λ_=>?_⟩|fail
    all_goals rfl
   ·have n3:(A5 ks).length<=n:=by omega
    repeat' first|refine st ?_|((with_reducible apply A4);conv=>whnf)|refine⟨λ_=>?_,λ_=>?_⟩|fail
    all_goals rfl
 have hq:=hqo h2
 repeat' first|refine st ?_|((with_reducible apply A4);conv=>whnf)|refine⟨λ_=>?_,λ_=>?_⟩|fail
 refine L6 A6 B7H B7y (λ(i:Nat) (A:List (List D))=>[.arr 1 A.length,.d (eI i)]) (λi A=>[.cells [.d (eI op),.d (eI n),.d (eI v.k),.d (eI v.n),.d (.str v.s),.d (.str name),.d d],.arr A 1 0 false]) (λi A=>i<=args.length/\A=Kv rs i/\fe rs=fe (rs.drop i)) (λi _=>args.length-i) 0 [] rfl rfl rfl rfl (λ_ _ _=>⟨rfl,rfl⟩) rfl ⟨by omega,rfl,rfl⟩ ?_
 repeat' first|refine st ?_|((with_reducible apply A4);conv=>whnf)|refine⟨λ_=>?_,λ_=>?_⟩|fail
 intro i A ⟨h4,h5,h7⟩
 have hAl:A.length=i:=by rw[h5];exact B7u rs i (by omega)
 have hAm:∀e∈A,e.length=1:=by rw[h5];exact I1 _
 cases hx:args[i]? with
 |some x=>
  have hlt:=(B4.1 hx).1
  have hI:=ih' x (C3 hx)
  have hr:=hrg i x hx
  have hs:=B7v hr
  rw[C1w hr] at h7
  rw[<- h5] at hs
  obtain⟨⟨k,er⟩,hke⟩:∃ke,ke=F6 ks x:=⟨_,rfl⟩
  rw[<- hke] at hI hs h7
  obtain⟨op',n',v',name',nl',args'⟩:=x
  rw[Ex.av_mk] at hI
  have hg:=hget i _ _ _ _ _ _ hx
  by_cases her:er=0
  ·rw[if_pos her] at h7
   repeat' first|refine st ?_|((with_reducible apply A4);conv=>whnf)|refine⟨λ_=>?_,λ_=>?_⟩|fail
   exact⟨i+1,A++[[eI k]],rfl,rfl,rfl,by omega,by omega,hs,h7⟩
  ·rw[if_neg her] at h7
   dsimp only at h7
   rw[h7,if_neg her] at hq
   rw[hq]
   repeat' first|refine st ?_|((with_reducible apply A4);conv=>whnf)|refine⟨λ_=>?_,λ_=>?_⟩|fail
   all_goals rfl
 |none=>
  have hge:=E9.1 hx
  rw[R1 (by omega)] at h7
  rw[h7,if_pos (show fe []=0 from rfl)] at hq
  rw[B7t (by omega)] at h5
  clear hrg
  obtain⟨l,hl⟩:∃l,l=rs.map Prod.fst:=⟨_,rfl⟩
  have hll:l.length=args.length:=by rw[hl,D8,hrl]
  rw[<- hl] at h5 hq
  have h22:op=22->1<=l.length:=λe=>by omega
  obtain⟨⟨kr,br⟩,hre⟩:∃r,r=N8 op v l:=⟨_,rfl⟩
  have hR:=C5B op n v name d l (by omega) (.sl (A5 l)) u4 dk h22 (by omega) h2
  rw[<- hre,<- h5] at hR
  rw[<- hre] at hq
  rw[hq]
  cases br with
  |true=>
   repeat' first|refine st ?_|((with_reducible apply A4);conv=>whnf)|refine⟨λ_=>?_,λ_=>?_⟩|fail
   all_goals rfl
  |false=>
   repeat' first|refine st ?_|((with_reducible apply A4);conv=>whnf)|refine⟨λ_=>?_,λ_=>?_⟩|fail
   all_goals rfl
theorem B3U(ks:List Int)(hks:ks.length<=1073741824)(dk:D)(hdk:A9 dk (A5 ks))(e:Ex)(he:e.bk<=1073741824):Pure Tryz.prog A8g [e.av,.d dk] (.tup [.d (eI (if 24<G5 e then (0,26) else F6 ks e).1),.d (eI (if 24<G5 e then ((0,26):Int×Int) else F6 ks e).2)]):=by
 have hD:=B40 e he
 have hC:=C5t ks hks dk hdk e he
 obtain⟨kr,hre⟩:∃r,r=F6 ks e:=⟨_,rfl⟩
 obtain⟨dp,hdp⟩:∃dp,dp=G5 e:=⟨_,rfl⟩
 rw[<- hre] at hC ⊢
 rw[<- hdp] at hD ⊢
 obtain⟨op,n,v,name,nl,args⟩:=e
 rw[Ex.av_mk] at hC hD ⊢
 refine C7o.go A6 rfl ?_
 by_cases h:24<dp
 ·rw[if_pos h]
  have h2:(24:Int)<(dp:Int):=by omega
  repeat' first|refine st ?_|((with_reducible apply A4);conv=>whnf)|refine⟨λ_=>?_,λ_=>?_⟩|fail
  all_goals rfl
 ·rw[if_neg h]
  have h2:(dp:Int)<=24:=by omega
  repeat' first|refine st ?_|((with_reducible apply A4);conv=>whnf)|refine⟨λ_=>?_,λ_=>?_⟩|fail
  all_goals rfl
end Go.Proofs
end
section
namespace Go.Proofs
open Go.Bi
abbrev S9(ks:List Int)(e:Ex):Int×Int:=if 24<G5 e then (0,26) else F6 ks e
def G8(ks:List Int):List Ex->List Int×Int
 |[]=>([],0)
 |e::r=>if (S9 ks e).2=0 then (if (S9 ks e).1=0 then ([],7) else if (G8 ks r).2=0 then ((S9 ks e).1::(G8 ks r).1,0) else ([],(G8 ks r).2)) else ([],(S9 ks e).2)
theorem B45(ks:List Int)(hks:ks.length<=1073741824)(dk:D)(hdk:A9 dk (A5 ks))(xs:List Ex)(hx:xs.length<=1073741824)(hxb:∀e∈xs,e.bk<=1073741824)(dx:D)(hdx:A9 dx (xL xs)) :
  Pure Tryz.prog B8Z [.d dk,.d dx] (.tup [.d (X8 (A5 (G8 ks xs).1).isEmpty (A5 (G8 ks xs).1)),.d (eI (G8 ks xs).2)]):=by
 have hC:=λ(e:Ex) (h:e∈xs)=>B3U ks hks dk hdk e (hxb e h)
 have l1:=P0 xs
 have m1:=P2 xs
 have g1:=λi e=>@Y1 xs i e
 obtain⟨es,hes⟩:∃z,z=xL xs:=⟨_,rfl⟩
 rw[<- hes] at hdx l1 m1 g1
 clear hes
 obtain⟨q,hq⟩:∃q,q=G8 ks xs:=⟨_,rfl⟩
 rw[<- hq]
 refine C7T.go A6 rfl ?_
 repeat' first|refine st ?_|((with_reducible apply A4);conv=>whnf)|refine⟨λ_=>?_,λ_=>?_⟩|fail
 refine U7 6 1 rfl rfl ?_
 refine L6 A6 D0V C9E (λ(i:Nat) (w:List Int)=>[.arr 0 (A5 w).length,.d (eI i)]) (λi w=>[.arr (A5 w) 1 0 (A5 w).isEmpty]) (λi w=>i<=xs.length/\w.length=i/\q=if (G8 ks (xs.drop i)).2=0 then (w++(G8 ks (xs.drop i)).1,0) else ([],(G8 ks (xs.drop i)).2)) (λi w=>xs.length-i) 0 [] rfl rfl rfl rfl (λ_ _ _=>⟨rfl,rfl⟩) rfl ⟨by omega,rfl,by
  rw[hq]
  show G8 ks xs=if (G8 ks xs).2=0 then ((G8 ks xs).1,0) else ([],(G8 ks xs).2)
  split
  ·rename_i h;exact Prod.ext rfl h
  ·rename_i h
   refine Prod.ext ?_ rfl
   cases xs with
   |nil=>exact absurd rfl h
   |cons e r=>
    rw[G8] at h ⊢
    split
    ·rename_i h1
     rw[if_pos h1] at h
     split
     ·rfl
     ·rename_i h2
      rw[if_neg h2] at h
      split
      ·rename_i h3
       rw[if_pos h3] at h
       exact absurd rfl h
      ·rfl
    ·rfl⟩ ?_
 repeat' first|refine st ?_|((with_reducible apply A4);conv=>whnf)|refine⟨λ_=>?_,λ_=>?_⟩|fail
 intro i w ⟨i1,i2,i3⟩
 clear hq
 have hw1:=F9 w
 have hwm:=I1 w
 have hbd:((A5 w).length+1)*8<=140737488355328:=by omega
 have happ:=λk:Int=>show A5 (w++[k])=A5 w++[[eI k]] by simp[A5]
 have hne:=λk:Int=>show(A5 (w++[k])).isEmpty=false by simp[A5]
 obtain⟨A,hA⟩:∃z,z=A5 w:=⟨_,rfl⟩
 rw[<- hA] at hw1 hwm hbd ⊢
 cases hi:xs[i]? with
 |some e=>
  have hlt:=(B4.1 hi).1
  have hil:(i:Int)<es.length:=by omega
  have hg:=g1 i e hi
  have hC:=hC e (C3 hi)
  have dx':xs.drop i=e::xs.drop (i+1):=by rw[S1 hlt,(B4.1 hi).2]
  rw[dx',G8] at i3
  have hC:Bi.Pure Tryz.prog A8g [e.av,.d dk] (.tup [.d (eI (S9 ks e).1),.d (eI (S9 ks e).2)]):=hC
  obtain⟨⟨k,er⟩,hk⟩:∃z,z=S9 ks e:=⟨_,rfl⟩
  rw[<- hk] at hC i3
  dsimp only at hC i3
  clear hk dx'
  obtain⟨xo,xn,xv,xm,xl,xa⟩:=e
  rw[Ex.ds_mk] at hg
  rw[Ex.av_mk] at hC
  have hg:es[((i:Nat):Int).toNat]?=some (T5 xo xn xv xm (ng xl (xL xa))):=hg
  obtain⟨xd,hxd⟩:∃d,d=ng xl (xL xa):=⟨_,rfl⟩
  rw[<- hxd] at hg hC
  by_cases h1:er=0
  ·subst h1
   rw[if_pos rfl] at i3
   by_cases h2:k=0
   ·subst h2
    rw[if_pos rfl] at i3
    have i3:q=([],7):=i3
    subst i3
    clear hi g1 hxd hA happ hne
    repeat' first|refine st ?_|((with_reducible apply A4);conv=>whnf)|refine⟨λ_=>?_,λ_=>?_⟩|fail
    all_goals rfl
   ·rw[if_neg h2] at i3
    have i4:q=if (G8 ks (xs.drop (i+1))).2=0 then ((w++[k])++(G8 ks (xs.drop (i+1))).1,0) else ([],(G8 ks (xs.drop (i+1))).2):=by
     rw[i3]
     by_cases h3:(G8 ks (xs.drop (i+1))).2=0
     ·rw[if_pos h3,if_pos rfl,if_pos h3,S6];rfl
     ·rw[if_neg h3,if_neg h3,if_neg h3]
    have happ:=happ k
    have hne:=hne k
    rw[<- hA] at happ
    clear hi g1 hxd i3
    repeat' first|refine st ?_|((with_reducible apply A4);conv=>whnf)|refine⟨λ_=>?_,λ_=>?_⟩|fail
    exact⟨i+1,w++[k],by rw[happ];simp,rfl,by rw[hne,happ];simp,by omega,by omega,by simp;omega,i4⟩
  ·rw[if_neg h1,if_neg h1] at i3
   subst i3
   clear hi g1 hxd hA happ hne
   repeat' first|refine st ?_|((with_reducible apply A4);conv=>whnf)|refine⟨λ_=>?_,λ_=>?_⟩|fail
   all_goals rfl
 |none=>
  have hge:=E9.1 hi
  have hil:(es.length:Int)<=i:=by omega
  rw[R1 hge] at i3
  have i3:q=(w,0):=by rw[i3];simp[G8]
  subst i3
  dsimp only
  rw[<- hA]
  clear hi g1 happ hne hA
  repeat' first|refine st ?_|((with_reducible apply A4);conv=>whnf)|refine⟨λ_=>?_,λ_=>?_⟩|fail
  all_goals (cases A<;>rfl)
end Go.Proofs
end
section
namespace Go.Proofs
open Go.Bi
theorem C5S(ks:List Int)(hks:ks.length<=1073741824)(dk:D)(hdk:A9 dk (A5 ks))(l:List Rw)(hl:l.length<=4294967296)(ho:∀r∈l,A3i r.vs)(dr:D)(hd:A9 dr (B7 l))(xs:List Ex)(hx:xs.length<=1073741824)(hxb:∀e∈xs,e.bk<=1073741824)(dx:D)(hdx:A9 dx (xL xs)) :
  Pure Tryz.prog B8Y [O6 dk dr,.d dx] (O6 (X8 (A5 (G8 ks xs).1).isEmpty (A5 (G8 ks xs).1)) (.sl (rD (D1 ((A8 l).map (R9 xs)))))):=by
 have hP:=B45 ks hks dk hdk xs hx hxb dx hdx
 obtain⟨kd,hkd⟩:∃z,z=X8 (A5 (G8 ks xs).1).isEmpty (A5 (G8 ks xs).1):=⟨_,rfl⟩
 rw[<- hkd] at hP ⊢
 obtain⟨ke,hke⟩:∃z,z=(G8 ks xs).2:=⟨_,rfl⟩
 rw[<- hke] at hP
 clear hkd hke hdk hks
 have hV:=λ(r:Rw) (h:r∈l)=>C5V xs hx hxb dx hdx r.vs (ho r h) r.d C7
 have hS:=λd hd=>A0p (l.map λr=>Rw.mk true (R9 xs r.vs)) (by rw[D8];exact hl) (λr h=>by
  obtain⟨x,_,rfl⟩:=D7.1 h
  show(xs.map (ev x.vs)).length<=_
  rw[D8];omega) d hd
 rw[show A8 (l.map λr=>Rw.mk true (R9 xs r.vs))=(A8 l).map (R9 xs) by unfold A8;rw[V0,V0];rfl] at hS
 obtain⟨Z,hZ⟩:∃z,z=rD (D1 ((A8 l).map (R9 xs))):=⟨_,rfl⟩
 rw[<- hZ] at hS ⊢
 clear hZ
 have l1:=U8 l
 have m1:=X2 l
 have g1:=λi r=>@A0W l i r
 obtain⟨es,hes⟩:∃z,z=B7 l:=⟨_,rfl⟩
 rw[<- hes] at hd l1 m1 g1
 clear hes
 refine C7S.go A6 rfl ?_
 repeat' first|refine st ?_|((with_reducible apply A4);conv=>whnf)|refine⟨λ_=>?_,λ_=>?_⟩|fail
 refine A1U 2 1 1 rfl rfl rfl ?_
 refine L6 A6 D0U C9D (λ(i:Nat) (w:List Rw)=>[.d (eI i)]) (λi w=>[.cells [.d dk,.d dr],.cells [.d .nil,.d .nil],.cells [.d kd,.arr 3 (B7 w).length],.arr (B7 w) 1 0 (B7 w).isEmpty]) (λi w=>i<=l.length/\w=(l.take i).map λr=>Rw.mk true (R9 xs r.vs)) (λi w=>l.length-i) 0 [] rfl rfl rfl rfl (λ_ _ _=>⟨rfl,rfl⟩) rfl ⟨by omega,rfl⟩ ?_
 repeat' first|refine st ?_|((with_reducible apply A4);conv=>whnf)|refine⟨λ_=>?_,λ_=>?_⟩|fail
 intro i w ⟨i1,i2⟩
 have hwl:w.length<=i:=by rw[i2,D8,M4];omega
 have hw1:=U8 w
 have hwm:=X2 w
 have hbd:((B7 w).length+1)*24<=140737488355328:=by omega
 have happ:=λr=>show B7 (w++[r])=B7 w++[[r.d]] by rw[A8R];rfl
 obtain⟨A,hA⟩:∃z,z=B7 w:=⟨_,rfl⟩
 rw[<- hA] at hw1 hwm hbd ⊢
 cases hi:l[i]? with
 |some r=>
  have hlt:=(B4.1 hi).1
  have hil:(i:Int)<es.length:=by omega
  have e1:es[((i:Nat):Int).toNat]?=some [r.d]:=g1 i r hi
  have hV:=hV r (C3 hi)
  have hft:(l.take (i+1)).map (λr=>Rw.mk true (R9 xs r.vs))=w++[Rw.mk true (R9 xs r.vs)]:=by
   rw[i2,L8,hi];simp
  obtain⟨R,hR⟩:∃z,z=Rw.mk true (R9 xs r.vs):=⟨_,rfl⟩
  have hV:Bi.Pure Tryz.prog A8i [.d dx,.d r.d] (.d R.d):=by
   rw[hR]
   show Bi.Pure Tryz.prog A8i [.d dx,.d r.d] (.d (ng true (B6 (R9 xs r.vs))))
   have e:ng true (B6 (R9 xs r.vs))=X8 (B6 (R9 xs r.vs)).isEmpty (B6 (R9 xs r.vs)):=by unfold ng X8;rw[Q4]
   rw[e];exact hV
  rw[<- hR] at hft
  have happ:=happ R
  rw[<- hA] at happ
  have hne:(A++[[R.d]]).isEmpty=false:=by simp
  obtain⟨rd,hrd⟩:∃d,d=r.d:=⟨_,rfl⟩
  rw[<- hrd] at hV e1
  obtain⟨Rd,hRd⟩:∃d,d=R.d:=⟨_,rfl⟩
  rw[<- hRd] at hV happ hne
  clear hrd i2 hi g1 hS ho hR hRd
  repeat' first|refine st ?_|((with_reducible apply A4);conv=>whnf)|refine⟨λ_=>?_,λ_=>?_⟩|fail
  exact⟨i+1,w++[R],rfl,rfl,by rw[happ,hne];first|done|rfl|simp,by omega,by omega,hft.symm⟩
 |none=>
  have hge:=E9.1 hi
  have hil:(es.length:Int)<=i:=by omega
  rw[H4 hge] at i2
  rw[<- i2] at hS
  obtain⟨b,hb⟩:∃b,b=A.isEmpty:=⟨_,rfl⟩
  rw[<- hA] at hS
  have hS:=hS (if b then .nil else .sl A) (A9k hb)
  rw[<- hb]
  clear i2 hi g1 ho hV happ
  cases b
  all_goals skip
  all_goals repeat' first|refine st ?_|((with_reducible apply A4);conv=>whnf)|refine⟨λ_=>?_,λ_=>?_⟩|fail
  all_goals rfl
end Go.Proofs
end
section
namespace Go.Proofs
open Go.Bi
theorem B4h(a b:List Vl)(ha:a.length+b.length<=4294967296)(da db:D)(hda:A9 da (B6 a))(hdb:A9 db (B6 b)):Pure Tryz.prog B8n [.d da,.d db] (.d (.sl (B6 (a++b)))):=by
 have h1:=X3 a
 have hm:=T7 a
 have h2:=X3 b
 have hm2:=T7 b
 have hap:B6 (a++b)=B6 a++B6 b:=by simp[B6]
 rw[hap]
 have h3:(([]:List (List D))++B6 a).length=a.length:=by simp[h1]
 refine C7c.go A6 rfl ?_
 repeat' first|refine st ?_|((with_reducible apply A4);conv=>whnf)|refine⟨λ_=>?_,λ_=>?_⟩|fail
 all_goals (simp;try rfl)
def R5(e:Ex)(B:List B5)(a:B5):List B5:=(B.map λb=>a++b).filter (L9 e)
def jnO(left:Bool)(nb:Nat)(a:B5)(l:List B5):List B5:=if left&&l.isEmpty then [a++List.replicate nb E6] else []
def N5(e:Ex)(left:Bool)(nb:Nat)(B:List B5):List B5->List B5
 |[]=>[]
 |a::r=>R5 e B a++jnO left nb a (R5 e B a)++N5 e left nb B r
theorem D6P{e:Ex}{B:List B5}{a b:B5}{k:Nat}(h:B[k]?=some b):R5 e (B.drop k) a=(if L9 e (a++b) then [a++b] else [])++R5 e (B.drop (k+1)) a:=by
 obtain⟨h1,h2⟩:=B4.1 h
 rw[S1 h1,h2]
 unfold R5
 rw[H5,g9]
 split<;>rfl
theorem C5P(ka kb:List Int)(hkk:ka.length+kb.length<=4294967296)(hkb:kb.length<=4096)(dka dkb:D)(hka:A9 dka (A5 ka))(hkbd:A9 dkb (A5 kb))(A B:List Rw)(hA:A.length<=4294967296)(hB:B.length<=4294967296)
  (hAo:∀r∈A,r.vs.length<=4096/\∀v∈r.vs,v.s.length<=1073741824) (hBo:∀r∈B,r.vs.length<=4096/\∀v∈r.vs,v.s.length<=1073741824) (da db:D) (hda:A9 da (B7 A)) (hdb:A9 db (B7 B)) (e:Ex) (he:e.bk<=1073741824) (left:Bool)
  (hR:(N5 e left kb.length (A8 B) (A8 A)).length<=4294967296) :
  Pure Tryz.prog B8U [O6 dka da,O6 dkb db,e.av,.d (.bool left)] (O6 (X8 (A5 (ka++kb)).isEmpty (A5 (ka++kb))) (.sl (rD (D1 (N5 e left kb.length (A8 B) (A8 A)))))):=by
 have hJ:=B48 ka kb hkk dka dkb hka hkbd
 obtain⟨dj,hdj⟩:∃z,z=X8 (A5 (ka++kb)).isEmpty (A5 (ka++kb)):=⟨_,rfl⟩
 rw[<- hdj] at hJ ⊢
 have hN:=C6g kb.length hkb
 have lk:=F9 kb
 have hC:=λ(x y:Rw) (hx:x∈A) (hy:y∈B)=>B4h x.vs y.vs (by have:=(hAo x hx).1;have:=(hBo y hy).1;omega) x.d y.d C7 C7
 have hCn:=λ(x:Rw) (hx:x∈A)=>B4h x.vs (List.replicate kb.length E6) (by have:=(hAo x hx).1;rw[A38];omega) x.d (.sl (B6 (List.replicate kb.length E6))) C7 (.inr rfl)
 have hT:=λ(x y:Rw) (hx:x∈A) (hy:y∈B)=>B3Y (x.vs++y.vs) (by have:=(hAo x hx).1;have:=(hBo y hy).1;rw[H8];omega) (λv hv=>by
  rcases K8.1 hv with hv|hv
  ·exact(hAo x hx).2 v hv
  ·exact(hBo y hy).2 v hv) (.sl (B6 (x.vs++y.vs))) (.inr rfl) e he
 obtain⟨R,hRR⟩:∃z,z=N5 e left kb.length (A8 B) (A8 A):=⟨_,rfl⟩
 rw[<- hRR] at hR ⊢
 have hRm:∀r∈R,r.length<=4294967296:=by
  rw[hRR]
  clear hRR hR
  have key:∀l:List Rw,(∀r∈l,r∈A)->∀r∈N5 e left kb.length (A8 B) (A8 l),r.length<=4294967296:=by
   intro l
   induction l with
   |nil=>intro _ r hr;cases hr
   |cons a t ih=>
    intro hl r hr
    have ha:=hl a (by simp)
    have hr:r∈R5 e (A8 B) a.vs++jnO left kb.length a.vs (R5 e (A8 B) a.vs)++N5 e left kb.length (A8 B) (A8 t):=hr
    rcases K8.1 hr with hr|hr
    ·rcases K8.1 hr with hr|hr
     ·unfold R5 at hr
      obtain⟨b,hb,rfl⟩:=D7.1 (m0.1 hr).1
      obtain⟨y,hy,rfl⟩:=D7.1 hb
      have:=(hAo a ha).1
      have:=(hBo y hy).1
      rw[H8];omega
     ·unfold jnO at hr
      split at hr
      ·rw[M7.1 hr,H8,A38]
       have:=(hAo a ha).1
       omega
      ·cases hr
    ·exact ih (λx hx=>hl x (by simp[hx])) r hr
  exact key A λr h=>h
 have hS:=A0p (J0 R) (by unfold J0;rw[D8];exact hR) (λr h=>by
  obtain⟨x,hx,rfl⟩:=D7.1 h
  exact hRm x hx) (if (rD R).isEmpty then .nil else .sl (rD R)) (by rw[A8S];exact A9k rfl)
 rw[A33] at hS
 obtain⟨Z,hZ⟩:∃z,z=rD (D1 R):=⟨_,rfl⟩
 rw[<- hZ] at hS ⊢
 clear hZ hRm hdj
 have l1:=U8 A
 have m1:=X2 A
 have g1:=λi r=>@A0W A i r
 have l2:=U8 B
 have m2:=X2 B
 have g2:=λi r=>@A0W B i r
 obtain⟨es,hes⟩:∃z,z=B7 A:=⟨_,rfl⟩
 obtain⟨fs,hfs⟩:∃z,z=B7 B:=⟨_,rfl⟩
 rw[<- hes] at hda l1 m1 g1
 rw[<- hfs] at hdb l2 m2 g2
 obtain⟨kk,hkk'⟩:∃z,z=A5 kb:=⟨_,rfl⟩
 rw[<- hkk'] at hkbd lk
 have hN:Bi.Pure Tryz.prog B0T [.d (eI (kk.length:Nat))] (.d (.sl (B6 (List.replicate kb.length E6)))):=by rw[lk];exact hN
 have km:∀z∈kk,z.length=1:=by rw[hkk'];exact I1 kb
 clear hes hfs hkk'
 obtain⟨xo,xn,xv,xm,xl,xa⟩:=e
 rw[Ex.av_mk] at hT ⊢
 obtain⟨xd,hxd⟩:∃d,d=ng xl (xL xa):=⟨_,rfl⟩
 rw[<- hxd] at hT ⊢
 obtain⟨E,hE⟩:∃z,z=Ex.mk xo xn xv xm xl xa:=⟨_,rfl⟩
 rw[<- hE] at hRR
 have hT:∀(x y:Rw),x∈A->y∈B->Bi.Pure Tryz.prog B0X [eX xo xn xv xm xd,.d (.sl (B6 (x.vs++y.vs)))] (.d (eI (Q9 (ev (x.vs++y.vs) E)))):=by rw[hE];exact hT
 clear hE hxd he
 obtain⟨nb,hnb⟩:∃n,n=kb.length:=⟨_,rfl⟩
 rw[<- hnb] at hRR hN hCn
 refine C7Q.go A6 rfl ?_
 repeat' first|refine st ?_|((with_reducible apply A4);conv=>whnf)|refine⟨λ_=>?_,λ_=>?_⟩|fail
 refine A1U 4 1 1 rfl rfl rfl ?_
 refine L6 A6 D0S C9B (λ(i:Nat) (w:List B5)=>[.d (eI i)]) (λi w=>[.cells [.d dka,.d da],.cells [.d dkb,.d db],.cells [.d (eI xo),.d (eI xn),.d (eI xv.k),.d (eI xv.n),.d (.str xv.s),.d (.str xm),.d xd],.cells [.d .nil,.d .nil],.cells [.d dj,.arr 5 (rD w).length],.arr (rD w) 1 0 (rD w).isEmpty]) (λi w=>i<=A.length/\R=w++N5 E left nb (A8 B) ((A8 A).drop i)) (λi w=>A.length-i) 0 [] rfl rfl rfl rfl (λ_ _ _=>⟨rfl,rfl⟩) rfl ⟨by omega,hRR⟩ ?_
 repeat' first|refine st ?_|((with_reducible apply A4);conv=>whnf)|refine⟨λ_=>?_,λ_=>?_⟩|fail
 intro i w ⟨i1,i2⟩
 cases hx:A[i]? with
 |some x=>
  have hlt:=(B4.1 hx).1
  have hil:(i:Int)<es.length:=by omega
  have e1:es[((i:Nat):Int).toNat]?=some [x.d]:=g1 i x hx
  have hxA:=C3 hx
  have hd1:(A8 A).drop i=x.vs::(A8 A).drop (i+1):=by
   have:(A8 A)[i]?=some x.vs:=by unfold A8;rw[J1,hx];rfl
   obtain⟨h1,h2⟩:=B4.1 this
   rw[S1 h1,h2]
  rw[hd1] at i2
  have i2:R=w++(R5 E (A8 B) x.vs++jnO left nb x.vs (R5 E (A8 B) x.vs)++N5 E left nb (A8 B) ((A8 A).drop (i+1))):=i2
  have hC:=λ(y:Rw) (hy:y∈B)=>hC x y hxA hy
  have hT:=λ(y:Rw) (hy:y∈B)=>hT x y hxA hy
  have hCn:=hCn x hxA
  obtain⟨J,hJ'⟩:∃z,z=R5 E (A8 B) x.vs:=⟨_,rfl⟩
  rw[<- hJ'] at i2
  have hO:jnO left nb x.vs J=if left&&J.isEmpty then [x.vs++List.replicate nb E6] else []:=rfl
  obtain⟨O,hO'⟩:∃z,z=jnO left nb x.vs J:=⟨_,rfl⟩
  rw[<- hO'] at i2 hO
  have hRl:w.length+(J.length+O.length+(N5 E left nb (A8 B) ((A8 A).drop (i+1))).length)=R.length:=by
   have:=congrArg List.length i2
   simp only[H8] at this
   omega
  obtain⟨xr,hxr⟩:∃z,z=x.vs:=⟨_,rfl⟩
  rw[<- hxr] at hC hT hCn hJ' hO
  obtain⟨Nz,hNz⟩:∃z,z=B6 (List.replicate nb E6):=⟨_,rfl⟩
  rw[<- hNz] at hN hCn
  obtain⟨Cz,hCz⟩:∃z,z=B6 (xr++List.replicate nb E6):=⟨_,rfl⟩
  rw[<- hCz] at hCn
  have hCz':rD [xr++List.replicate nb E6]=[[.sl Cz]]:=by rw[hCz];rfl
  obtain⟨Nr,hNr⟩:∃z,z=xr++List.replicate nb E6:=⟨_,rfl⟩
  rw[<- hNr] at hO hCz'
  obtain⟨xd',hxd'⟩:∃z,z=x.d:=⟨_,rfl⟩
  rw[<- hxd'] at hC hCn e1
  clear hNz hCz hNr hxd' hxr hd1 hO' hxA hx g1 hRR hS
  repeat' first|refine st ?_|((with_reducible apply A4);conv=>whnf)|refine⟨λ_=>?_,λ_=>?_⟩|fail
  refine A7P A6 D0R C9A (λ(k:Nat) (f:Bool) (W:List B5)=>[.d (.bool f),.d (eI k)]) (λk f W=>[.cells [.d dka,.d da],.cells [.d dkb,.d db],.cells [.d (eI xo),.d (eI xn),.d (eI xv.k),.d (eI xv.n),.d (.str xv.s),.d (.str xm),.d xd],.cells [.d .nil,.d .nil],.cells [.d dj,.arr 5 (rD W).length],.arr (rD W) 1 0 (rD W).isEmpty]) (λk f W=>k<=B.length/\∃ms,W=w++ms/\f=!ms.isEmpty/\J=ms++R5 E ((A8 B).drop k) xr) (λk f W=>B.length-k) 0 false w rfl rfl rfl rfl (λ_ _ _ _=>⟨rfl,rfl⟩) rfl ⟨by omega,[],by simp,rfl,hJ'⟩ ?_
  repeat' first|refine st ?_|((with_reducible apply A4);conv=>whnf)|refine⟨λ_=>?_,λ_=>?_⟩|fail
  intro k f W ⟨k1,ms,k2,k3,k4⟩
  have hW1:=p9 W
  have hWm:=r5 W
  have hWl:W.length=w.length+ms.length:=by rw[k2];simp
  have happ:=λ(r:B5)=>show rD (W++[r])=rD W++[[.sl (B6 r)]] by rw[A2i];rfl
  have happ2:=show rD (W++[Nr])=rD W++[[.sl Cz]] by rw[A2i,hCz']
  obtain⟨Q,hQ⟩:∃z,z=rD W:=⟨_,rfl⟩
  rw[<- hQ] at hW1 hWm happ happ2 ⊢
  cases hy:B[k]? with
  |some y=>
   have hlt2:=(B4.1 hy).1
   have hil2:(k:Int)<fs.length:=by omega
   have e2:fs[((k:Nat):Int).toNat]?=some [y.d]:=g2 k y hy
   have hyB:=C3 hy
   have hC:=hC y hyB
   have hT:=hT y hyB
   have hk:(A8 B)[k]?=some y.vs:=by unfold A8;rw[J1,hy];rfl
   have hdr:=D6P (e:=E) (a:=xr) hk
   rw[hdr] at k4
   have happ:=happ (xr++y.vs)
   have htr:L9 E (xr++y.vs)=decide (Q9 (ev (xr++y.vs) E)=2):=rfl
   rw[htr] at k4
   obtain⟨t,ht⟩:∃t,t=Q9 (ev (xr++y.vs) E):=⟨_,rfl⟩
   rw[<- ht] at hT k4
   obtain⟨yr,hyr⟩:∃z,z=xr++y.vs:=⟨_,rfl⟩
   rw[<- hyr] at hT hC k4 happ
   obtain⟨Y,hY⟩:∃z,z=B6 yr:=⟨_,rfl⟩
   rw[<- hY] at hT hC happ
   obtain⟨yd',hyd'⟩:∃z,z=y.d:=⟨_,rfl⟩
   rw[<- hyd'] at hC e2
   have hne:(Q++[[D.sl Y]]).isEmpty=false:=by simp
   clear hyr hY hyd' ht htr hdr hk hy g2 hyB
   by_cases h2:t=2
   ·rw[decide_eq_true h2,if_pos rfl] at k4
    subst h2
    have hbd:(Q.length+1)*24<=140737488355328:=by
     have:J.length=ms.length+(1+(R5 E (List.drop (k+1) (A8 B)) xr).length):=by rw[k4];simp;omega
     omega
    repeat' first|refine st ?_|((with_reducible apply A4);conv=>whnf)|refine⟨λ_=>?_,λ_=>?_⟩|fail
    exact⟨k+1,true,W++[yr],rfl,rfl,by rw[happ,hne];first|done|rfl|simp,by omega,by omega,ms++[yr],by rw[k2,S6],by simp,by rw[k4,S6]⟩
   ·rw[decide_eq_false h2,if_neg (by decide),A0M] at k4
    repeat' first|refine st ?_|((with_reducible apply A4);conv=>whnf)|refine⟨λ_=>?_,λ_=>?_⟩|fail
    exact⟨k+1,f,W,rfl,rfl,by rw[hQ];first|done|rfl,by omega,by omega,ms,k2,k3,k4⟩
  |none=>
   have hge:=E9.1 hy
   have hil2:(fs.length:Int)<=k:=by omega
   rw[R1 (by unfold A8;rw[D8];exact hge)] at k4
   have k4:J=ms:=by rw[k4];exact U9 ms
   subst k4
   have hne:(Q++[[D.sl Cz]]).isEmpty=false:=by simp
   clear hy g2
   cases left<;>cases f
   ·have hO:O=[]:=hO
    subst hO
    rw[U9,<- S6,<- k2] at i2
    repeat' first|refine st ?_|((with_reducible apply A4);conv=>whnf)|refine⟨λ_=>?_,λ_=>?_⟩|fail
    exact⟨i+1,W,rfl,rfl,by rw[hQ];first|done|rfl,by omega,by omega,i2⟩
   ·have hO:O=[]:=hO
    subst hO
    rw[U9,<- S6,<- k2] at i2
    repeat' first|refine st ?_|((with_reducible apply A4);conv=>whnf)|refine⟨λ_=>?_,λ_=>?_⟩|fail
    exact⟨i+1,W,rfl,rfl,by rw[hQ];first|done|rfl,by omega,by omega,i2⟩
   ·have hO:O=[Nr]:=by rw[hO,Q4,if_pos (show J.isEmpty=true by cases hj:J.isEmpty with|true=>rfl|false=>rw[hj] at k3;cases k3)]
    subst hO
    rw[<- S6,<- S6,<- k2] at i2
    have hbd:(Q.length+1)*24<=140737488355328:=by simp only[H9] at hRl;omega
    repeat' first|refine st ?_|((with_reducible apply A4);conv=>whnf)|refine⟨λ_=>?_,λ_=>?_⟩|fail
    exact⟨i+1,W++[Nr],rfl,rfl,by rw[happ2,hne];first|done|rfl|simp,by omega,by omega,i2⟩
   ·have hO:O=[]:=by rw[hO,Q4,if_neg (show ¬J.isEmpty=true from λhj=>by rw[hj] at k3;cases k3)]
    subst hO
    rw[U9,<- S6,<- k2] at i2
    repeat' first|refine st ?_|((with_reducible apply A4);conv=>whnf)|refine⟨λ_=>?_,λ_=>?_⟩|fail
    exact⟨i+1,W,rfl,rfl,by rw[hQ];first|done|rfl,by omega,by omega,i2⟩
 |none=>
  have hge:=E9.1 hx
  have hil:(es.length:Int)<=i:=by omega
  rw[R1 (by unfold A8;rw[D8];exact hge)] at i2
  have i2:R=w:=by rw[i2];exact U9 w
  subst i2
  obtain⟨Q,hQ⟩:∃z,z=rD R:=⟨_,rfl⟩
  rw[<- hQ] at hS ⊢
  obtain⟨b,hb⟩:∃b,b=Q.isEmpty:=⟨_,rfl⟩
  rw[<- hb] at hS ⊢
  clear hx g1 g2 hT hC hCn hN hQ
  cases b
  all_goals skip
  all_goals repeat' first|refine st ?_|((with_reducible apply A4);conv=>whnf)|refine⟨λ_=>?_,λ_=>?_⟩|fail
  all_goals rfl
end Go.Proofs
end
section
namespace Go.Proofs
open Go.Bi
def nnF(rows:List B5)(ar:Int):List Vl:=(rows.map λr=>T4 r ar).filter λv=>!decide (v.k=0)
def D9C(s:Int×Int)(v:Vl):Int×Int:=(M5 (s.1+M5 (v.n.tdiv 1048576)),M5 (s.2+v.n.tmod 1048576))
def A3T:Int×Int->List Vl->Int×Int
 |s,[]=>s
 |s,v::r=>A3T (D9C s v) r
def A9P(s:Int×Int):Vl:=
 let h:=M5 (s.1+M5 (s.2.tdiv 1048576))
 let o:=s.2.tmod 1048576
 if h > 1099511627776\/h < -1099511627776 then E6 else Z2 (M5 (h*1048576+o))
def mmS(op:Int)(o v:Vl):Vl:=if (op=3/\b6 v o<0)\/(op=4/\b6 v o > 0) then v else o
def mmL(op:Int):Vl->List Vl->Vl
 |o,[]=>o
 |o,v::r=>mmL op (mmS op o v) r
def B1r(op:Int):List Vl->Vl
 |[]=>E6
 |v::r=>if op=2 then A9P (A3T (0,0) (v::r)) else mmL op v r
def A1Y(rows:List B5)(op ar:Int):Vl:=
 if ar<0 then Z2 rows.length else if op=1 then Z2 (nnF rows ar).length else B1r op (nnF rows ar)
theorem D7H{l:List Rw}{i:Nat}{r:Rw}{ar:Int}(h:l[i]?=some r):nnF (A8 (l.take (i+1))) ar=nnF (A8 (l.take i)) ar++if (T4 r.vs ar).k=0 then [] else [T4 r.vs ar]:=by
 unfold nnF A8
 rw[L8,h,A44,A44,v7]
 congr 1
 show List.filter _ [T4 r.vs ar]=_
 by_cases h0:(T4 r.vs ar).k=0
 ·rw[if_pos h0];simp[h0]
 ·rw[if_neg h0];simp[h0]
theorem C5H(l:List Rw)(hl:l.length<=4294967296)(op ar:Int)(har:∀r∈l,ar<r.vs.length/\r.vs.length<=4294967296)(dr:D)(hd:A9 dr (B7 l)) :
  Pure Tryz.prog B8L [.d dr,.agg [.d (eI op),.d (eI ar)]] (eV (A1Y (A8 l) op ar)):=by
 have hvl:(A8 l).length=l.length:=by unfold A8;rw[D8]
 have l1:=U8 l
 have m1:=X2 l
 have g1:=λi r=>@A0W l i r
 by_cases ha:ar<0
 ·have hI:=A0o (B7 l).length
  have hq:A1Y (A8 l) op ar=Z2 ((B7 l).length:Nat):=by unfold A1Y;rw[if_pos ha,hvl,l1]
  rw[hq]
  obtain⟨es,hes⟩:∃z,z=B7 l:=⟨_,rfl⟩
  rw[<- hes] at hd l1 m1 g1 hI ⊢
  clear hes hq
  obtain⟨q,hq⟩:∃z,z=Z2 (es.length:Nat):=⟨_,rfl⟩
  rw[<- hq] at hI ⊢
  refine B4q.go A6 rfl ?_
  repeat' first|refine st ?_|((with_reducible apply A4);conv=>whnf)|refine⟨λ_=>?_,λ_=>?_⟩|fail
  all_goals rfl
 have hq:A1Y (A8 l) op ar=if op=1 then Z2 (nnF (A8 l) ar).length else B1r op (nnF (A8 l) ar):=by unfold A1Y;rw[if_neg ha]
 rw[hq]
 clear hq
 obtain⟨q,hq⟩:∃z,z=if op=1 then Z2 (nnF (A8 l) ar).length else B1r op (nnF (A8 l) ar):=⟨_,rfl⟩
 rw[<- hq]
 obtain⟨es,hes⟩:∃z,z=B7 l:=⟨_,rfl⟩
 rw[<- hes] at hd l1 m1 g1
 clear hes
 have ha':0<=ar:=by omega
 refine B4q.go A6 rfl ?_
 repeat' first|refine st ?_|((with_reducible apply A4);conv=>whnf)|refine⟨λ_=>?_,λ_=>?_⟩|fail
 refine U7 5 3 rfl rfl ?_
 refine L6 A6 D0G C9p (λ(i:Nat) (w:List Vl)=>[.arr 2 (B6 w).length,.d (eI i)]) (λi w=>[.cells [.d (eI op),.d (eI ar)],.cells [.d (eI 0),.d (eI 0),.d (.str [])],.arr (B6 w) 3 0 (B6 w).isEmpty]) (λi w=>i<=l.length/\w=nnF (A8 (l.take i)) ar) (λi w=>l.length-i) 0 [] rfl rfl rfl rfl (λ_ _ _=>⟨rfl,rfl⟩) rfl ⟨by omega,rfl⟩ ?_
 repeat' first|refine st ?_|((with_reducible apply A4);conv=>whnf)|refine⟨λ_=>?_,λ_=>?_⟩|fail
 intro i w ⟨i1,i2⟩
 have hwl:w.length<=i:=by
  rw[i2]
  refine K4 (A0K ..) ?_
  rw[D8];unfold A8;rw[D8,M4];omega
 have hw1:=X3 w
 have hwm:=T7 w
 have hbd:((B6 w).length+1)*32<=140737488355328:=by omega
 cases hx:l[i]? with
 |some r=>
  have hlt:=(B4.1 hx).1
  have hil:(i:Int)<es.length:=by omega
  have e1:es[((i:Nat):Int).toNat]?=some [r.d]:=g1 i r hx
  have⟨h3,h4⟩:=har r (C3 hx)
  have hsl:A9 r.d (B6 r.vs):=C7
  have hvl1:=X3 r.vs
  have hvm:=T7 r.vs
  have hg:=B3k (l:=r.vs) ha (by omega)
  have hg:=A1A hg
  have hft:=D7H (ar:=ar) hx
  rw[<- i2] at hft
  obtain⟨v,hv⟩:∃v,v=T4 r.vs ar:=⟨_,rfl⟩
  rw[<- hv] at hg hft
  have happ:B6 (w++[v])=B6 w++[v.ds]:=by simp[B6]
  obtain⟨rd,hrd⟩:∃z,z=r.d:=⟨_,rfl⟩
  rw[<- hrd] at e1 hsl
  obtain⟨fs,hfs⟩:∃z,z=B6 r.vs:=⟨_,rfl⟩
  rw[<- hfs] at hsl hvl1 hvm hg
  have harf:ar<fs.length:=by omega
  obtain⟨A,hA⟩:∃z,z=B6 w:=⟨_,rfl⟩
  rw[<- hA] at hw1 hwm hbd happ ⊢
  clear hq hv hrd hfs i2 hx g1 har
  by_cases h0:v.k=0
  ·rw[if_pos h0,U9] at hft
   have hg:fs[ar.toNat]?=some [eI 0,eI v.n,.str v.s]:=by rw[hg];unfold Vl.ds;rw[h0]
   repeat' first|refine st ?_|((with_reducible apply A4);conv=>whnf)|refine⟨λ_=>?_,λ_=>?_⟩|fail
   exact⟨i+1,w,by rw[hA];rfl,rfl,by rw[hA];first|done|rfl,by omega,by omega,hft.symm⟩
  ·rw[if_neg h0] at hft
   have hg:fs[ar.toNat]?=some [eI v.k,eI v.n,.str v.s]:=hg
   repeat' first|refine st ?_|((with_reducible apply A4);conv=>whnf)|refine⟨λ_=>?_,λ_=>?_⟩|fail
   exact⟨i+1,w++[v],by rw[happ];simp,rfl,by rw[happ];first|done|rfl|simp,by omega,by omega,hft.symm⟩
 |none=>
  have hge:=E9.1 hx
  have hil:(es.length:Int)<=i:=by omega
  rw[H4 hge] at i2
  rw[<- i2] at hq
  have gw:=λk v=>@A1A w k v
  by_cases h1:op=1
  ·rw[if_pos h1] at hq
   subst h1
   have hI:=A0o w.length
   rw[<- hq,<- hw1] at hI
   obtain⟨A,hA⟩:∃z,z=B6 w:=⟨_,rfl⟩
   rw[<- hA] at hw1 hwm hbd hI ⊢
   clear hq hA i2 hx g1 har gw
   repeat' first|refine st ?_|((with_reducible apply A4);conv=>whnf)|refine⟨λ_=>?_,λ_=>?_⟩|fail
   all_goals rfl
  rw[if_neg h1] at hq
  cases w with
  |nil=>
   have hq:q=E6:=hq
   subst hq
   have hN:=S0
   clear i2 hx g1 har gw
   repeat' first|refine st ?_|((with_reducible apply A4);conv=>whnf)|refine⟨λ_=>?_,λ_=>?_⟩|fail
   all_goals rfl
  |cons v t=>
   have hq2:q=if op=2 then A9P (A3T (0,0) (v::t)) else mmL op v t:=hq
   clear hq
   have hwp:0<(v::t).length:=Nat.succ_pos _
   have g0:(B6 (v::t))[0]?=some [eI v.k,eI v.n,.str v.s]:=rfl
   have hAe:(B6 (v::t)).isEmpty=false:=rfl
   by_cases h2:op=2
   ·rw[if_pos h2] at hq2
    subst h2
    obtain⟨w,hw⟩:∃z,z=v::t:=⟨_,rfl⟩
    rw[<- hw] at hq2 hw1 hwm hbd gw hwl hwp hAe ⊢
    obtain⟨A,hA⟩:∃z,z=B6 w:=⟨_,rfl⟩
    rw[<- hA] at hw1 hwm hbd gw hAe ⊢
    clear hA i2 hx g1 har hw g0
    repeat' first|refine st ?_|((with_reducible apply A4);conv=>whnf)|refine⟨λ_=>?_,λ_=>?_⟩|fail
    refine A7P A6 D0H C9q (λ(k:Nat) (a b:Int)=>[.d (eI a),.d (eI b),.d (eI k)]) (λk a b=>[.cells [.d (eI 2),.d (eI ar)],.cells [.d (eI 0),.d (eI 0),.d (.str [])],.arr A 3 0 A.isEmpty]) (λk a b=>k<=w.length/\A3T (0,0) w=A3T (a,b) (w.drop k)) (λk a b=>w.length-k) 0 0 0 rfl rfl rfl rfl (λ_ _ _ _=>⟨rfl,rfl⟩) rfl ⟨by omega,rfl⟩ ?_
    repeat' first|refine st ?_|((with_reducible apply A4);conv=>whnf)|refine⟨λ_=>?_,λ_=>?_⟩|fail
    intro k a b ⟨k1,k2⟩
    cases hy:w[k]? with
    |some y=>
     have hlt2:=(B4.1 hy).1
     have hil2:(k:Int)<A.length:=by omega
     have e2:A[((k:Nat):Int).toNat]?=some [eI y.k,eI y.n,.str y.s]:=gw k y hy
     obtain⟨j1,j2⟩:=B4.1 hy
     rw[S1 j1,j2] at k2
     have k2:A3T (0,0) w=A3T (M5 (a+M5 (y.n.tdiv 1048576)),M5 (b+y.n.tmod 1048576)) (w.drop (k+1)):=k2
     clear hy j2 gw hq2
     repeat' first|refine st ?_|((with_reducible apply A4);conv=>whnf)|(apply w5.mk)|refine⟨λ_=>?_,λ_=>?_⟩|fail
     exact⟨k+1,_,_,rfl,rfl,rfl,by omega,by omega,k2⟩
    |none=>
     have hge2:=E9.1 hy
     have hil2:(A.length:Int)<=k:=by omega
     rw[R1 hge2] at k2
     have hq2:q=if M5 (a+M5 (b.tdiv 1048576)) > 1099511627776\/M5 (a+M5 (b.tdiv 1048576)) < -1099511627776 then E6 else Z2 (M5 (M5 (a+M5 (b.tdiv 1048576))*1048576+b.tmod 1048576)):=by rw[hq2,k2];rfl
     clear hy gw k2
     have hN:=S0
     have hI:=A0o (M5 (M5 (a+M5 (b.tdiv 1048576))*1048576+b.tmod 1048576))
     by_cases c1:M5 (a+M5 (b.tdiv 1048576)) > 1099511627776
     ·rw[if_pos (.inl c1)] at hq2
      subst hq2
      unfold M5 at c1
      repeat' first|refine st ?_|((with_reducible apply A4);conv=>whnf)|(apply w5.mk)|refine⟨λ_=>?_,λ_=>?_⟩|fail
      all_goals rfl
     by_cases c2:M5 (a+M5 (b.tdiv 1048576)) < -1099511627776
     ·rw[if_pos (.inr c2)] at hq2
      subst hq2
      unfold M5 at c1 c2
      repeat' first|refine st ?_|((with_reducible apply A4);conv=>whnf)|(apply w5.mk)|refine⟨λ_=>?_,λ_=>?_⟩|fail
      all_goals rfl
     ·rw[if_neg (λh=>h.elim c1 c2)] at hq2
      rw[<- hq2] at hI
      unfold M5 at c1 c2 hI
      repeat' first|refine st ?_|((with_reducible apply A4);conv=>whnf)|(apply w5.mk)|refine⟨λ_=>?_,λ_=>?_⟩|fail
      all_goals rfl
   ·rw[if_neg h2] at hq2
    obtain⟨w,hw⟩:∃z,z=v::t:=⟨_,rfl⟩
    have hqd:q=mmL op v (w.drop 1):=by rw[hw];exact hq2
    rw[<- hw] at hw1 hwm hbd gw hwl hwp hAe g0 ⊢
    obtain⟨A,hA⟩:∃z,z=B6 w:=⟨_,rfl⟩
    rw[<- hA] at hw1 hwm hbd gw hAe g0 ⊢
    have hAp:(0:Int)<A.length:=by omega
    have g0:A[((0:Nat):Int).toNat]?=some [eI v.k,eI v.n,.str v.s]:=g0
    clear hA i2 hx g1 har hw hq2
    repeat' first|refine st ?_|((with_reducible apply A4);conv=>whnf)|refine⟨λ_=>?_,λ_=>?_⟩|fail
    refine L6 A6 D0I C9r (λ(k:Nat) (o:Vl)=>[.d (eI k)]) (λk o=>[.cells [.d (eI op),.d (eI ar)],.cells [.d (eI 0),.d (eI 0),.d (.str [])],.arr A 3 0 A.isEmpty,.cells [.d (eI o.k),.d (eI o.n),.d (.str o.s)]]) (λk o=>k<=w.length/\q=mmL op o (w.drop k)) (λk o=>w.length-k) 1 v rfl rfl rfl rfl (λ_ _ _=>⟨rfl,rfl⟩) rfl ⟨by omega,hqd⟩ ?_
    repeat' first|refine st ?_|((with_reducible apply A4);conv=>whnf)|refine⟨λ_=>?_,λ_=>?_⟩|fail
    intro k o ⟨k1,k2⟩
    cases hy:w[k]? with
    |some y=>
     have hlt2:=(B4.1 hy).1
     have hil2:(k:Int)<A.length:=by omega
     have e2:A[((k:Nat):Int).toNat]?=some [eI y.k,eI y.n,.str y.s]:=gw k y hy
     obtain⟨j1,j2⟩:=B4.1 hy
     rw[S1 j1,j2] at k2
     have k2:q=mmL op (mmS op o y) (w.drop (k+1)):=k2
     have hC:=A7Y y o
     unfold mmS at k2
     obtain⟨c,hc⟩:∃z,z=b6 y o:=⟨_,rfl⟩
     rw[<- hc] at hC k2
     clear hy j2 gw hc hqd g0
     by_cases h3:(op=3/\c<0)\/(op=4/\c > 0)
     ·rw[if_pos h3] at k2
      rcases h3 with ⟨rfl,h3⟩|⟨rfl,h3⟩
      all_goals skip
      all_goals repeat' first|refine st ?_|((with_reducible apply A4);conv=>whnf)|refine⟨λ_=>?_,λ_=>?_⟩|fail
      all_goals exact⟨k+1,y,rfl,rfl,rfl,by omega,by omega,k2⟩
     ·rw[if_neg h3] at k2
      by_cases o3:op=3
      ·have h4:¬c<0:=λh=>h3 (.inl ⟨o3,h⟩)
       subst o3
       clear h3
       repeat' first|refine st ?_|((with_reducible apply A4);conv=>whnf)|refine⟨λ_=>?_,λ_=>?_⟩|fail
       all_goals exact⟨k+1,o,rfl,rfl,rfl,by omega,by omega,k2⟩
      ·by_cases o4:op=4
       ·have h4:¬c > 0:=λh=>h3 (.inr ⟨o4,h⟩)
        subst o4
        clear h3
        repeat' first|refine st ?_|((with_reducible apply A4);conv=>whnf)|refine⟨λ_=>?_,λ_=>?_⟩|fail
        all_goals exact⟨k+1,o,rfl,rfl,rfl,by omega,by omega,k2⟩
       ·clear h3
        repeat' first|refine st ?_|((with_reducible apply A4);conv=>whnf)|refine⟨λ_=>?_,λ_=>?_⟩|fail
        all_goals exact⟨k+1,o,rfl,rfl,rfl,by omega,by omega,k2⟩
    |none=>
     have hge2:=E9.1 hy
     have hil2:(A.length:Int)<=k:=by omega
     rw[R1 hge2] at k2
     have k2:q=o:=k2
     subst k2
     clear hy gw hqd g0
     repeat' first|refine st ?_|((with_reducible apply A4);conv=>whnf)|refine⟨λ_=>?_,λ_=>?_⟩|fail
     all_goals rfl
end Go.Proofs
end
section
namespace Go.Proofs
open Go.Bi
def R2(key:B5)(rows:List B5)(ag:List Ag):B5:=key++ag.map λa=>A1Y rows a.op a.arg
theorem B0m(key:B5)(hk:key.length<=4294967296)(dk:D)(hdk:A9 dk (B6 key))(l:List Rw)(hl:l.length<=4294967296)(dr:D)(hdr:A9 dr (B7 l))(ag:List Ag)(ha:ag.length<=4294967296)(har:∀a∈ag,∀r∈l,a.arg<r.vs.length/\r.vs.length<=4294967296)(da:D)(hda:A9 da (I0 ag)) :
  Pure Tryz.prog B15 [.d dk,.d dr,.d da] (.d (.sl (B6 (R2 key (A8 l) ag)))):=by
 have hA:=λ(a:Ag) (h:a∈ag)=>C5H l hl a.op a.arg (har a h) dr hdr
 have l1:=A5c ag
 have m1:=A6H ag
 have g1:=λi e=>@B1P ag i e
 obtain⟨es,hes⟩:∃z,z=I0 ag:=⟨_,rfl⟩
 rw[<- hes] at hda l1 m1 g1
 have l2:=X3 key
 have m2:=T7 key
 have hst:B6 (R2 key (A8 l) (ag.take 0))=B6 key:=by unfold R2;rw[List.take_zero,V7,U9]
 have hlen:∀i,i<=ag.length->(B6 (R2 key (A8 l) (ag.take i))).length=key.length+i:=λi h=>by
  rw[X3];unfold R2;rw[H8,D8,M4];omega
 obtain⟨fs,hfs⟩:∃z,z=B6 key:=⟨_,rfl⟩
 rw[<- hfs] at hdk l2 m2 hst
 obtain⟨q,hq⟩:∃z,z=B6 (R2 key (A8 l) ag):=⟨_,rfl⟩
 rw[<- hq]
 clear hes hfs har
 have hb:(([]:List (List D)).length+fs.length)*32<=140737488355328/\([]:List (List D)).length+fs.length<=9223372036854775807:=by simp;omega
 refine C80.go A6 rfl ?_
 repeat' first|refine st ?_|((with_reducible apply A4);conv=>whnf)|refine⟨λ_=>?_,λ_=>?_⟩|fail
 refine L6 A6 D11 C9K (λ(i:Nat) (w:List (List D))=>[.arr 0 w.length,.d (eI i)]) (λi w=>[.arr w 3 0 false]) (λi w=>i<=ag.length/\w=B6 (R2 key (A8 l) (ag.take i))) (λi w=>ag.length-i) 0 fs (by first|rfl|simp) (by first|rfl|simp) (by first|rfl|simp) (by first|rfl|simp) (λ_ _ _=>⟨rfl,rfl⟩) rfl ⟨by omega,hst.symm⟩ ?_
 repeat' first|refine st ?_|((with_reducible apply A4);conv=>whnf)|refine⟨λ_=>?_,λ_=>?_⟩|fail
 intro i w ⟨i1,i2⟩
 have hwl:w.length=key.length+i:=by rw[i2];exact hlen i i1
 have hwm:∀e∈w,e.length=3:=by rw[i2];exact T7 _
 have hbd:(w.length+1)*32<=140737488355328:=by omega
 cases hi:ag[i]? with
 |some a=>
  have hlt:=(B4.1 hi).1
  have hil:(i:Int)<es.length:=by omega
  have hg:es[((i:Nat):Int).toNat]?=some [eI a.op,eI a.arg]:=g1 i a hi
  have hA:=hA a (C3 hi)
  have i3:w++[(A1Y (A8 l) a.op a.arg).ds]=B6 (R2 key (A8 l) (ag.take (i+1))):=by
   rw[i2,L8,hi];simp[R2,B6]
  obtain⟨v,hv⟩:∃v,v=A1Y (A8 l) a.op a.arg:=⟨_,rfl⟩
  rw[<- hv] at hA i3
  clear hv i2 hi g1 hlen hst hq
  repeat' first|refine st ?_|((with_reducible apply A4);conv=>whnf)|refine⟨λ_=>?_,λ_=>?_⟩|fail
  exact⟨i+1,w++[v.ds],by simp,rfl,by first|rfl|simp,by omega,by omega,i3⟩
 |none=>
  have hge:=E9.1 hi
  have hil:(es.length:Int)<=i:=by omega
  rw[H4 hge,<- hq] at i2
  subst i2
  clear hi g1 hq
  repeat' first|refine st ?_|((with_reducible apply A4);conv=>whnf)|refine⟨λ_=>?_,λ_=>?_⟩|fail
  all_goals rfl
structure Kd where
 key:B5
 rw:Rw
def G9(l:List Kd):List (List D):=l.map λx=>[.sl (B6 x.key),x.rw.d]
theorem A4f(l:List Kd):(G9 l).length=l.length:=by simp[G9]
theorem A5e(l:List Kd):∀e∈G9 l,e.length=2:=by
 intro e he
 obtain⟨x,_,rfl⟩:=D7.1 he
 rfl
theorem D5P{l:List Kd}{i:Nat}{x:Kd}(h:l[i]?=some x):(G9 l)[i]?=some [.sl (B6 x.key),x.rw.d]:=by simp[G9,h]
theorem A6K(l m:List Kd):G9 (l++m)=G9 l++G9 m:=by simp[G9]
theorem D5Q(l:List Kd)(i:Nat):(G9 l).take i=G9 (l.take i):=by simp[G9]
theorem D5O(l:List Kd)(i:Nat):(G9 l).drop i=G9 (l.drop i):=by simp[G9]
def n9:List Kd->List Kd->List Kd
 |[],b=>b
 |a,[]=>a
 |x::a,y::b=>if K5 y.key x.key<0 then y::n9 (x::a) b else x::n9 a (y::b)
termination_by a b=>a.length+b.length
theorem C2z(a:List Kd):n9 a []=a:=by cases a<;>simp[n9]
theorem A77:∀(n:Nat)(a b:List Kd),a.length+b.length<=n->(n9 a b).length=a.length+b.length
 |_,[],b,_=>by simp[n9]
 |_,x::a,[],_=>by simp[n9]
 |0,x::a,y::b,h=>by simp at h
 |n+1,x::a,y::b,h=>by
  rw[n9]
  simp only[H9] at h
  split
  ·rw[H9,A77 n _ _ (by simp only[H9];omega)];simp only[H9];omega
  ·rw[H9,A77 n _ _ (by simp only[H9];omega)];simp only[H9];omega
theorem B2s:∀(n:Nat)(a b:List Kd),a.length+b.length<=n->∀x,x∈n9 a b->x∈a\/x∈b
 |_,[],b,_,x,h=>by rw[n9] at h;exact .inr h
 |_,y::a,[],_,x,h=>by rw[C2z] at h;exact .inl h
 |0,y::a,z::b,h,_,_=>by simp at h
 |n+1,y::a,z::b,h,x,hx=>by
  simp only[H9] at h
  rw[n9] at hx
  split at hx
  ·rcases H2.1 hx with rfl|hx
   ·exact .inr (by simp)
   ·rcases B2s n _ _ (by simp only[H9];omega) x hx with h1|h1
    ·exact .inl h1
    ·exact .inr (I2 _ h1)
  ·rcases H2.1 hx with rfl|hx
   ·exact .inl (by simp)
   ·rcases B2s n _ _ (by simp only[H9];omega) x hx with h1|h1
    ·exact .inl (I2 _ h1)
    ·exact .inr h1
def N6(l:List Kd):List Kd:=if h:l.length<=1 then l else n9 (N6 (l.take (l.length / 2))) (N6 (l.drop (l.length / 2)))
termination_by l.length
decreasing_by
 ·rw[M4];omega
 ·rw[Y2];omega
theorem A3K:∀(n:Nat)(l:List Kd),l.length<=n->(N6 l).length=l.length
 |0,l,h=>by rw[N6,dif_pos (by omega)]
 |n+1,l,h=>by
  rw[N6]
  split
  ·rfl
  ·rw[A77 _ _ _ (D3 _),A3K n _ (by rw[M4];omega),A3K n _ (by rw[Y2];omega),M4,Y2];omega
theorem A3L:∀(n:Nat)(l:List Kd),l.length<=n->∀x,x∈N6 l->x∈l
 |0,l,h,x,hx=>by rw[N6,dif_pos (by omega)] at hx;exact hx
 |n+1,l,h,x,hx=>by
  rw[N6] at hx
  split at hx
  ·exact hx
  ·rcases B2s _ _ _ (D3 _) x hx with h1|h1
   ·exact A39 (A3L n _ (by rw[M4];omega) x h1)
   ·exact A2A (A3L n _ (by rw[Y2];omega) x h1)
theorem C5Z:Pure Tryz.prog A8j [.d .nil] (.d .nil):=by
 refine A82.go A6 rfl ?_
 repeat' first|refine st ?_|((with_reducible apply A4);conv=>whnf)|refine⟨λ_=>?_,λ_=>?_⟩|fail
 all_goals rfl
theorem C0M{A B C:List (List D)}(h:0<C.length+A.length+B.length):AV.d (u7 (bif B.isEmpty then bif A.isEmpty then C.isEmpty else false else false) D.nil (D.sl (C++A++B)))=AV.d (D.sl (C++A++B)):=by
 cases A<;>cases B<;>cases C<;>first|rfl|(simp at h)
theorem C5Y:∀(n:Nat)(l:List Kd),l.length<=n->n<=4294967296->(∀r∈l,r.key.length<=4294967296)->Pure Tryz.prog A8j [.d (.sl (G9 l))] (.d (.sl (G9 (N6 l)))):=by
 intro n
 induction n with
 |zero=>
  intro l hn _ _
  have hl:l=[]:=A0J.1 (by omega)
  subst hl
  have h1:(G9 []).length=0:=rfl
  rw[show N6 []=[] by rw[N6,dif_pos (by decide)]]
  refine A82.go A6 rfl ?_
  repeat' first|refine st ?_|((with_reducible apply A4);conv=>whnf)|refine⟨λ_=>?_,λ_=>?_⟩|fail
  all_goals rfl
 |succ n ih=>
  intro l hn hN hr
  have h1:=A4f l
  have hm:=A5e l
  by_cases h2:l.length<=1
  ·rw[show N6 l=l by rw[N6,dif_pos h2]]
   obtain⟨es,hes⟩:∃z,z=G9 l:=⟨_,rfl⟩
   rw[<- hes] at h1 hm ⊢
   refine A82.go A6 rfl ?_
   repeat' first|refine st ?_|((with_reducible apply A4);conv=>whnf)|refine⟨λ_=>?_,λ_=>?_⟩|fail
   all_goals rfl
  have hm2:((l.length:Nat):Int).tdiv 2=((l.length / 2:Nat):Int):=by rw[A87 (by omega)];omega
  obtain⟨m,hmm⟩:∃m,m=l.length / 2:=⟨_,rfl⟩
  rw[<- hmm] at hm2
  have hml:m<=l.length:=by omega
  have hA:=ih (l.take m) (by rw[M4];omega) (by omega) (λr h=>hr r (A39 h))
  have hB:=ih (l.drop m) (by rw[Y2];omega) (by omega) (λr h=>hr r (A2A h))
  rw[show G9 (l.take m)=((G9 l).drop (0:Int).toNat).take ((m:Int).toNat-(0:Int).toNat) by rw[show((m:Int).toNat-(0:Int).toNat)=m by simp,<- D5Q];rfl] at hA
  rw[show G9 (l.drop m)=((G9 l).drop (m:Int).toNat).take ((l.length:Int).toNat-(m:Int).toNat) by
   rw[show((l.length:Int).toNat-(m:Int).toNat)=l.length-m by simp,show(m:Int).toNat=m from Int.toNat_natCast m,H4 (by rw[Y2,A4f];omega),D5O]] at hB
  have n1:=A3K _ (l.take m) (D3 _)
  have n2:=A3K _ (l.drop m) (D3 _)
  rw[M4] at n1
  rw[Y2] at n2
  have r1:∀r∈N6 (l.take m),r.key.length<=4294967296:=λr h=>hr r (A39 (A3L _ _ (D3 _) r h))
  have r2:∀r∈N6 (l.drop m),r.key.length<=4294967296:=λr h=>hr r (A2A (A3L _ _ (D3 _) r h))
  rw[show N6 l=n9 (N6 (l.take m)) (N6 (l.drop m)) by rw[N6,dif_neg h2,<- hmm]]
  obtain⟨X,hX⟩:∃z,z=N6 (l.take m):=⟨_,rfl⟩
  obtain⟨Y,hY⟩:∃z,z=N6 (l.drop m):=⟨_,rfl⟩
  rw[<- hX] at hA n1 r1 ⊢
  rw[<- hY] at hB n2 r2 ⊢
  clear hX hY hr ih
  obtain⟨Q,hQ⟩:∃z,z=n9 X Y:=⟨_,rfl⟩
  rw[<- hQ]
  obtain⟨es,hes⟩:∃z,z=G9 l:=⟨_,rfl⟩
  rw[<- hes] at hA hB h1 hm ⊢
  rw[<- h1] at hm2 hB
  have hml:(m:Int)<=es.length:=by omega
  have h00:¬(es.length:Int)<2:=by omega
  clear hes
  refine A82.go A6 rfl ?_
  repeat' first|(rw[hm2])|refine st ?_|((with_reducible apply A4);conv=>whnf)|refine⟨λ_=>?_,λ_=>?_⟩|fail
  refine U7 5 2 rfl rfl ?_
  refine A7P A6 D12 C9L (λ(x y w:List Kd)=>[.d (.sl (G9 x)),.d (.sl (G9 y)),.arr 2 (G9 w).length]) (λx y w=>[.hole,.hole,.arr (G9 w) 2 0 (G9 w).isEmpty]) (λx y w=>Q=w++n9 x y/\(∀r∈x,r.key.length<=4294967296)/\(∀r∈y,r.key.length<=4294967296)) (λx y w=>x.length+y.length) X Y [] rfl rfl rfl rfl (λ_ _ _ _=>⟨rfl,rfl⟩) rfl ⟨hQ,r1,r2⟩ ?_
  repeat' first|refine st ?_|((with_reducible apply A4);conv=>whnf)|refine⟨λ_=>?_,λ_=>?_⟩|fail
  intro x y w ⟨i1,i2,i3⟩
  have hQl:w.length+x.length+y.length=Q.length:=by
   rw[i1,H8,A77 _ _ _ (D3 _)];omega
  have hQn:Q.length<=4294967296/\2<=Q.length:=by
   rw[hQ,A77 _ _ _ (D3 _)]
   omega
  have w1:=A4f w
  have wm:=A5e w
  have x1:=A4f x
  have y1:=A4f y
  have xm:=A5e x
  have ym:=A5e y
  have hbw:((G9 w).length+1)*48<=140737488355328:=by omega
  cases x with
  |nil=>
   rw[n9] at i1
   have hz:G9 Q=G9 w++G9 []++G9 y:=by rw[i1,A6K];simp[G9]
   rw[hz]
   clear i1 i2 i3 hQ hz
   obtain⟨A,hA⟩:∃z,z=G9 []:=⟨_,rfl⟩
   obtain⟨B,hB⟩:∃z,z=G9 y:=⟨_,rfl⟩
   obtain⟨C,hC⟩:∃z,z=G9 w:=⟨_,rfl⟩
   rw[<- hA] at x1 xm ⊢
   rw[<- hB] at y1 ym ⊢
   rw[<- hC] at w1 wm hbw ⊢
   have x1:A.length=0:=x1
   have b1:(C.length+A.length)*48<=140737488355328/\C.length+A.length<=9223372036854775807:=by omega
   have b2:(C.length+A.length+B.length)*48<=140737488355328/\C.length+A.length+B.length<=9223372036854775807:=by simp only[l9] at hQl;omega
   have b3:((C++A).length+B.length)*48<=140737488355328/\(C++A).length+B.length<=9223372036854775807:=by rw[H8];omega
   repeat' first|refine st ?_|((with_reducible apply A4);conv=>whnf)|refine⟨λ_=>?_,λ_=>?_⟩|fail
   exact C0M (by simp only[l9] at hQl;omega)
  |cons a x=>
   cases y with
   |nil=>
    rw[C2z] at i1
    have hz:G9 Q=G9 w++G9 (a::x)++G9 []:=by rw[i1,A6K];simp[G9]
    rw[hz]
    clear i1 i2 i3 hQ hz
    obtain⟨A,hA⟩:∃z,z=G9 (a::x):=⟨_,rfl⟩
    obtain⟨B,hB⟩:∃z,z=G9 []:=⟨_,rfl⟩
    obtain⟨C,hC⟩:∃z,z=G9 w:=⟨_,rfl⟩
    rw[<- hA] at x1 xm ⊢
    rw[<- hB] at y1 ym ⊢
    rw[<- hC] at w1 wm hbw ⊢
    have y1:B.length=0:=y1
    have b1:(C.length+A.length)*48<=140737488355328/\C.length+A.length<=9223372036854775807:=by omega
    have b2:(C.length+A.length+B.length)*48<=140737488355328/\C.length+A.length+B.length<=9223372036854775807:=by omega
    have b3:((C++A).length+B.length)*48<=140737488355328/\(C++A).length+B.length<=9223372036854775807:=by rw[H8];omega
    repeat' first|refine st ?_|((with_reducible apply A4);conv=>whnf)|refine⟨λ_=>?_,λ_=>?_⟩|fail
    all_goals exact C0M (by omega)
   |cons b y=>
    have ea:(G9 (a::x))[0]?=some [.sl (B6 a.key),a.rw.d]:=rfl
    have eb:(G9 (b::y))[0]?=some [.sl (B6 b.key),b.rw.d]:=rfl
    have hC:=A7Z b.key a.key (i3 b (by simp)) (i2 a (by simp)) _ _ (.inr rfl) (.inr rfl)
    rw[n9] at i1
    obtain⟨c,hc⟩:∃c,c=K5 b.key a.key:=⟨_,rfl⟩
    rw[<- hc] at hC i1
    have ta:((G9 (a::x)).drop (1:Int).toNat).take (((G9 (a::x)).length:Int).toNat-(1:Int).toNat)=G9 x:=by rw[H4 (by simp[G9])];rfl
    have tb:((G9 (b::y)).drop (1:Int).toNat).take (((G9 (b::y)).length:Int).toNat-(1:Int).toNat)=G9 y:=by rw[H4 (by simp[G9])];rfl
    have x1:(G9 (a::x)).length=x.length+1:=x1
    have y1:(G9 (b::y)).length=y.length+1:=y1
    obtain⟨A,hA⟩:∃z,z=G9 (a::x):=⟨_,rfl⟩
    obtain⟨B,hB⟩:∃z,z=G9 (b::y):=⟨_,rfl⟩
    obtain⟨C,hCw⟩:∃z,z=G9 w:=⟨_,rfl⟩
    rw[<- hA] at x1 xm ea ta ⊢
    rw[<- hB] at y1 ym eb tb ⊢
    rw[<- hCw] at w1 wm hbw ⊢
    have hpa:(0:Int)<A.length:=by omega
    have hpb:(0:Int)<B.length:=by omega
    by_cases h0:c<0
    ·rw[if_pos h0] at i1
     clear hc hQ
     repeat' first|refine st ?_|((with_reducible apply A4);conv=>whnf)|refine⟨λ_=>?_,λ_=>?_⟩|fail
     rw[tb,hA]
     have hw:G9 (w++[b])=C++[[.sl (B6 b.key),b.rw.d]]:=by rw[A6K,hCw];rfl
     exact⟨a::x,y,w++[b],by rw[hw],rfl,by rw[hw];simp,by simp only[H9];omega,by rw[i1,S6];rfl,i2,λr h=>i3 r (I2 _ h)⟩
    ·rw[if_neg h0] at i1
     clear hc hQ
     repeat' first|refine st ?_|((with_reducible apply A4);conv=>whnf)|refine⟨λ_=>?_,λ_=>?_⟩|fail
     rw[ta,hB]
     have hw:G9 (w++[a])=C++[[.sl (B6 a.key),a.rw.d]]:=by rw[A6K,hCw];rfl
     exact⟨x,b::y,w++[a],by rw[hw],rfl,by rw[hw];simp,by simp only[H9];omega,by rw[i1,S6];rfl,λr h=>i2 r (I2 _ h),i3⟩
end Go.Proofs
end
section
namespace Go.Proofs
open Go.Bi
def n6(ks:List Int)(k:Int):Int:=(ks[k.toNat]?).getD 0
theorem A99{ks:List Int}{k:Int}(h:¬k<0)(h2:¬(ks.length:Int)<=k):ks[k.toNat]?=some (n6 ks k):=by
 unfold n6
 rw[F4 (by omega)];rfl
def agK(ks:List Int)(a:Ag):Int×Int:=
 if a.op=1\/a.op=2\/a.op=3\/a.op=4 then
  if a.arg=-1/\a.op=1 then (1,0)
  else if a.arg<0\/ks.length<=a.arg then (0,6)
  else if a.op=2/\n6 ks a.arg≠1 then (0,7)
  else if a.op=3\/a.op=4 then (n6 ks a.arg,0) else (1,0)
 else (0,7)
def A1E(ks:List Int):List Int->List Ag->List Int×Int
 |w,[]=>(w,0)
 |w,a::r=>if (agK ks a).2=0 then A1E ks (w++[(agK ks a).1]) r else ([],(agK ks a).2)
def A0c(ks:List Int)(ags:List Ag):List Int->List Int->List Int×Int
 |w,[]=>A1E ks w ags
 |w,k::r=>if k<0\/ks.length<=k then ([],6) else A0c ks ags (w++[n6 ks k]) r
def Q2(ks keys:List Int)(ags:List Ag):List Int×Int:=A0c ks ags [] keys
theorem B43(ks:List Int)(hks:ks.length<=1073741824)(dk:D)(hdk:A9 dk (A5 ks))(keys:List Int)(hkl:keys.length<=1073741824)(dy:D)(hdy:A9 dy (A5 keys))(ags:List Ag)(hal:ags.length<=1073741824)(da:D)(hda:A9 da (I0 ags)) :
  Pure Tryz.prog B8S [.d dk,.d dy,.d da] (.tup [.d (X8 (A5 (Q2 ks keys ags).1).isEmpty (A5 (Q2 ks keys ags).1)),.d (eI (Q2 ks keys ags).2)]):=by
 have l1:=F9 ks
 have m1:=I1 ks
 have g1:=λi r=>@N2 ks i r
 obtain⟨es,hes⟩:∃z,z=A5 ks:=⟨_,rfl⟩
 rw[<- hes] at hdk l1 m1 g1
 have l2:=F9 keys
 have m2:=I1 keys
 have g2:=λi r=>@N2 keys i r
 obtain⟨fs,hfs⟩:∃z,z=A5 keys:=⟨_,rfl⟩
 rw[<- hfs] at hdy l2 m2 g2
 have l3:=A5c ags
 have m3:=A6H ags
 have g3:=λi r=>@B1P ags i r
 obtain⟨gs,hgs⟩:∃z,z=I0 ags:=⟨_,rfl⟩
 rw[<- hgs] at hda l3 m3 g3
 clear hes hfs hgs
 obtain⟨q,hq⟩:∃q,q=Q2 ks keys ags:=⟨_,rfl⟩
 rw[<- hq]
 have hq:q=A0c ks ags [] keys:=hq
 refine C7O.go A6 rfl ?_
 repeat' first|refine st ?_|((with_reducible apply A4);conv=>whnf)|refine⟨λ_=>?_,λ_=>?_⟩|fail
 refine U7 8 1 rfl rfl ?_
 refine L6 A6 D0O C9x (λ(i:Nat) (w:List Int)=>[.arr 0 (A5 w).length,.d (eI i)]) (λi w=>[.arr (A5 w) 1 0 (A5 w).isEmpty]) (λi w=>i<=keys.length/\w.length=i/\q=A0c ks ags w (keys.drop i)) (λi w=>keys.length-i) 0 [] rfl rfl rfl rfl (λ_ _ _=>⟨rfl,rfl⟩) rfl ⟨by omega,rfl,hq⟩ ?_
 repeat' first|refine st ?_|((with_reducible apply A4);conv=>whnf)|refine⟨λ_=>?_,λ_=>?_⟩|fail
 intro i w ⟨i1,i2,i3⟩
 clear hq
 have hw1:=F9 w
 have hwm:=I1 w
 have hbd:((A5 w).length+1)*8<=140737488355328:=by omega
 have happ:=λk:Int=>show A5 (w++[k])=A5 w++[[eI k]] by simp[A5]
 have hne:=λk:Int=>show(A5 (w++[k])).isEmpty=false by simp[A5]
 cases hi:keys[i]? with
 |some k=>
  have hlt:=(B4.1 hi).1
  have hil:(i:Int)<fs.length:=by omega
  have hg:fs[((i:Nat):Int).toNat]?=some [eI k]:=g2 i k hi
  have dx':keys.drop i=k::keys.drop (i+1):=by rw[S1 hlt,(B4.1 hi).2]
  rw[dx',A0c] at i3
  obtain⟨A,hA⟩:∃z,z=A5 w:=⟨_,rfl⟩
  rw[<- hA] at hw1 hwm hbd ⊢
  by_cases h1:k<0
  ·rw[if_pos (.inl h1)] at i3
   subst i3
   clear hi g2 hA happ hne g1 g3 dx'
   repeat' first|refine st ?_|((with_reducible apply A4);conv=>whnf)|refine⟨λ_=>?_,λ_=>?_⟩|fail
   all_goals rfl
  by_cases h2:(ks.length:Int)<=k
  ·rw[if_pos (.inr h2)] at i3
   subst i3
   clear hi g2 hA happ hne g1 g3 dx'
   have h2:(es.length:Int)<=k:=by omega
   repeat' first|refine st ?_|((with_reducible apply A4);conv=>whnf)|refine⟨λ_=>?_,λ_=>?_⟩|fail
   all_goals rfl
  ·rw[if_neg (λh=>h.elim h1 h2)] at i3
   have hk:=g1 _ _ (A99 h1 h2)
   have happ:=happ (n6 ks k)
   have hne:=hne (n6 ks k)
   rw[<- hA] at happ
   obtain⟨v,hv⟩:∃z,z=n6 ks k:=⟨_,rfl⟩
   rw[<- hv] at hk happ hne i3
   have h2:¬(es.length:Int)<=k:=by omega
   clear hi g2 g1 g3 dx' hv
   repeat' first|refine st ?_|((with_reducible apply A4);conv=>whnf)|refine⟨λ_=>?_,λ_=>?_⟩|fail
   exact⟨i+1,w++[v],by rw[happ];simp,rfl,by rw[hne,happ];simp,by omega,by omega,by simp;omega,i3⟩
 |none=>
  have hge:=E9.1 hi
  have hil:(fs.length:Int)<=i:=by omega
  rw[R1 hge,A0c] at i3
  clear hi g2 happ hne
  repeat' first|refine st ?_|((with_reducible apply A4);conv=>whnf)|refine⟨λ_=>?_,λ_=>?_⟩|fail
  refine L6 A6 D0P C9y (λ(j:Nat) (u:List Int)=>[.arr 0 (A5 u).length,.d (eI j)]) (λj u=>[.arr (A5 u) 1 0 (A5 u).isEmpty]) (λj u=>j<=ags.length/\u.length=i+j/\q=A1E ks u (ags.drop j)) (λj u=>ags.length-j) 0 w rfl rfl rfl rfl (λ_ _ _=>⟨rfl,rfl⟩) rfl ⟨by omega,by omega,i3⟩ ?_
  repeat' first|refine st ?_|((with_reducible apply A4);conv=>whnf)|refine⟨λ_=>?_,λ_=>?_⟩|fail
  intro j u ⟨j1,j2,j3⟩
  clear hw1 hwm hbd i3
  have hu1:=F9 u
  have hum:=I1 u
  have hbd:((A5 u).length+1)*8<=140737488355328:=by omega
  have happ:=λk:Int=>show A5 (u++[k])=A5 u++[[eI k]] by simp[A5]
  have hne:=λk:Int=>show(A5 (u++[k])).isEmpty=false by simp[A5]
  obtain⟨A,hA⟩:∃z,z=A5 u:=⟨_,rfl⟩
  rw[<- hA] at hu1 hum hbd ⊢
  cases hj:ags[j]? with
  |some a=>
   have hlt:=(B4.1 hj).1
   have hjl:(j:Int)<gs.length:=by omega
   have hg:gs[((j:Nat):Int).toNat]?=some [eI a.op,eI a.arg]:=g3 j a hj
   have dx':ags.drop j=a::ags.drop (j+1):=by rw[S1 hlt,(B4.1 hj).2]
   rw[dx',A1E] at j3
   have hgk:=λh1 h2=>g1 _ _ (A99 (ks:=ks) (k:=a.arg) h1 h2)
   have hak:agK ks a=if a.op=1\/a.op=2\/a.op=3\/a.op=4 then
    if a.arg=-1/\a.op=1 then (1,0)
    else if a.arg<0\/ks.length<=a.arg then (0,6)
    else if a.op=2/\n6 ks a.arg≠1 then (0,7)
    else if a.op=3\/a.op=4 then (n6 ks a.arg,0) else (1,0)
    else (0,7):=rfl
   obtain⟨v,hv⟩:∃z,z=n6 ks a.arg:=⟨_,rfl⟩
   rw[<- hv] at hgk hak
   obtain⟨K,hK⟩:∃z,z=agK ks a:=⟨_,rfl⟩
   rw[<- hK] at hak j3
   obtain⟨op,ar⟩:=a
   dsimp only at hg hgk hak
   rw[<- l1] at hak hgk
   clear hj g1 g3 dx' hv hK
   have err:∀e:Int,e≠0->K=(0,e)->q=([],e):=λe he h=>by rw[j3,h,if_neg he]
   have okk:∀k:Int,K=(k,0)->q=A1E ks (u++[k]) (ags.drop (j+1)):=λk h=>by rw[j3,h,if_pos rfl]
   clear j3
   by_cases c0:op=1\/op=2\/op=3\/op=4
   ·rw[if_pos c0] at hak
    by_cases c1:ar=-1/\op=1
    ·rw[if_pos c1] at hak
     obtain⟨rfl,rfl⟩:=c1
     have okk:=okk _ hak
     have happ:=happ 1
     have hne:=hne 1
     rw[<- hA] at happ
     clear err hak hgk c0
     repeat' first|refine st ?_|((with_reducible apply A4);conv=>whnf)|refine⟨λ_=>?_,λ_=>?_⟩|fail
     exact⟨j+1,u++[1],by rw[happ];simp,rfl,by rw[hne,happ];simp,by omega,by omega,by simp;omega,okk⟩
    rw[if_neg c1] at hak
    by_cases c2:ar<0\/es.length<=ar
    ·rw[if_pos c2] at hak
     have err:=err 6 (by decide) hak
     subst err
     clear okk hak hgk happ hne hA
     rcases c2 with c2|c2
     ·rcases c0 with rfl|rfl|rfl|rfl
      ·have c1:¬ar=-1:=λh=>c1 ⟨h,rfl⟩
       repeat' first|refine st ?_|((with_reducible apply A4);conv=>whnf)|refine⟨λ_=>?_,λ_=>?_⟩|fail
       all_goals rfl
      all_goals clear c1
      all_goals skip
      all_goals repeat' first|refine st ?_|((with_reducible apply A4);conv=>whnf)|refine⟨λ_=>?_,λ_=>?_⟩|fail
      all_goals rfl
     ·have c3:¬ar<0:=by omega
      have c4:¬ar=-1:=by omega
      rcases c0 with rfl|rfl|rfl|rfl
      all_goals clear c1
      all_goals skip
      all_goals repeat' first|refine st ?_|((with_reducible apply A4);conv=>whnf)|refine⟨λ_=>?_,λ_=>?_⟩|fail
      all_goals rfl
    rw[if_neg c2] at hak
    have c3:¬ar<0:=λh=>c2 (.inl h)
    have c4:¬(es.length:Int)<=ar:=λh=>c2 (.inr h)
    have hg2:=hgk c3 c4
    have c5:¬ar=-1:=by omega
    clear hgk c1 c2
    rcases c0 with rfl|rfl|rfl|rfl
    ·have okk:=okk _ hak
     have happ:=happ 1
     have hne:=hne 1
     rw[<- hA] at happ
     clear err hak
     repeat' first|refine st ?_|((with_reducible apply A4);conv=>whnf)|refine⟨λ_=>?_,λ_=>?_⟩|fail
     exact⟨j+1,u++[1],by rw[happ];simp,rfl,by rw[hne,happ];simp,by omega,by omega,by simp;omega,okk⟩
    ·by_cases c6:v=1
     ·subst c6
      have okk:=okk 1 (by rw[hak];simp)
      have happ:=happ 1
      have hne:=hne 1
      rw[<- hA] at happ
      clear err hak
      repeat' first|refine st ?_|((with_reducible apply A4);conv=>whnf)|refine⟨λ_=>?_,λ_=>?_⟩|fail
      exact⟨j+1,u++[1],by rw[happ];simp,rfl,by rw[hne,happ];simp,by omega,by omega,by simp;omega,okk⟩
     ·have err:=err 7 (by decide) (by rw[hak,if_pos ⟨rfl,c6⟩])
      subst err
      clear okk hak happ hne hA
      repeat' first|refine st ?_|((with_reducible apply A4);conv=>whnf)|refine⟨λ_=>?_,λ_=>?_⟩|fail
      all_goals rfl
    all_goals
     have okk:=okk v (by rw[hak];simp)
     have happ:=happ v
     have hne:=hne v
     rw[<- hA] at happ
     clear err hak
    all_goals skip
    all_goals repeat' first|refine st ?_|((with_reducible apply A4);conv=>whnf)|refine⟨λ_=>?_,λ_=>?_⟩|fail
    all_goals exact⟨j+1,u++[v],by rw[happ];simp,rfl,by rw[hne,happ];simp,by omega,by omega,by simp;omega,okk⟩
   ·rw[if_neg c0] at hak
    have err:=err 7 (by decide) hak
    subst err
    have d1:¬op=1:=λh=>c0 (.inl h)
    have d2:¬op=2:=λh=>c0 (.inr (.inl h))
    have d3:¬op=3:=λh=>c0 (.inr (.inr (.inl h)))
    have d4:¬op=4:=λh=>c0 (.inr (.inr (.inr h)))
    clear okk hak happ hne hA hgk c0
    repeat' first|refine st ?_|((with_reducible apply A4);conv=>whnf)|refine⟨λ_=>?_,λ_=>?_⟩|fail
    all_goals rfl
  |none=>
   have hge2:=E9.1 hj
   have hjl:(gs.length:Int)<=j:=by omega
   rw[R1 hge2] at j3
   have j3:q=(u,0):=j3
   subst j3
   dsimp only
   rw[<- hA]
   clear hj g1 g3 happ hne hA
   repeat' first|refine st ?_|((with_reducible apply A4);conv=>whnf)|refine⟨λ_=>?_,λ_=>?_⟩|fail
   all_goals (cases A<;>rfl)
end Go.Proofs
end
