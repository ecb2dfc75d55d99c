/- Texts of this claim, joined. No condition. -/
import Derived.Test.YtfnaleemmeejcaaGreatQ3
set_option linter.unusedSimpArgs false
set_option linter.unusedVariables false
set_option maxRecDepth 10000
set_option maxHeartbeats 4000000
section
namespace Go.Proofs
open Go.Bi
def fe:List (Int×Int)->Int
 |[]=>0
 |r::rs=>if r.2=0 then fe rs else r.2
def X4(op n:Int)(v:Vl)(name:List UInt8)(ks:List Int)(k:Nat)(rs:List (Int×Int)):Int×Int:=
 if (U7 op k).2=false then (0,7) else if J7 op n v name k=false then (0,8)
 else if op=2 then (if 0<=n/\n<ks.length then (ks.getD n.toNat 0,0) else (0,13))
 else if fe rs=0 then (if (N0 op v (rs.map Prod.fst)).2 then ((N0 op v (rs.map Prod.fst)).1,0) else (0,7)) else (0,fe rs)
mutual
def F5(ks:List Int):Ex->Int×Int
 |.mk op n v name nl args=>X4 op n v name ks args.length (A6L ks args)
def A6L(ks:List Int):List Ex->List (Int×Int)
 |[]=>[]
 |e::es=>F5 ks e::A6L ks es
end
theorem C1M(ks:List Int):∀l,A6L ks l=l.map (F5 ks)
 |[]=>by simp[A6L]
 |e::es=>by simp[A6L,C1M ks es]
theorem A0a(ks:List Int)(op n:Int)(v:Vl)(name:List UInt8)(nl:Bool)(args:List Ex):F5 ks (.mk op n v name nl args)=X4 op n v name ks args.length (args.map (F5 ks)):=by rw[F5,C1M]
theorem C2V{l:List (Int×Int)}{i:Nat}{x:Int×Int}(h:l[i]?=some x):fe (l.drop i)=if x.2=0 then fe (l.drop (i+1)) else x.2:=by
 obtain⟨hlt,he⟩:=B3.1 h
 rw[R4 hlt,he];rfl
def Kv(rs:List (Int×Int))(i:Nat):List (List D):=A5 ((rs.take i).map Prod.fst)
theorem B8y(rs:List (Int×Int))(i:Nat)(h:i<=rs.length):(Kv rs i).length=i:=by
 unfold Kv
 rw[G4,D3,L6]
 omega
theorem B8z{rs:List (Int×Int)}{i:Nat}{x:Int×Int}(h:rs[i]?=some x):Kv rs i++[[eI x.1]]=Kv rs (i+1):=by
 unfold Kv
 rw[L5,h]
 simp[A5]
theorem B8x{rs:List (Int×Int)}{i:Nat}(h:rs.length<=i):Kv rs i=A5 (rs.map Prod.fst):=by
 unfold Kv
 rw[H0 h]
theorem A39{op n:Int}{v:Vl}{name:List UInt8}{ks:List Int}{k:Nat}{rs:List (Int×Int)}(h:J7 op n v name k=true)(h2:op≠2):X4 op n v name ks k rs=if fe rs=0 then (if (N0 op v (rs.map Prod.fst)).2 then ((N0 op v (rs.map Prod.fst)).1,0) else (0,7)) else (0,fe rs):=by
 have hc:=A5q (A41 h)
 unfold X4
 have:(U7 op k).2=true:=by
  unfold U7
  repeat' split
  all_goals first|rfl|omega
 rw[this,h,if_neg (by simp),if_neg (by simp),if_neg h2]
theorem C6o(ks:List Int)(hks:ks.length<=1073741824)(dk:D)(hdk:B0 dk (A5 ks)):∀e:Ex,e.bk<=1073741824->Pure Tryz.prog B1z [e.av,.d dk] (.tup [.d (eI (F5 ks e).1),.d (eI (F5 ks e).2)]):=by
 refine Ex.ind λop n v name nl args ih hbk=>?_
 obtain⟨b1,b2,b3,b4⟩:=Ex.bk_bounds hbk
 have ih':∀a∈args,Pure Tryz.prog B1z [a.av,.d dk] (.tup [.d (eI (F5 ks a).1),.d (eI (F5 ks a).2)]):=λa ha=>ih a ha (b4 a ha)
 clear ih
 rw[Ex.av_mk,A0a]
 refine C9H.go A6 rfl ?_
 have hlen:=N1 args
 have hF:=B4a op n v name (ng nl (xL args)) (xL args) C7 b2 (by omega)
 rw[hlen] at hF
 have hC:=B49 op args.length
 have hm:=O6 args
 have hd:B0 (ng nl (xL args)) (xL args):=C7
 have hget:∀(i:Nat) (op' n':Int) (v':Vl) (name':List UInt8) (nl':Bool) (args':List Ex),args[i]?=some (.mk op' n' v' name' nl' args')->(xL args)[i]?=some (U3 op' n' v' name' (ng nl' (xL args'))):=λi op' n' v' name' nl' args' h=>by
  rw[<- Ex.ds_mk];exact b9 h
 obtain⟨d,hde⟩:∃d,d=ng nl (xL args):=⟨_,rfl⟩
 rw[<- hde] at hF hd ⊢
 obtain⟨es,hes⟩:∃es,es=xL args:=⟨_,rfl⟩
 rw[<- hes] at hlen hm hd hget
 rw[<- hlen] at hC
 obtain⟨rs,hrs⟩:∃rs,rs=args.map (F5 ks):=⟨_,rfl⟩
 have hrl:rs.length=args.length:=by rw[hrs,D3]
 have hrg:∀(i:Nat) (x:Ex),args[i]?=some x->rs[i]?=some (F5 ks x):=λi x h=>by rw[hrs,I7,h];rfl
 rw[<- hrs]
 cases hk:(U7 op args.length).2 with
 |false=>
  have e:X4 op n v name ks args.length rs=(0,7):=by unfold X4;rw[hk,if_pos rfl]
  rw[e]
  rw[hlen,hk,<- hlen] at hC
  repeat' first|refine st ?_|refine⟨λ_=>?_,λ_=>?_⟩|fail
  all_goals rfl
 |true=>
 rw[hlen,hk,<- hlen] at hC
 cases hf:J7 op n v name args.length with
 |false=>
  have e:X4 op n v name ks args.length rs=(0,8):=by unfold X4;rw[hk,if_neg (by simp),hf,if_pos rfl]
  rw[e]
  rw[hf] at hF
  repeat' first|refine st ?_|refine⟨λ_=>?_,λ_=>?_⟩|fail
  all_goals rfl
 |true=>
 rw[hf] at hF
 have hkl:=G4 ks
 have hkm:=I0 ks
 by_cases h2:op=2
 ·subst h2
  by_cases hn:0<=n/\n<ks.length
  ·have e:X4 2 n v name ks args.length rs=(ks.getD n.toNat 0,0):=by unfold X4;rw[hk,if_neg (by simp),hf,if_neg (by simp),if_pos rfl,if_pos hn]
   rw[e]
   obtain⟨n1,n2⟩:=hn
   have hx:ks[n.toNat]?=some (ks.getD n.toNat 0):=by
    rw[H6,F1 (by omega)];rfl
   have hg:=Q1 hx
   have n3:n<(A5 ks).length:=by omega
   repeat' first|refine st ?_|refine⟨λ_=>?_,λ_=>?_⟩|fail
   all_goals rfl
  ·have e:X4 2 n v name ks args.length rs=(0,13):=by unfold X4;rw[hk,if_neg (by simp),hf,if_neg (by simp),if_pos rfl,if_neg hn]
   rw[e]
   by_cases hn0:n<0
   ·repeat' first|refine st ?_|refine⟨λ_=>?_,λ_=>?_⟩|fail
    all_goals rfl
   ·have n3:(A5 ks).length<=n:=by omega
    repeat' first|refine st ?_|refine⟨λ_=>?_,λ_=>?_⟩|fail
    all_goals rfl
 have hq:=A39 (ks:=ks) (rs:=rs) hf h2
 obtain⟨q,hqe⟩:∃q,q=X4 op n v name ks args.length rs:=⟨_,rfl⟩
 rw[<- hqe] at hq ⊢
 have hcnt:=A5q (A41 hf)
 repeat' first|refine st ?_|refine⟨λ_=>?_,λ_=>?_⟩|fail
 refine T5 8 1 rfl rfl ?_
 repeat' first|refine st ?_|refine⟨λ_=>?_,λ_=>?_⟩|fail
 refine M5 A6 D34 D1J (λ(i:Nat) (w:List (List D)×Bool)=>[.arr 1 w.1.length,.d (eI i)]) (λi w=>[.cells [.d (eI op),.d (eI n),.d (eI v.k),.d (eI v.n),.d (.str v.s),.d (.str name),.d d],.arr w.1 1 0 w.2]) (λi w=>i<=args.length/\w.1=Kv rs i/\w.2=w.1.isEmpty/\fe rs=fe (rs.drop i)) (λi _=>args.length-i) 0 ([],true) rfl rfl rfl rfl (λ_ _ _=>⟨rfl,rfl⟩) rfl ⟨by omega,rfl,rfl,rfl⟩ ?_
 repeat' first|refine st ?_|refine⟨λ_=>?_,λ_=>?_⟩|fail
 intro i w ⟨h4,h5,h6,h7⟩
 obtain⟨A,b⟩:=w
 dsimp only at h5 h6 h7 ⊢
 have hAl:A.length=i:=by rw[h5];exact B8y rs i (by omega)
 have hAm:∀e∈A,e.length=1:=by rw[h5];exact I0 _
 cases hx:args[i]? with
 |some x=>
  have hlt:=(B3.1 hx).1
  have hI:=ih' x (C3 hx)
  have hr:=hrg i x hx
  have hs:=B8z hr
  rw[C2V hr] at h7
  rw[<- h5] at hs
  obtain⟨⟨k,er⟩,hke⟩:∃ke,ke=F5 ks x:=⟨_,rfl⟩
  rw[<- hke] at hI hs h7
  obtain⟨op',n',v',name',nl',args'⟩:=x
  rw[Ex.av_mk] at hI
  have hg:=hget i _ _ _ _ _ _ hx
  by_cases her:er=0
  ·rw[if_pos her] at h7
   repeat' first|refine st ?_|refine⟨λ_=>?_,λ_=>?_⟩|fail
   exact⟨i+1,(A++[[eI k]],false),rfl,rfl,rfl,by omega,by omega,hs,by simp,h7⟩
  ·rw[if_neg her] at h7
   dsimp only at h7
   rw[h7,if_neg her] at hq
   rw[hq]
   repeat' first|refine st ?_|refine⟨λ_=>?_,λ_=>?_⟩|fail
   all_goals rfl
 |none=>
  have hge:=F2.1 hx
  rw[R5 (by omega)] at h7
  rw[h7,if_pos (show fe []=0 from rfl)] at hq
  rw[B8x (by omega)] at h5
  clear hrg
  obtain⟨l,hl⟩:∃l,l=rs.map Prod.fst:=⟨_,rfl⟩
  have hll:l.length=args.length:=by rw[hl,D3,hrl]
  rw[<- hl] at h5 hq
  have h22:op=22->1<=l.length:=λe=>by omega
  obtain⟨⟨kr,br⟩,hre⟩:∃r,r=N0 op v l:=⟨_,rfl⟩
  cases b with
  |true=>
   have hA0:A=[]:=by simpa using h6
   subst hA0
   have hR:=B4c op n v name d l (by omega) .nil (.inl ⟨rfl,h5.symm⟩) h22
   rw[<- hre] at hR hq
   rw[hq]
   cases br with
   |true=>
    repeat' first|refine st ?_|refine⟨λ_=>?_,λ_=>?_⟩|fail
    all_goals rfl
   |false=>
    repeat' first|refine st ?_|refine⟨λ_=>?_,λ_=>?_⟩|fail
    all_goals rfl
  |false=>
   have hR:=B4c op n v name d l (by omega) (.sl (A5 l)) A0y h22
   rw[<- hre,<- h5] at hR
   rw[<- hre] at hq
   rw[hq]
   cases br with
   |true=>
    repeat' first|refine st ?_|refine⟨λ_=>?_,λ_=>?_⟩|fail
    all_goals rfl
   |false=>
    repeat' first|refine st ?_|refine⟨λ_=>?_,λ_=>?_⟩|fail
    all_goals rfl
theorem B47(ks:List Int)(hks:ks.length<=1073741824)(dk:D)(hdk:B0 dk (A5 ks))(e:Ex)(he:e.bk<=1073741824):Pure Tryz.prog A8J [e.av,.d dk] (.tup [.d (eI (if 24<I6 e then (0,26) else F5 ks e).1),.d (eI (if 24<I6 e then ((0,26):Int×Int) else F5 ks e).2)]):=by
 have hD:=C6k e he
 have hC:=C6o ks hks dk hdk e he
 obtain⟨kr,hre⟩:∃r,r=F5 ks e:=⟨_,rfl⟩
 obtain⟨dp,hdp⟩:∃dp,dp=I6 e:=⟨_,rfl⟩
 rw[<- hre] at hC ⊢
 rw[<- hdp] at hD ⊢
 obtain⟨op,n,v,name,nl,args⟩:=e
 rw[Ex.av_mk] at hC hD ⊢
 refine C9x.go A6 rfl ?_
 by_cases h:24<dp
 ·rw[if_pos h]
  have h2:(24:Int)<((min 25 dp:Nat):Int):=by omega
  repeat' first|refine st ?_|refine⟨λ_=>?_,λ_=>?_⟩|fail
  all_goals rfl
 ·rw[if_neg h]
  have h2:((min 25 dp:Nat):Int)<=24:=by omega
  repeat' first|refine st ?_|refine⟨λ_=>?_,λ_=>?_⟩|fail
  all_goals rfl
end Go.Proofs
end
section
namespace Go.Proofs
open Go.Bi
theorem C6T(ks:List Int)(hks:ks.length<=1073741824)(dk:D)(hdk:B0 dk (A5 ks)):∀e:Ex,e.bk<=1073741824->Pure Tryz.prog B1p [e.av,.d dk] (.tup [.d (eI (F5 ks e).1),.d (eI (F5 ks e).2)]):=by
 refine Ex.ind λop n v name nl args ih hbk=>?_
 obtain⟨b1,b2,b3,b4⟩:=Ex.bk_bounds hbk
 have ih':∀a∈args,Pure Tryz.prog B1p [a.av,.d dk] (.tup [.d (eI (F5 ks a).1),.d (eI (F5 ks a).2)]):=λa ha=>ih a ha (b4 a ha)
 clear ih
 rw[Ex.av_mk,A0a]
 refine C8Y.go A6 rfl ?_
 have hlen:=N1 args
 have hF:=B4v op n v name (ng nl (xL args)) (xL args) C7 b2 (by omega)
 rw[hlen] at hF
 have hC:=B4s op
 have hac:=(C1o op args.length (by omega)).2
 have hm:=O6 args
 have hd:B0 (ng nl (xL args)) (xL args):=C7
 have hget:∀(i:Nat) (op' n':Int) (v':Vl) (name':List UInt8) (nl':Bool) (args':List Ex),args[i]?=some (.mk op' n' v' name' nl' args')->(xL args)[i]?=some (U3 op' n' v' name' (ng nl' (xL args'))):=λi op' n' v' name' nl' args' h=>by
  rw[<- Ex.ds_mk];exact b9 h
 obtain⟨d,hde⟩:∃d,d=ng nl (xL args):=⟨_,rfl⟩
 rw[<- hde] at hF hd ⊢
 obtain⟨es,hes⟩:∃es,es=xL args:=⟨_,rfl⟩
 rw[<- hes] at hlen hm hd hget
 obtain⟨rs,hrs⟩:∃rs,rs=args.map (F5 ks):=⟨_,rfl⟩
 have hrl:rs.length=args.length:=by rw[hrs,D3]
 have hrg:∀(i:Nat) (x:Ex),args[i]?=some x->rs[i]?=some (F5 ks x):=λi x h=>by rw[hrs,I7,h];rfl
 rw[<- hrs]
 cases hk:(U7 op args.length).2 with
 |false=>
  have e:X4 op n v name ks args.length rs=(0,7):=by unfold X4;rw[hk,if_pos rfl]
  rw[e]
  rw[hk] at hac
  have hac:(w8 op).1<0:=by
   have:=of_decide_eq_false hac.symm
   omega
  repeat' first|refine st ?_|((with_reducible apply A4);conv=>whnf)|refine⟨λ_=>?_,λ_=>?_⟩|fail
  all_goals rfl
 |true=>
 rw[hk] at hac
 have hac:¬(w8 op).1<0:=of_decide_eq_true hac.symm
 cases hf:J7 op n v name args.length with
 |false=>
  have e:X4 op n v name ks args.length rs=(0,8):=by unfold X4;rw[hk,if_neg (by simp),hf,if_pos rfl]
  rw[e]
  rw[hf] at hF
  repeat' first|refine st ?_|((with_reducible apply A4);conv=>whnf)|refine⟨λ_=>?_,λ_=>?_⟩|fail
  all_goals rfl
 |true=>
 rw[hf] at hF
 have hkl:=G4 ks
 have hkm:=I0 ks
 have hcnt:=A5q (A41 hf)
 obtain⟨q,hqe⟩:∃q,q=X4 op n v name ks args.length rs:=⟨_,rfl⟩
 rw[<- hqe]
 have hq2:op=2->q=if 0<=n/\n<ks.length then (ks.getD n.toNat 0,0) else (0,13):=λh2=>by
  rw[hqe];unfold X4;rw[hk,if_neg (by simp),hf,if_neg (by simp),if_pos h2]
 have hqo:op≠2->_:=λh2=>hqe.trans (A39 hf h2)
 clear hqe
 by_cases h2:op=2
 ·have hq:=hq2 h2
  subst h2
  by_cases hn:0<=n/\n<ks.length
  ·rw[if_pos hn] at hq
   obtain⟨n1,n2⟩:=hn
   have hx:ks[n.toNat]?=some (ks.getD n.toNat 0):=by
    rw[H6,F1 (by omega)];rfl
   have n3:n<(A5 ks).length:=by omega
   have n4:¬(A5 ks).length<=n:=by omega
   have ha0:args=[]:=A0H.1 (by omega)
   subst ha0
   have hR:=C73 n v name d [] ks (.sl (A5 [])) A0y dk hdk _ n1 hx
   have hlen0:es.length=0:=hlen
   have hes0:es=[]:=A0H.1 hlen0
   rw[hq]
   obtain⟨z,hz⟩:∃z,z=ks.getD n.toNat 0:=⟨_,rfl⟩
   rw[<- hz] at hR ⊢
   repeat' first|refine st ?_|((with_reducible apply A4);conv=>whnf)|refine⟨λ_=>?_,λ_=>?_⟩|fail
   refine J5 A6 B8G B8A (λ(i:Nat)=>[.arr 1 0,.d (eI i)]) (λi=>[.cells [.d (eI 2),.d (eI n),.d (eI v.k),.d (eI v.n),.d (.str v.s),.d (.str name),.d d],.arr [] 1 0 false]) (λi=>i=0) (λi=>0) 0 rfl rfl rfl rfl (λ_ _=>⟨rfl,rfl⟩) rfl rfl ?_
   repeat' first|refine st ?_|((with_reducible apply A4);conv=>whnf)|refine⟨λ_=>?_,λ_=>?_⟩|fail
   intro i hi
   subst hi
   have h0:es.length<=((0:Nat):Int):=by omega
   have h00:([]:List (List D)).length=0:=rfl
   have hm0:∀e∈([]:List (List D)),e.length=1:=by intro e he;cases he
   repeat' first|refine st ?_|((with_reducible apply A4);conv=>whnf)|refine⟨λ_=>?_,λ_=>?_⟩|fail
   all_goals rfl
  ·rw[if_neg hn] at hq
   rw[hq]
   by_cases hn0:n<0
   ·repeat' first|refine st ?_|((with_reducible apply A4);conv=>whnf)|refine⟨λ_=>?_,λ_=>?_⟩|fail
    all_goals rfl
   ·have n3:(A5 ks).length<=n:=by omega
    repeat' first|refine st ?_|((with_reducible apply A4);conv=>whnf)|refine⟨λ_=>?_,λ_=>?_⟩|fail
    all_goals rfl
 have hq:=hqo h2
 repeat' first|refine st ?_|((with_reducible apply A4);conv=>whnf)|refine⟨λ_=>?_,λ_=>?_⟩|fail
 refine M5 A6 B8G B8A (λ(i:Nat) (A:List (List D))=>[.arr 1 A.length,.d (eI i)]) (λi A=>[.cells [.d (eI op),.d (eI n),.d (eI v.k),.d (eI v.n),.d (.str v.s),.d (.str name),.d d],.arr A 1 0 false]) (λi A=>i<=args.length/\A=Kv rs i/\fe rs=fe (rs.drop i)) (λi _=>args.length-i) 0 [] rfl rfl rfl rfl (λ_ _ _=>⟨rfl,rfl⟩) rfl ⟨by omega,rfl,rfl⟩ ?_
 repeat' first|refine st ?_|((with_reducible apply A4);conv=>whnf)|refine⟨λ_=>?_,λ_=>?_⟩|fail
 intro i A ⟨h4,h5,h7⟩
 have hAl:A.length=i:=by rw[h5];exact B8y rs i (by omega)
 have hAm:∀e∈A,e.length=1:=by rw[h5];exact I0 _
 cases hx:args[i]? with
 |some x=>
  have hlt:=(B3.1 hx).1
  have hI:=ih' x (C3 hx)
  have hr:=hrg i x hx
  have hs:=B8z hr
  rw[C2V hr] at h7
  rw[<- h5] at hs
  obtain⟨⟨k,er⟩,hke⟩:∃ke,ke=F5 ks x:=⟨_,rfl⟩
  rw[<- hke] at hI hs h7
  obtain⟨op',n',v',name',nl',args'⟩:=x
  rw[Ex.av_mk] at hI
  have hg:=hget i _ _ _ _ _ _ hx
  by_cases her:er=0
  ·rw[if_pos her] at h7
   repeat' first|refine st ?_|((with_reducible apply A4);conv=>whnf)|refine⟨λ_=>?_,λ_=>?_⟩|fail
   exact⟨i+1,A++[[eI k]],rfl,rfl,rfl,by omega,by omega,hs,h7⟩
  ·rw[if_neg her] at h7
   dsimp only at h7
   rw[h7,if_neg her] at hq
   rw[hq]
   repeat' first|refine st ?_|((with_reducible apply A4);conv=>whnf)|refine⟨λ_=>?_,λ_=>?_⟩|fail
   all_goals rfl
 |none=>
  have hge:=F2.1 hx
  rw[R5 (by omega)] at h7
  rw[h7,if_pos (show fe []=0 from rfl)] at hq
  rw[B8x (by omega)] at h5
  clear hrg
  obtain⟨l,hl⟩:∃l,l=rs.map Prod.fst:=⟨_,rfl⟩
  have hll:l.length=args.length:=by rw[hl,D3,hrl]
  rw[<- hl] at h5 hq
  have h22:op=22->1<=l.length:=λe=>by omega
  obtain⟨⟨kr,br⟩,hre⟩:∃r,r=N0 op v l:=⟨_,rfl⟩
  have hR:=C72 op n v name d l (by omega) (.sl (A5 l)) A0y dk h22 (by omega) h2
  rw[<- hre,<- h5] at hR
  rw[<- hre] at hq
  rw[hq]
  cases br with
  |true=>
   repeat' first|refine st ?_|((with_reducible apply A4);conv=>whnf)|refine⟨λ_=>?_,λ_=>?_⟩|fail
   all_goals rfl
  |false=>
   repeat' first|refine st ?_|((with_reducible apply A4);conv=>whnf)|refine⟨λ_=>?_,λ_=>?_⟩|fail
   all_goals rfl
theorem B4t(ks:List Int)(hks:ks.length<=1073741824)(dk:D)(hdk:B0 dk (A5 ks))(e:Ex)(he:e.bk<=1073741824):Pure Tryz.prog A8D [e.av,.d dk] (.tup [.d (eI (if 24<I6 e then (0,26) else F5 ks e).1),.d (eI (if 24<I6 e then ((0,26):Int×Int) else F5 ks e).2)]):=by
 have hD:=C6Y e he
 have hC:=C6T ks hks dk hdk e he
 obtain⟨kr,hre⟩:∃r,r=F5 ks e:=⟨_,rfl⟩
 obtain⟨dp,hdp⟩:∃dp,dp=I6 e:=⟨_,rfl⟩
 rw[<- hre] at hC ⊢
 rw[<- hdp] at hD ⊢
 obtain⟨op,n,v,name,nl,args⟩:=e
 rw[Ex.av_mk] at hC hD ⊢
 refine C8O.go A6 rfl ?_
 by_cases h:24<dp
 ·rw[if_pos h]
  have h2:(24:Int)<(dp:Int):=by omega
  repeat' first|refine st ?_|((with_reducible apply A4);conv=>whnf)|refine⟨λ_=>?_,λ_=>?_⟩|fail
  all_goals rfl
 ·rw[if_neg h]
  have h2:(dp:Int)<=24:=by omega
  repeat' first|refine st ?_|((with_reducible apply A4);conv=>whnf)|refine⟨λ_=>?_,λ_=>?_⟩|fail
  all_goals rfl
end Go.Proofs
end
section
namespace Go.Proofs
open Go.Bi
abbrev S8(ks:List Int)(e:Ex):Int×Int:=if 24<I6 e then (0,26) else F5 ks e
def G6(ks:List Int):List Ex->List Int×Int
 |[]=>([],0)
 |e::r=>if (S8 ks e).2=0 then (if (S8 ks e).1=0 then ([],7) else if (G6 ks r).2=0 then ((S8 ks e).1::(G6 ks r).1,0) else ([],(G6 ks r).2)) else ([],(S8 ks e).2)
theorem B4D(ks:List Int)(hks:ks.length<=1073741824)(dk:D)(hdk:B0 dk (A5 ks))(xs:List Ex)(hx:xs.length<=1073741824)(hxb:∀e∈xs,e.bk<=1073741824)(dx:D)(hdx:B0 dx (xL xs)) :
  Pure Tryz.prog B9T [.d dk,.d dx] (.tup [.d (Y2 (A5 (G6 ks xs).1).isEmpty (A5 (G6 ks xs).1)),.d (eI (G6 ks xs).2)]):=by
 have hC:=λ(e:Ex) (h:e∈xs)=>B4t ks hks dk hdk e (hxb e h)
 have l1:=N1 xs
 have m1:=O6 xs
 have g1:=λi e=>@b9 xs i e
 obtain⟨es,hes⟩:∃z,z=xL xs:=⟨_,rfl⟩
 rw[<- hes] at hdx l1 m1 g1
 clear hes
 obtain⟨q,hq⟩:∃q,q=G6 ks xs:=⟨_,rfl⟩
 rw[<- hq]
 refine C9j.go A6 rfl ?_
 repeat' first|refine st ?_|((with_reducible apply A4);conv=>whnf)|refine⟨λ_=>?_,λ_=>?_⟩|fail
 refine T5 6 1 rfl rfl ?_
 refine M5 A6 D2O D1t (λ(i:Nat) (w:List Int)=>[.arr 0 (A5 w).length,.d (eI i)]) (λi w=>[.arr (A5 w) 1 0 (A5 w).isEmpty]) (λi w=>i<=xs.length/\w.length=i/\q=if (G6 ks (xs.drop i)).2=0 then (w++(G6 ks (xs.drop i)).1,0) else ([],(G6 ks (xs.drop i)).2)) (λi w=>xs.length-i) 0 [] rfl rfl rfl rfl (λ_ _ _=>⟨rfl,rfl⟩) rfl ⟨by omega,rfl,by
  rw[hq]
  show G6 ks xs=if (G6 ks xs).2=0 then ((G6 ks xs).1,0) else ([],(G6 ks xs).2)
  split
  ·rename_i h;exact Prod.ext rfl h
  ·rename_i h
   refine Prod.ext ?_ rfl
   cases xs with
   |nil=>exact absurd rfl h
   |cons e r=>
    rw[G6] at h ⊢
    split
    ·rename_i h1
     rw[if_pos h1] at h
     split
     ·rfl
     ·rename_i h2
      rw[if_neg h2] at h
      split
      ·rename_i h3
       rw[if_pos h3] at h
       exact absurd rfl h
      ·rfl
    ·rfl⟩ ?_
 repeat' first|refine st ?_|((with_reducible apply A4);conv=>whnf)|refine⟨λ_=>?_,λ_=>?_⟩|fail
 intro i w ⟨i1,i2,i3⟩
 clear hq
 have hw1:=G4 w
 have hwm:=I0 w
 have hbd:((A5 w).length+1)*8<=140737488355328:=by omega
 have happ:=λk:Int=>show A5 (w++[k])=A5 w++[[eI k]] by simp[A5]
 have hne:=λk:Int=>show(A5 (w++[k])).isEmpty=false by simp[A5]
 obtain⟨A,hA⟩:∃z,z=A5 w:=⟨_,rfl⟩
 rw[<- hA] at hw1 hwm hbd ⊢
 cases hi:xs[i]? with
 |some e=>
  have hlt:=(B3.1 hi).1
  have hil:(i:Int)<es.length:=by omega
  have hg:=g1 i e hi
  have hC:=hC e (C3 hi)
  have dx':xs.drop i=e::xs.drop (i+1):=by rw[R4 hlt,(B3.1 hi).2]
  rw[dx',G6] at i3
  have hC:Bi.Pure Tryz.prog A8D [e.av,.d dk] (.tup [.d (eI (S8 ks e).1),.d (eI (S8 ks e).2)]):=hC
  obtain⟨⟨k,er⟩,hk⟩:∃z,z=S8 ks e:=⟨_,rfl⟩
  rw[<- hk] at hC i3
  dsimp only at hC i3
  clear hk dx'
  obtain⟨xo,xn,xv,xm,xl,xa⟩:=e
  rw[Ex.ds_mk] at hg
  rw[Ex.av_mk] at hC
  have hg:es[((i:Nat):Int).toNat]?=some (U3 xo xn xv xm (ng xl (xL xa))):=hg
  obtain⟨xd,hxd⟩:∃d,d=ng xl (xL xa):=⟨_,rfl⟩
  rw[<- hxd] at hg hC
  by_cases h1:er=0
  ·subst h1
   rw[if_pos rfl] at i3
   by_cases h2:k=0
   ·subst h2
    rw[if_pos rfl] at i3
    have i3:q=([],7):=i3
    subst i3
    clear hi g1 hxd hA happ hne
    repeat' first|refine st ?_|((with_reducible apply A4);conv=>whnf)|refine⟨λ_=>?_,λ_=>?_⟩|fail
    all_goals rfl
   ·rw[if_neg h2] at i3
    have i4:q=if (G6 ks (xs.drop (i+1))).2=0 then ((w++[k])++(G6 ks (xs.drop (i+1))).1,0) else ([],(G6 ks (xs.drop (i+1))).2):=by
     rw[i3]
     by_cases h3:(G6 ks (xs.drop (i+1))).2=0
     ·rw[if_pos h3,if_pos rfl,if_pos h3,S6];rfl
     ·rw[if_neg h3,if_neg h3,if_neg h3]
    have happ:=happ k
    have hne:=hne k
    rw[<- hA] at happ
    clear hi g1 hxd i3
    repeat' first|refine st ?_|((with_reducible apply A4);conv=>whnf)|refine⟨λ_=>?_,λ_=>?_⟩|fail
    exact⟨i+1,w++[k],by rw[happ];simp,rfl,by rw[hne,happ];simp,by omega,by omega,by simp;omega,i4⟩
  ·rw[if_neg h1,if_neg h1] at i3
   subst i3
   clear hi g1 hxd hA happ hne
   repeat' first|refine st ?_|((with_reducible apply A4);conv=>whnf)|refine⟨λ_=>?_,λ_=>?_⟩|fail
   all_goals rfl
 |none=>
  have hge:=F2.1 hi
  have hil:(es.length:Int)<=i:=by omega
  rw[R5 hge] at i3
  have i3:q=(w,0):=by rw[i3];simp[G6]
  subst i3
  dsimp only
  rw[<- hA]
  clear hi g1 happ hne hA
  repeat' first|refine st ?_|((with_reducible apply A4);conv=>whnf)|refine⟨λ_=>?_,λ_=>?_⟩|fail
  all_goals (cases A<;>rfl)
end Go.Proofs
end
section
namespace Go.Proofs
open Go.Bi
theorem C7i(ks:List Int)(hks:ks.length<=1073741824)(dk:D)(hdk:B0 dk (A5 ks))(l:List Rw)(hl:l.length<=4294967296)(ho:∀r∈l,A3J r.vs)(dr:D)(hd:B0 dr (B6 l))(xs:List Ex)(hx:xs.length<=1073741824)(hxb:∀e∈xs,e.bk<=1073741824)(dx:D)(hdx:B0 dx (xL xs)) :
  Pure Tryz.prog B9S [O5 dk dr,.d dx] (O5 (Y2 (A5 (G6 ks xs).1).isEmpty (A5 (G6 ks xs).1)) (.sl (rD (D2 ((A8 l).map (S1 xs)))))):=by
 have hP:=B4D ks hks dk hdk xs hx hxb dx hdx
 obtain⟨kd,hkd⟩:∃z,z=Y2 (A5 (G6 ks xs).1).isEmpty (A5 (G6 ks xs).1):=⟨_,rfl⟩
 rw[<- hkd] at hP ⊢
 obtain⟨ke,hke⟩:∃z,z=(G6 ks xs).2:=⟨_,rfl⟩
 rw[<- hke] at hP
 clear hkd hke hdk hks
 have hV:=λ(r:Rw) (h:r∈l)=>C7l xs hx hxb dx hdx r.vs (ho r h) r.d C7
 have hS:=λd hd=>A0D (l.map λr=>Rw.mk true (S1 xs r.vs)) (by rw[D3];exact hl) (λr h=>by
  obtain⟨x,_,rfl⟩:=D9.1 h
  show(xs.map (ev x.vs)).length<=_
  rw[D3];omega) d hd
 rw[show A8 (l.map λr=>Rw.mk true (S1 xs r.vs))=(A8 l).map (S1 xs) by unfold A8;rw[W3,W3];rfl] at hS
 obtain⟨Z,hZ⟩:∃z,z=rD (D2 ((A8 l).map (S1 xs))):=⟨_,rfl⟩
 rw[<- hZ] at hS ⊢
 clear hZ
 have l1:=W0 l
 have m1:=X8 l
 have g1:=λi r=>@A1d l i r
 obtain⟨es,hes⟩:∃z,z=B6 l:=⟨_,rfl⟩
 rw[<- hes] at hd l1 m1 g1
 clear hes
 refine C9i.go A6 rfl ?_
 repeat' first|refine st ?_|((with_reducible apply A4);conv=>whnf)|refine⟨λ_=>?_,λ_=>?_⟩|fail
 refine A2d 2 1 1 rfl rfl rfl ?_
 refine M5 A6 D2N D1s (λ(i:Nat) (w:List Rw)=>[.d (eI i)]) (λi w=>[.cells [.d dk,.d dr],.cells [.d .nil,.d .nil],.cells [.d kd,.arr 3 (B6 w).length],.arr (B6 w) 1 0 (B6 w).isEmpty]) (λi w=>i<=l.length/\w=(l.take i).map λr=>Rw.mk true (S1 xs r.vs)) (λi w=>l.length-i) 0 [] rfl rfl rfl rfl (λ_ _ _=>⟨rfl,rfl⟩) rfl ⟨by omega,rfl⟩ ?_
 repeat' first|refine st ?_|((with_reducible apply A4);conv=>whnf)|refine⟨λ_=>?_,λ_=>?_⟩|fail
 intro i w ⟨i1,i2⟩
 have hwl:w.length<=i:=by rw[i2,D3,L6];omega
 have hw1:=W0 w
 have hwm:=X8 w
 have hbd:((B6 w).length+1)*24<=140737488355328:=by omega
 have happ:=λr=>show B6 (w++[r])=B6 w++[[r.d]] by rw[A9g];rfl
 obtain⟨A,hA⟩:∃z,z=B6 w:=⟨_,rfl⟩
 rw[<- hA] at hw1 hwm hbd ⊢
 cases hi:l[i]? with
 |some r=>
  have hlt:=(B3.1 hi).1
  have hil:(i:Int)<es.length:=by omega
  have e1:es[((i:Nat):Int).toNat]?=some [r.d]:=g1 i r hi
  have hV:=hV r (C3 hi)
  have hft:(l.take (i+1)).map (λr=>Rw.mk true (S1 xs r.vs))=w++[Rw.mk true (S1 xs r.vs)]:=by
   rw[i2,L5,hi];simp
  obtain⟨R,hR⟩:∃z,z=Rw.mk true (S1 xs r.vs):=⟨_,rfl⟩
  have hV:Bi.Pure Tryz.prog A8G [.d dx,.d r.d] (.d R.d):=by
   rw[hR]
   show Bi.Pure Tryz.prog A8G [.d dx,.d r.d] (.d (ng true (B2 (S1 xs r.vs))))
   have e:ng true (B2 (S1 xs r.vs))=Y2 (B2 (S1 xs r.vs)).isEmpty (B2 (S1 xs r.vs)):=by unfold ng Y2;rw[R2]
   rw[e];exact hV
  rw[<- hR] at hft
  have happ:=happ R
  rw[<- hA] at happ
  have hne:(A++[[R.d]]).isEmpty=false:=by simp
  obtain⟨rd,hrd⟩:∃d,d=r.d:=⟨_,rfl⟩
  rw[<- hrd] at hV e1
  obtain⟨Rd,hRd⟩:∃d,d=R.d:=⟨_,rfl⟩
  rw[<- hRd] at hV happ hne
  clear hrd i2 hi g1 hS ho hR hRd
  repeat' first|refine st ?_|((with_reducible apply A4);conv=>whnf)|refine⟨λ_=>?_,λ_=>?_⟩|fail
  exact⟨i+1,w++[R],rfl,rfl,by rw[happ,hne];first|done|rfl|simp,by omega,by omega,hft.symm⟩
 |none=>
  have hge:=F2.1 hi
  have hil:(es.length:Int)<=i:=by omega
  rw[H0 hge] at i2
  rw[<- i2] at hS
  obtain⟨b,hb⟩:∃b,b=A.isEmpty:=⟨_,rfl⟩
  rw[<- hA] at hS
  have hS:=hS (if b then .nil else .sl A) (A9J hb)
  rw[<- hb]
  clear i2 hi g1 ho hV happ
  cases b
  all_goals skip
  all_goals repeat' first|refine st ?_|((with_reducible apply A4);conv=>whnf)|refine⟨λ_=>?_,λ_=>?_⟩|fail
  all_goals rfl
end Go.Proofs
end
section
namespace Go.Proofs
open Go.Bi
theorem B4P(a b:List Vl)(ha:a.length+b.length<=4294967296)(da db:D)(hda:B0 da (B2 a))(hdb:B0 db (B2 b)):Pure Tryz.prog B9l [.d da,.d db] (.d (.sl (B2 (a++b)))):=by
 have h1:=Q2 a
 have hm:=Q3 a
 have h2:=Q2 b
 have hm2:=Q3 b
 have hap:B2 (a++b)=B2 a++B2 b:=by simp[B2]
 rw[hap]
 have h3:(([]:List (List D))++B2 a).length=a.length:=by simp[h1]
 refine C8D.go A6 rfl ?_
 repeat' first|refine st ?_|((with_reducible apply A4);conv=>whnf)|refine⟨λ_=>?_,λ_=>?_⟩|fail
 all_goals (simp;try rfl)
def R8(e:Ex)(B:List B4)(a:B4):List B4:=(B.map λb=>a++b).filter (K6 e)
def jnO(left:Bool)(nb:Nat)(a:B4)(l:List B4):List B4:=if left&&l.isEmpty then [a++List.replicate nb C5] else []
def M8(e:Ex)(left:Bool)(nb:Nat)(B:List B4):List B4->List B4
 |[]=>[]
 |a::r=>R8 e B a++jnO left nb a (R8 e B a)++M8 e left nb B r
theorem D9j{e:Ex}{B:List B4}{a b:B4}{k:Nat}(h:B[k]?=some b):R8 e (B.drop k) a=(if K6 e (a++b) then [a++b] else [])++R8 e (B.drop (k+1)) a:=by
 obtain⟨h1,h2⟩:=B3.1 h
 rw[R4 h1,h2]
 unfold R8
 rw[G5,j9]
 split<;>rfl
theorem C7f(ka kb:List Int)(hkk:ka.length+kb.length<=4294967296)(hkb:kb.length<=4096)(dka dkb:D)(hka:B0 dka (A5 ka))(hkbd:B0 dkb (A5 kb))(A B:List Rw)(hA:A.length<=4294967296)(hB:B.length<=4294967296)
  (hAo:∀r∈A,r.vs.length<=4096/\∀v∈r.vs,v.s.length<=1073741824) (hBo:∀r∈B,r.vs.length<=4096/\∀v∈r.vs,v.s.length<=1073741824) (da db:D) (hda:B0 da (B6 A)) (hdb:B0 db (B6 B)) (e:Ex) (he:e.bk<=1073741824) (left:Bool)
  (hR:(M8 e left kb.length (A8 B) (A8 A)).length<=4294967296) :
  Pure Tryz.prog B9O [O5 dka da,O5 dkb db,e.av,.d (.bool left)] (O5 (Y2 (A5 (ka++kb)).isEmpty (A5 (ka++kb))) (.sl (rD (D2 (M8 e left kb.length (A8 B) (A8 A)))))):=by
 have hJ:=B4G ka kb hkk dka dkb hka hkbd
 obtain⟨dj,hdj⟩:∃z,z=Y2 (A5 (ka++kb)).isEmpty (A5 (ka++kb)):=⟨_,rfl⟩
 rw[<- hdj] at hJ ⊢
 have hN:=C7C kb.length hkb
 have lk:=G4 kb
 have hC:=λ(x y:Rw) (hx:x∈A) (hy:y∈B)=>B4P x.vs y.vs (by have:=(hAo x hx).1;have:=(hBo y hy).1;omega) x.d y.d C7 C7
 have hCn:=λ(x:Rw) (hx:x∈A)=>B4P x.vs (List.replicate kb.length C5) (by have:=(hAo x hx).1;rw[A1E];omega) x.d (.sl (B2 (List.replicate kb.length C5))) C7 (.inr rfl)
 have hT:=λ(x y:Rw) (hx:x∈A) (hy:y∈B)=>B4z (x.vs++y.vs) (by have:=(hAo x hx).1;have:=(hBo y hy).1;rw[H3];omega) (λv hv=>by
  rcases L9.1 hv with hv|hv
  ·exact(hAo x hx).2 v hv
  ·exact(hBo y hy).2 v hv) (.sl (B2 (x.vs++y.vs))) (.inr rfl) e he
 obtain⟨R,hRR⟩:∃z,z=M8 e left kb.length (A8 B) (A8 A):=⟨_,rfl⟩
 rw[<- hRR] at hR ⊢
 have hRm:∀r∈R,r.length<=4294967296:=by
  rw[hRR]
  clear hRR hR
  have key:∀l:List Rw,(∀r∈l,r∈A)->∀r∈M8 e left kb.length (A8 B) (A8 l),r.length<=4294967296:=by
   intro l
   induction l with
   |nil=>intro _ r hr;cases hr
   |cons a t ih=>
    intro hl r hr
    have ha:=hl a (by simp)
    have hr:r∈R8 e (A8 B) a.vs++jnO left kb.length a.vs (R8 e (A8 B) a.vs)++M8 e left kb.length (A8 B) (A8 t):=hr
    rcases L9.1 hr with hr|hr
    ·rcases L9.1 hr with hr|hr
     ·unfold R8 at hr
      obtain⟨b,hb,rfl⟩:=D9.1 (A06.1 hr).1
      obtain⟨y,hy,rfl⟩:=D9.1 hb
      have:=(hAo a ha).1
      have:=(hBo y hy).1
      rw[H3];omega
     ·unfold jnO at hr
      split at hr
      ·rw[O4.1 hr,H3,A1E]
       have:=(hAo a ha).1
       omega
      ·cases hr
    ·exact ih (λx hx=>hl x (by simp[hx])) r hr
  exact key A λr h=>h
 have hS:=A0D (H9 R) (by unfold H9;rw[D3];exact hR) (λr h=>by
  obtain⟨x,hx,rfl⟩:=D9.1 h
  exact hRm x hx) (if (rD R).isEmpty then .nil else .sl (rD R)) (by rw[A9h];exact A9J rfl)
 rw[A2M] at hS
 obtain⟨Z,hZ⟩:∃z,z=rD (D2 R):=⟨_,rfl⟩
 rw[<- hZ] at hS ⊢
 clear hZ hRm hdj
 have l1:=W0 A
 have m1:=X8 A
 have g1:=λi r=>@A1d A i r
 have l2:=W0 B
 have m2:=X8 B
 have g2:=λi r=>@A1d B i r
 obtain⟨es,hes⟩:∃z,z=B6 A:=⟨_,rfl⟩
 obtain⟨fs,hfs⟩:∃z,z=B6 B:=⟨_,rfl⟩
 rw[<- hes] at hda l1 m1 g1
 rw[<- hfs] at hdb l2 m2 g2
 obtain⟨kk,hkk'⟩:∃z,z=A5 kb:=⟨_,rfl⟩
 rw[<- hkk'] at hkbd lk
 have hN:Bi.Pure Tryz.prog B1k [.d (eI (kk.length:Nat))] (.d (.sl (B2 (List.replicate kb.length C5)))):=by rw[lk];exact hN
 have km:∀z∈kk,z.length=1:=by rw[hkk'];exact I0 kb
 clear hes hfs hkk'
 obtain⟨xo,xn,xv,xm,xl,xa⟩:=e
 rw[Ex.av_mk] at hT ⊢
 obtain⟨xd,hxd⟩:∃d,d=ng xl (xL xa):=⟨_,rfl⟩
 rw[<- hxd] at hT ⊢
 obtain⟨E,hE⟩:∃z,z=Ex.mk xo xn xv xm xl xa:=⟨_,rfl⟩
 rw[<- hE] at hRR
 have hT:∀(x y:Rw),x∈A->y∈B->Bi.Pure Tryz.prog B1o [eX xo xn xv xm xd,.d (.sl (B2 (x.vs++y.vs)))] (.d (eI (L8 (ev (x.vs++y.vs) E)))):=by rw[hE];exact hT
 clear hE hxd he
 obtain⟨nb,hnb⟩:∃n,n=kb.length:=⟨_,rfl⟩
 rw[<- hnb] at hRR hN hCn
 refine C9g.go A6 rfl ?_
 repeat' first|refine st ?_|((with_reducible apply A4);conv=>whnf)|refine⟨λ_=>?_,λ_=>?_⟩|fail
 refine A2d 4 1 1 rfl rfl rfl ?_
 refine M5 A6 D2L D1q (λ(i:Nat) (w:List B4)=>[.d (eI i)]) (λi w=>[.cells [.d dka,.d da],.cells [.d dkb,.d db],.cells [.d (eI xo),.d (eI xn),.d (eI xv.k),.d (eI xv.n),.d (.str xv.s),.d (.str xm),.d xd],.cells [.d .nil,.d .nil],.cells [.d dj,.arr 5 (rD w).length],.arr (rD w) 1 0 (rD w).isEmpty]) (λi w=>i<=A.length/\R=w++M8 E left nb (A8 B) ((A8 A).drop i)) (λi w=>A.length-i) 0 [] rfl rfl rfl rfl (λ_ _ _=>⟨rfl,rfl⟩) rfl ⟨by omega,hRR⟩ ?_
 repeat' first|refine st ?_|((with_reducible apply A4);conv=>whnf)|refine⟨λ_=>?_,λ_=>?_⟩|fail
 intro i w ⟨i1,i2⟩
 cases hx:A[i]? with
 |some x=>
  have hlt:=(B3.1 hx).1
  have hil:(i:Int)<es.length:=by omega
  have e1:es[((i:Nat):Int).toNat]?=some [x.d]:=g1 i x hx
  have hxA:=C3 hx
  have hd1:(A8 A).drop i=x.vs::(A8 A).drop (i+1):=by
   have:(A8 A)[i]?=some x.vs:=by unfold A8;rw[I7,hx];rfl
   obtain⟨h1,h2⟩:=B3.1 this
   rw[R4 h1,h2]
  rw[hd1] at i2
  have i2:R=w++(R8 E (A8 B) x.vs++jnO left nb x.vs (R8 E (A8 B) x.vs)++M8 E left nb (A8 B) ((A8 A).drop (i+1))):=i2
  have hC:=λ(y:Rw) (hy:y∈B)=>hC x y hxA hy
  have hT:=λ(y:Rw) (hy:y∈B)=>hT x y hxA hy
  have hCn:=hCn x hxA
  obtain⟨J,hJ'⟩:∃z,z=R8 E (A8 B) x.vs:=⟨_,rfl⟩
  rw[<- hJ'] at i2
  have hO:jnO left nb x.vs J=if left&&J.isEmpty then [x.vs++List.replicate nb C5] else []:=rfl
  obtain⟨O,hO'⟩:∃z,z=jnO left nb x.vs J:=⟨_,rfl⟩
  rw[<- hO'] at i2 hO
  have hRl:w.length+(J.length+O.length+(M8 E left nb (A8 B) ((A8 A).drop (i+1))).length)=R.length:=by
   have:=congrArg List.length i2
   simp only[H3] at this
   omega
  obtain⟨xr,hxr⟩:∃z,z=x.vs:=⟨_,rfl⟩
  rw[<- hxr] at hC hT hCn hJ' hO
  obtain⟨Nz,hNz⟩:∃z,z=B2 (List.replicate nb C5):=⟨_,rfl⟩
  rw[<- hNz] at hN hCn
  obtain⟨Cz,hCz⟩:∃z,z=B2 (xr++List.replicate nb C5):=⟨_,rfl⟩
  rw[<- hCz] at hCn
  have hCz':rD [xr++List.replicate nb C5]=[[.sl Cz]]:=by rw[hCz];rfl
  obtain⟨Nr,hNr⟩:∃z,z=xr++List.replicate nb C5:=⟨_,rfl⟩
  rw[<- hNr] at hO hCz'
  obtain⟨xd',hxd'⟩:∃z,z=x.d:=⟨_,rfl⟩
  rw[<- hxd'] at hC hCn e1
  clear hNz hCz hNr hxd' hxr hd1 hO' hxA hx g1 hRR hS
  repeat' first|refine st ?_|((with_reducible apply A4);conv=>whnf)|refine⟨λ_=>?_,λ_=>?_⟩|fail
  refine A6b A6 D2K D1p (λ(k:Nat) (f:Bool) (W:List B4)=>[.d (.bool f),.d (eI k)]) (λk f W=>[.cells [.d dka,.d da],.cells [.d dkb,.d db],.cells [.d (eI xo),.d (eI xn),.d (eI xv.k),.d (eI xv.n),.d (.str xv.s),.d (.str xm),.d xd],.cells [.d .nil,.d .nil],.cells [.d dj,.arr 5 (rD W).length],.arr (rD W) 1 0 (rD W).isEmpty]) (λk f W=>k<=B.length/\∃ms,W=w++ms/\f=!ms.isEmpty/\J=ms++R8 E ((A8 B).drop k) xr) (λk f W=>B.length-k) 0 false w rfl rfl rfl rfl (λ_ _ _ _=>⟨rfl,rfl⟩) rfl ⟨by omega,[],by simp,rfl,hJ'⟩ ?_
  repeat' first|refine st ?_|((with_reducible apply A4);conv=>whnf)|refine⟨λ_=>?_,λ_=>?_⟩|fail
  intro k f W ⟨k1,ms,k2,k3,k4⟩
  have hW1:=v6 W
  have hWm:=v7 W
  have hWl:W.length=w.length+ms.length:=by rw[k2];simp
  have happ:=λ(r:B4)=>show rD (W++[r])=rD W++[[.sl (B2 r)]] by rw[A2E];rfl
  have happ2:=show rD (W++[Nr])=rD W++[[.sl Cz]] by rw[A2E,hCz']
  obtain⟨Q,hQ⟩:∃z,z=rD W:=⟨_,rfl⟩
  rw[<- hQ] at hW1 hWm happ happ2 ⊢
  cases hy:B[k]? with
  |some y=>
   have hlt2:=(B3.1 hy).1
   have hil2:(k:Int)<fs.length:=by omega
   have e2:fs[((k:Nat):Int).toNat]?=some [y.d]:=g2 k y hy
   have hyB:=C3 hy
   have hC:=hC y hyB
   have hT:=hT y hyB
   have hk:(A8 B)[k]?=some y.vs:=by unfold A8;rw[I7,hy];rfl
   have hdr:=D9j (e:=E) (a:=xr) hk
   rw[hdr] at k4
   have happ:=happ (xr++y.vs)
   have htr:K6 E (xr++y.vs)=decide (L8 (ev (xr++y.vs) E)=2):=rfl
   rw[htr] at k4
   obtain⟨t,ht⟩:∃t,t=L8 (ev (xr++y.vs) E):=⟨_,rfl⟩
   rw[<- ht] at hT k4
   obtain⟨yr,hyr⟩:∃z,z=xr++y.vs:=⟨_,rfl⟩
   rw[<- hyr] at hT hC k4 happ
   obtain⟨Y,hY⟩:∃z,z=B2 yr:=⟨_,rfl⟩
   rw[<- hY] at hT hC happ
   obtain⟨yd',hyd'⟩:∃z,z=y.d:=⟨_,rfl⟩
   rw[<- hyd'] at hC e2
   have hne:(Q++[[D.sl Y]]).isEmpty=false:=by simp
   clear hyr hY hyd' ht htr hdr hk hy g2 hyB
   by_cases h2:t=2
   ·rw[decide_eq_true h2,if_pos rfl] at k4
    subst h2
    have hbd:(Q.length+1)*24<=140737488355328:=by
     have:J.length=ms.length+(1+(R8 E (List.drop (k+1) (A8 B)) xr).length):=by rw[k4];simp;omega
     omega
    repeat' first|refine st ?_|((with_reducible apply A4);conv=>whnf)|refine⟨λ_=>?_,λ_=>?_⟩|fail
    exact⟨k+1,true,W++[yr],rfl,rfl,by rw[happ,hne];first|done|rfl|simp,by omega,by omega,ms++[yr],by rw[k2,S6],by simp,by rw[k4,S6]⟩
   ·rw[decide_eq_false h2,if_neg (by decide),A0J] at k4
    repeat' first|refine st ?_|((with_reducible apply A4);conv=>whnf)|refine⟨λ_=>?_,λ_=>?_⟩|fail
    exact⟨k+1,f,W,rfl,rfl,by rw[hQ];first|done|rfl,by omega,by omega,ms,k2,k3,k4⟩
  |none=>
   have hge:=F2.1 hy
   have hil2:(fs.length:Int)<=k:=by omega
   rw[R5 (by unfold A8;rw[D3];exact hge)] at k4
   have k4:J=ms:=by rw[k4];exact W2 ms
   subst k4
   have hne:(Q++[[D.sl Cz]]).isEmpty=false:=by simp
   clear hy g2
   cases left<;>cases f
   ·have hO:O=[]:=hO
    subst hO
    rw[W2,<- S6,<- k2] at i2
    repeat' first|refine st ?_|((with_reducible apply A4);conv=>whnf)|refine⟨λ_=>?_,λ_=>?_⟩|fail
    exact⟨i+1,W,rfl,rfl,by rw[hQ];first|done|rfl,by omega,by omega,i2⟩
   ·have hO:O=[]:=hO
    subst hO
    rw[W2,<- S6,<- k2] at i2
    repeat' first|refine st ?_|((with_reducible apply A4);conv=>whnf)|refine⟨λ_=>?_,λ_=>?_⟩|fail
    exact⟨i+1,W,rfl,rfl,by rw[hQ];first|done|rfl,by omega,by omega,i2⟩
   ·have hO:O=[Nr]:=by rw[hO,R2,if_pos (show J.isEmpty=true by cases hj:J.isEmpty with|true=>rfl|false=>rw[hj] at k3;cases k3)]
    subst hO
    rw[<- S6,<- S6,<- k2] at i2
    have hbd:(Q.length+1)*24<=140737488355328:=by simp only[H7] at hRl;omega
    repeat' first|refine st ?_|((with_reducible apply A4);conv=>whnf)|refine⟨λ_=>?_,λ_=>?_⟩|fail
    exact⟨i+1,W++[Nr],rfl,rfl,by rw[happ2,hne];first|done|rfl|simp,by omega,by omega,i2⟩
   ·have hO:O=[]:=by rw[hO,R2,if_neg (show ¬J.isEmpty=true from λhj=>by rw[hj] at k3;cases k3)]
    subst hO
    rw[W2,<- S6,<- k2] at i2
    repeat' first|refine st ?_|((with_reducible apply A4);conv=>whnf)|refine⟨λ_=>?_,λ_=>?_⟩|fail
    exact⟨i+1,W,rfl,rfl,by rw[hQ];first|done|rfl,by omega,by omega,i2⟩
 |none=>
  have hge:=F2.1 hx
  have hil:(es.length:Int)<=i:=by omega
  rw[R5 (by unfold A8;rw[D3];exact hge)] at i2
  have i2:R=w:=by rw[i2];exact W2 w
  subst i2
  obtain⟨Q,hQ⟩:∃z,z=rD R:=⟨_,rfl⟩
  rw[<- hQ] at hS ⊢
  obtain⟨b,hb⟩:∃b,b=Q.isEmpty:=⟨_,rfl⟩
  rw[<- hb] at hS ⊢
  clear hx g1 g2 hT hC hCn hN hQ
  cases b
  all_goals skip
  all_goals repeat' first|refine st ?_|((with_reducible apply A4);conv=>whnf)|refine⟨λ_=>?_,λ_=>?_⟩|fail
  all_goals rfl
end Go.Proofs
end
section
namespace Go.Proofs
open Go.Bi
def nnF(rows:List B4)(ar:Int):List Vl:=(rows.map λr=>O3 r ar).filter λv=>!decide (v.k=0)
def E25(s:Int×Int)(v:Vl):Int×Int:=(M3 (s.1+M3 (v.n.tdiv 1048576)),M3 (s.2+v.n.tmod 1048576))
def A4h:Int×Int->List Vl->Int×Int
 |s,[]=>s
 |s,v::r=>A4h (E25 s v) r
def B0g(s:Int×Int):Vl:=
 let h:=M3 (s.1+M3 (s.2.tdiv 1048576))
 let o:=s.2.tmod 1048576
 if h > 1099511627776\/h < -1099511627776 then C5 else Y4 (M3 (h*1048576+o))
def mmS(op:Int)(o v:Vl):Vl:=if (op=3/\b6 v o<0)\/(op=4/\b6 v o > 0) then v else o
def mmL(op:Int):Vl->List Vl->Vl
 |o,[]=>o
 |o,v::r=>mmL op (mmS op o v) r
def B1W(op:Int):List Vl->Vl
 |[]=>C5
 |v::r=>if op=2 then B0g (A4h (0,0) (v::r)) else mmL op v r
def A2j(rows:List B4)(op ar:Int):Vl:=
 if ar<0 then Y4 rows.length else if op=1 then Y4 (nnF rows ar).length else B1W op (nnF rows ar)
theorem E0b{l:List Rw}{i:Nat}{r:Rw}{ar:Int}(h:l[i]?=some r):nnF (A8 (l.take (i+1))) ar=nnF (A8 (l.take i)) ar++if (O3 r.vs ar).k=0 then [] else [O3 r.vs ar]:=by
 unfold nnF A8
 rw[L5,h,A6l,A6l,A0E]
 congr 1
 show List.filter _ [O3 r.vs ar]=_
 by_cases h0:(O3 r.vs ar).k=0
 ·rw[if_pos h0];simp[h0]
 ·rw[if_neg h0];simp[h0]
theorem C77(l:List Rw)(hl:l.length<=4294967296)(op ar:Int)(har:∀r∈l,ar<r.vs.length/\r.vs.length<=4294967296)(dr:D)(hd:B0 dr (B6 l)) :
  Pure Tryz.prog B9F [.d dr,.agg [.d (eI op),.d (eI ar)]] (eV (A2j (A8 l) op ar)):=by
 have hvl:(A8 l).length=l.length:=by unfold A8;rw[D3]
 have l1:=W0 l
 have m1:=X8 l
 have g1:=λi r=>@A1d l i r
 by_cases ha:ar<0
 ·have hI:=A0C (B6 l).length
  have hq:A2j (A8 l) op ar=Y4 ((B6 l).length:Nat):=by unfold A2j;rw[if_pos ha,hvl,l1]
  rw[hq]
  obtain⟨es,hes⟩:∃z,z=B6 l:=⟨_,rfl⟩
  rw[<- hes] at hd l1 m1 g1 hI ⊢
  clear hes hq
  obtain⟨q,hq⟩:∃z,z=Y4 (es.length:Nat):=⟨_,rfl⟩
  rw[<- hq] at hI ⊢
  refine B55.go A6 rfl ?_
  repeat' first|refine st ?_|((with_reducible apply A4);conv=>whnf)|refine⟨λ_=>?_,λ_=>?_⟩|fail
  all_goals rfl
 have hq:A2j (A8 l) op ar=if op=1 then Y4 (nnF (A8 l) ar).length else B1W op (nnF (A8 l) ar):=by unfold A2j;rw[if_neg ha]
 rw[hq]
 clear hq
 obtain⟨q,hq⟩:∃z,z=if op=1 then Y4 (nnF (A8 l) ar).length else B1W op (nnF (A8 l) ar):=⟨_,rfl⟩
 rw[<- hq]
 obtain⟨es,hes⟩:∃z,z=B6 l:=⟨_,rfl⟩
 rw[<- hes] at hd l1 m1 g1
 clear hes
 have ha':0<=ar:=by omega
 refine B55.go A6 rfl ?_
 repeat' first|refine st ?_|((with_reducible apply A4);conv=>whnf)|refine⟨λ_=>?_,λ_=>?_⟩|fail
 refine T5 5 3 rfl rfl ?_
 refine M5 A6 D2z D1e (λ(i:Nat) (w:List Vl)=>[.arr 2 (B2 w).length,.d (eI i)]) (λi w=>[.cells [.d (eI op),.d (eI ar)],.cells [.d (eI 0),.d (eI 0),.d (.str [])],.arr (B2 w) 3 0 (B2 w).isEmpty]) (λi w=>i<=l.length/\w=nnF (A8 (l.take i)) ar) (λi w=>l.length-i) 0 [] rfl rfl rfl rfl (λ_ _ _=>⟨rfl,rfl⟩) rfl ⟨by omega,rfl⟩ ?_
 repeat' first|refine st ?_|((with_reducible apply A4);conv=>whnf)|refine⟨λ_=>?_,λ_=>?_⟩|fail
 intro i w ⟨i1,i2⟩
 have hwl:w.length<=i:=by
  rw[i2]
  refine J2 (A1D ..) ?_
  rw[D3];unfold A8;rw[D3,L6];omega
 have hw1:=Q2 w
 have hwm:=Q3 w
 have hbd:((B2 w).length+1)*32<=140737488355328:=by omega
 cases hx:l[i]? with
 |some r=>
  have hlt:=(B3.1 hx).1
  have hil:(i:Int)<es.length:=by omega
  have e1:es[((i:Nat):Int).toNat]?=some [r.d]:=g1 i r hx
  have⟨h3,h4⟩:=har r (C3 hx)
  have hsl:B0 r.d (B2 r.vs):=C7
  have hvl1:=Q2 r.vs
  have hvm:=Q3 r.vs
  have hg:=B3L (l:=r.vs) ha (by omega)
  have hg:=m6 hg
  have hft:=E0b (ar:=ar) hx
  rw[<- i2] at hft
  obtain⟨v,hv⟩:∃v,v=O3 r.vs ar:=⟨_,rfl⟩
  rw[<- hv] at hg hft
  have happ:B2 (w++[v])=B2 w++[v.ds]:=by simp[B2]
  obtain⟨rd,hrd⟩:∃z,z=r.d:=⟨_,rfl⟩
  rw[<- hrd] at e1 hsl
  obtain⟨fs,hfs⟩:∃z,z=B2 r.vs:=⟨_,rfl⟩
  rw[<- hfs] at hsl hvl1 hvm hg
  have harf:ar<fs.length:=by omega
  obtain⟨A,hA⟩:∃z,z=B2 w:=⟨_,rfl⟩
  rw[<- hA] at hw1 hwm hbd happ ⊢
  clear hq hv hrd hfs i2 hx g1 har
  by_cases h0:v.k=0
  ·rw[if_pos h0,W2] at hft
   have hg:fs[ar.toNat]?=some [eI 0,eI v.n,.str v.s]:=by rw[hg];unfold Vl.ds;rw[h0]
   repeat' first|refine st ?_|((with_reducible apply A4);conv=>whnf)|refine⟨λ_=>?_,λ_=>?_⟩|fail
   exact⟨i+1,w,by rw[hA];rfl,rfl,by rw[hA];first|done|rfl,by omega,by omega,hft.symm⟩
  ·rw[if_neg h0] at hft
   have hg:fs[ar.toNat]?=some [eI v.k,eI v.n,.str v.s]:=hg
   repeat' first|refine st ?_|((with_reducible apply A4);conv=>whnf)|refine⟨λ_=>?_,λ_=>?_⟩|fail
   exact⟨i+1,w++[v],by rw[happ];simp,rfl,by rw[happ];first|done|rfl|simp,by omega,by omega,hft.symm⟩
 |none=>
  have hge:=F2.1 hx
  have hil:(es.length:Int)<=i:=by omega
  rw[H0 hge] at i2
  rw[<- i2] at hq
  have gw:=λk v=>@m6 w k v
  by_cases h1:op=1
  ·rw[if_pos h1] at hq
   subst h1
   have hI:=A0C w.length
   rw[<- hq,<- hw1] at hI
   obtain⟨A,hA⟩:∃z,z=B2 w:=⟨_,rfl⟩
   rw[<- hA] at hw1 hwm hbd hI ⊢
   clear hq hA i2 hx g1 har gw
   repeat' first|refine st ?_|((with_reducible apply A4);conv=>whnf)|refine⟨λ_=>?_,λ_=>?_⟩|fail
   all_goals rfl
  rw[if_neg h1] at hq
  cases w with
  |nil=>
   have hq:q=C5:=hq
   subst hq
   have hN:=S2
   clear i2 hx g1 har gw
   repeat' first|refine st ?_|((with_reducible apply A4);conv=>whnf)|refine⟨λ_=>?_,λ_=>?_⟩|fail
   all_goals rfl
  |cons v t=>
   have hq2:q=if op=2 then B0g (A4h (0,0) (v::t)) else mmL op v t:=hq
   clear hq
   have hwp:0<(v::t).length:=Nat.succ_pos _
   have g0:(B2 (v::t))[0]?=some [eI v.k,eI v.n,.str v.s]:=rfl
   have hAe:(B2 (v::t)).isEmpty=false:=rfl
   by_cases h2:op=2
   ·rw[if_pos h2] at hq2
    subst h2
    obtain⟨w,hw⟩:∃z,z=v::t:=⟨_,rfl⟩
    rw[<- hw] at hq2 hw1 hwm hbd gw hwl hwp hAe ⊢
    obtain⟨A,hA⟩:∃z,z=B2 w:=⟨_,rfl⟩
    rw[<- hA] at hw1 hwm hbd gw hAe ⊢
    clear hA i2 hx g1 har hw g0
    repeat' first|refine st ?_|((with_reducible apply A4);conv=>whnf)|refine⟨λ_=>?_,λ_=>?_⟩|fail
    refine A6b A6 D2A D1f (λ(k:Nat) (a b:Int)=>[.d (eI a),.d (eI b),.d (eI k)]) (λk a b=>[.cells [.d (eI 2),.d (eI ar)],.cells [.d (eI 0),.d (eI 0),.d (.str [])],.arr A 3 0 A.isEmpty]) (λk a b=>k<=w.length/\A4h (0,0) w=A4h (a,b) (w.drop k)) (λk a b=>w.length-k) 0 0 0 rfl rfl rfl rfl (λ_ _ _ _=>⟨rfl,rfl⟩) rfl ⟨by omega,rfl⟩ ?_
    repeat' first|refine st ?_|((with_reducible apply A4);conv=>whnf)|refine⟨λ_=>?_,λ_=>?_⟩|fail
    intro k a b ⟨k1,k2⟩
    cases hy:w[k]? with
    |some y=>
     have hlt2:=(B3.1 hy).1
     have hil2:(k:Int)<A.length:=by omega
     have e2:A[((k:Nat):Int).toNat]?=some [eI y.k,eI y.n,.str y.s]:=gw k y hy
     obtain⟨j1,j2⟩:=B3.1 hy
     rw[R4 j1,j2] at k2
     have k2:A4h (0,0) w=A4h (M3 (a+M3 (y.n.tdiv 1048576)),M3 (b+y.n.tmod 1048576)) (w.drop (k+1)):=k2
     clear hy j2 gw hq2
     repeat' first|refine st ?_|((with_reducible apply A4);conv=>whnf)|(apply WrK.mk)|refine⟨λ_=>?_,λ_=>?_⟩|fail
     exact⟨k+1,_,_,rfl,rfl,rfl,by omega,by omega,k2⟩
    |none=>
     have hge2:=F2.1 hy
     have hil2:(A.length:Int)<=k:=by omega
     rw[R5 hge2] at k2
     have hq2:q=if M3 (a+M3 (b.tdiv 1048576)) > 1099511627776\/M3 (a+M3 (b.tdiv 1048576)) < -1099511627776 then C5 else Y4 (M3 (M3 (a+M3 (b.tdiv 1048576))*1048576+b.tmod 1048576)):=by rw[hq2,k2];rfl
     clear hy gw k2
     have hN:=S2
     have hI:=A0C (M3 (M3 (a+M3 (b.tdiv 1048576))*1048576+b.tmod 1048576))
     by_cases c1:M3 (a+M3 (b.tdiv 1048576)) > 1099511627776
     ·rw[if_pos (.inl c1)] at hq2
      subst hq2
      unfold M3 at c1
      repeat' first|refine st ?_|((with_reducible apply A4);conv=>whnf)|(apply WrK.mk)|refine⟨λ_=>?_,λ_=>?_⟩|fail
      all_goals rfl
     by_cases c2:M3 (a+M3 (b.tdiv 1048576)) < -1099511627776
     ·rw[if_pos (.inr c2)] at hq2
      subst hq2
      unfold M3 at c1 c2
      repeat' first|refine st ?_|((with_reducible apply A4);conv=>whnf)|(apply WrK.mk)|refine⟨λ_=>?_,λ_=>?_⟩|fail
      all_goals rfl
     ·rw[if_neg (λh=>h.elim c1 c2)] at hq2
      rw[<- hq2] at hI
      unfold M3 at c1 c2 hI
      repeat' first|refine st ?_|((with_reducible apply A4);conv=>whnf)|(apply WrK.mk)|refine⟨λ_=>?_,λ_=>?_⟩|fail
      all_goals rfl
   ·rw[if_neg h2] at hq2
    obtain⟨w,hw⟩:∃z,z=v::t:=⟨_,rfl⟩
    have hqd:q=mmL op v (w.drop 1):=by rw[hw];exact hq2
    rw[<- hw] at hw1 hwm hbd gw hwl hwp hAe g0 ⊢
    obtain⟨A,hA⟩:∃z,z=B2 w:=⟨_,rfl⟩
    rw[<- hA] at hw1 hwm hbd gw hAe g0 ⊢
    have hAp:(0:Int)<A.length:=by omega
    have g0:A[((0:Nat):Int).toNat]?=some [eI v.k,eI v.n,.str v.s]:=g0
    clear hA i2 hx g1 har hw hq2
    repeat' first|refine st ?_|((with_reducible apply A4);conv=>whnf)|refine⟨λ_=>?_,λ_=>?_⟩|fail
    refine M5 A6 D2B D1g (λ(k:Nat) (o:Vl)=>[.d (eI k)]) (λk o=>[.cells [.d (eI op),.d (eI ar)],.cells [.d (eI 0),.d (eI 0),.d (.str [])],.arr A 3 0 A.isEmpty,.cells [.d (eI o.k),.d (eI o.n),.d (.str o.s)]]) (λk o=>k<=w.length/\q=mmL op o (w.drop k)) (λk o=>w.length-k) 1 v rfl rfl rfl rfl (λ_ _ _=>⟨rfl,rfl⟩) rfl ⟨by omega,hqd⟩ ?_
    repeat' first|refine st ?_|((with_reducible apply A4);conv=>whnf)|refine⟨λ_=>?_,λ_=>?_⟩|fail
    intro k o ⟨k1,k2⟩
    cases hy:w[k]? with
    |some y=>
     have hlt2:=(B3.1 hy).1
     have hil2:(k:Int)<A.length:=by omega
     have e2:A[((k:Nat):Int).toNat]?=some [eI y.k,eI y.n,.str y.s]:=gw k y hy
     obtain⟨j1,j2⟩:=B3.1 hy
     rw[R4 j1,j2] at k2
     have k2:q=mmL op (mmS op o y) (w.drop (k+1)):=k2
     have hC:=A8i y o
     unfold mmS at k2
     obtain⟨c,hc⟩:∃z,z=b6 y o:=⟨_,rfl⟩
     rw[<- hc] at hC k2
     clear hy j2 gw hc hqd g0
     by_cases h3:(op=3/\c<0)\/(op=4/\c > 0)
     ·rw[if_pos h3] at k2
      rcases h3 with ⟨rfl,h3⟩|⟨rfl,h3⟩
      all_goals skip
      all_goals repeat' first|refine st ?_|((with_reducible apply A4);conv=>whnf)|refine⟨λ_=>?_,λ_=>?_⟩|fail
      all_goals exact⟨k+1,y,rfl,rfl,rfl,by omega,by omega,k2⟩
     ·rw[if_neg h3] at k2
      by_cases o3:op=3
      ·have h4:¬c<0:=λh=>h3 (.inl ⟨o3,h⟩)
       subst o3
       clear h3
       repeat' first|refine st ?_|((with_reducible apply A4);conv=>whnf)|refine⟨λ_=>?_,λ_=>?_⟩|fail
       all_goals exact⟨k+1,o,rfl,rfl,rfl,by omega,by omega,k2⟩
      ·by_cases o4:op=4
       ·have h4:¬c > 0:=λh=>h3 (.inr ⟨o4,h⟩)
        subst o4
        clear h3
        repeat' first|refine st ?_|((with_reducible apply A4);conv=>whnf)|refine⟨λ_=>?_,λ_=>?_⟩|fail
        all_goals exact⟨k+1,o,rfl,rfl,rfl,by omega,by omega,k2⟩
       ·clear h3
        repeat' first|refine st ?_|((with_reducible apply A4);conv=>whnf)|refine⟨λ_=>?_,λ_=>?_⟩|fail
        all_goals exact⟨k+1,o,rfl,rfl,rfl,by omega,by omega,k2⟩
    |none=>
     have hge2:=F2.1 hy
     have hil2:(A.length:Int)<=k:=by omega
     rw[R5 hge2] at k2
     have k2:q=o:=k2
     subst k2
     clear hy gw hqd g0
     repeat' first|refine st ?_|((with_reducible apply A4);conv=>whnf)|refine⟨λ_=>?_,λ_=>?_⟩|fail
     all_goals rfl
end Go.Proofs
end
section
namespace Go.Proofs
open Go.Bi
def R3(key:B4)(rows:List B4)(ag:List Ag):B4:=key++ag.map λa=>A2j rows a.op a.arg
theorem B0M(key:B4)(hk:key.length<=4294967296)(dk:D)(hdk:B0 dk (B2 key))(l:List Rw)(hl:l.length<=4294967296)(dr:D)(hdr:B0 dr (B6 l))(ag:List Ag)(ha:ag.length<=4294967296)(har:∀a∈ag,∀r∈l,a.arg<r.vs.length/\r.vs.length<=4294967296)(da:D)(hda:B0 da (H4 ag)) :
  Pure Tryz.prog B1x [.d dk,.d dr,.d da] (.d (.sl (B2 (R3 key (A8 l) ag)))):=by
 have hA:=λ(a:Ag) (h:a∈ag)=>C77 l hl a.op a.arg (har a h) dr hdr
 have l1:=A5u ag
 have m1:=A70 ag
 have g1:=λi e=>@B2f ag i e
 obtain⟨es,hes⟩:∃z,z=H4 ag:=⟨_,rfl⟩
 rw[<- hes] at hda l1 m1 g1
 have l2:=Q2 key
 have m2:=Q3 key
 have hst:B2 (R3 key (A8 l) (ag.take 0))=B2 key:=by unfold R3;rw[List.take_zero,V5,W2]
 have hlen:∀i,i<=ag.length->(B2 (R3 key (A8 l) (ag.take i))).length=key.length+i:=λi h=>by
  rw[Q2];unfold R3;rw[H3,D3,L6];omega
 obtain⟨fs,hfs⟩:∃z,z=B2 key:=⟨_,rfl⟩
 rw[<- hfs] at hdk l2 m2 hst
 obtain⟨q,hq⟩:∃z,z=B2 (R3 key (A8 l) ag):=⟨_,rfl⟩
 rw[<- hq]
 clear hes hfs har
 have hb:(([]:List (List D)).length+fs.length)*32<=140737488355328/\([]:List (List D)).length+fs.length<=9223372036854775807:=by simp;omega
 refine C9q.go A6 rfl ?_
 repeat' first|refine st ?_|((with_reducible apply A4);conv=>whnf)|refine⟨λ_=>?_,λ_=>?_⟩|fail
 refine M5 A6 D2U D1z (λ(i:Nat) (w:List (List D))=>[.arr 0 w.length,.d (eI i)]) (λi w=>[.arr w 3 0 false]) (λi w=>i<=ag.length/\w=B2 (R3 key (A8 l) (ag.take i))) (λi w=>ag.length-i) 0 fs (by first|rfl|simp) (by first|rfl|simp) (by first|rfl|simp) (by first|rfl|simp) (λ_ _ _=>⟨rfl,rfl⟩) rfl ⟨by omega,hst.symm⟩ ?_
 repeat' first|refine st ?_|((with_reducible apply A4);conv=>whnf)|refine⟨λ_=>?_,λ_=>?_⟩|fail
 intro i w ⟨i1,i2⟩
 have hwl:w.length=key.length+i:=by rw[i2];exact hlen i i1
 have hwm:∀e∈w,e.length=3:=by rw[i2];exact Q3 _
 have hbd:(w.length+1)*32<=140737488355328:=by omega
 cases hi:ag[i]? with
 |some a=>
  have hlt:=(B3.1 hi).1
  have hil:(i:Int)<es.length:=by omega
  have hg:es[((i:Nat):Int).toNat]?=some [eI a.op,eI a.arg]:=g1 i a hi
  have hA:=hA a (C3 hi)
  have i3:w++[(A2j (A8 l) a.op a.arg).ds]=B2 (R3 key (A8 l) (ag.take (i+1))):=by
   rw[i2,L5,hi];simp[R3,B2]
  obtain⟨v,hv⟩:∃v,v=A2j (A8 l) a.op a.arg:=⟨_,rfl⟩
  rw[<- hv] at hA i3
  clear hv i2 hi g1 hlen hst hq
  repeat' first|refine st ?_|((with_reducible apply A4);conv=>whnf)|refine⟨λ_=>?_,λ_=>?_⟩|fail
  exact⟨i+1,w++[v.ds],by simp,rfl,by first|rfl|simp,by omega,by omega,i3⟩
 |none=>
  have hge:=F2.1 hi
  have hil:(es.length:Int)<=i:=by omega
  rw[H0 hge,<- hq] at i2
  subst i2
  clear hi g1 hq
  repeat' first|refine st ?_|((with_reducible apply A4);conv=>whnf)|refine⟨λ_=>?_,λ_=>?_⟩|fail
  all_goals rfl
structure Kd where
 key:B4
 rw:Rw
def G7(l:List Kd):List (List D):=l.map λx=>[.sl (B2 x.key),x.rw.d]
theorem A4E(l:List Kd):(G7 l).length=l.length:=by simp[G7]
theorem A5w(l:List Kd):∀e∈G7 l,e.length=2:=by
 intro e he
 obtain⟨x,_,rfl⟩:=D9.1 he
 rfl
theorem D8k{l:List Kd}{i:Nat}{x:Kd}(h:l[i]?=some x):(G7 l)[i]?=some [.sl (B2 x.key),x.rw.d]:=by simp[G7,h]
theorem A73(l m:List Kd):G7 (l++m)=G7 l++G7 m:=by simp[G7]
theorem D8l(l:List Kd)(i:Nat):(G7 l).take i=G7 (l.take i):=by simp[G7]
theorem D8j(l:List Kd)(i:Nat):(G7 l).drop i=G7 (l.drop i):=by simp[G7]
def u5:List Kd->List Kd->List Kd
 |[],b=>b
 |a,[]=>a
 |x::a,y::b=>if K0 y.key x.key<0 then y::u5 (x::a) b else x::u5 a (y::b)
termination_by a b=>a.length+b.length
theorem C3S(a:List Kd):u5 a []=a:=by cases a<;>simp[u5]
theorem A7t:∀(n:Nat)(a b:List Kd),a.length+b.length<=n->(u5 a b).length=a.length+b.length
 |_,[],b,_=>by simp[u5]
 |_,x::a,[],_=>by simp[u5]
 |0,x::a,y::b,h=>by simp at h
 |n+1,x::a,y::b,h=>by
  rw[u5]
  simp only[H7] at h
  split
  ·rw[H7,A7t n _ _ (by simp only[H7];omega)];simp only[H7];omega
  ·rw[H7,A7t n _ _ (by simp only[H7];omega)];simp only[H7];omega
theorem B2S:∀(n:Nat)(a b:List Kd),a.length+b.length<=n->∀x,x∈u5 a b->x∈a\/x∈b
 |_,[],b,_,x,h=>by rw[u5] at h;exact .inr h
 |_,y::a,[],_,x,h=>by rw[C3S] at h;exact .inl h
 |0,y::a,z::b,h,_,_=>by simp at h
 |n+1,y::a,z::b,h,x,hx=>by
  simp only[H7] at h
  rw[u5] at hx
  split at hx
  ·rcases I2.1 hx with rfl|hx
   ·exact .inr (by simp)
   ·rcases B2S n _ _ (by simp only[H7];omega) x hx with h1|h1
    ·exact .inl h1
    ·exact .inr (I8 _ h1)
  ·rcases I2.1 hx with rfl|hx
   ·exact .inl (by simp)
   ·rcases B2S n _ _ (by simp only[H7];omega) x hx with h1|h1
    ·exact .inl (I8 _ h1)
    ·exact .inr h1
def M9(l:List Kd):List Kd:=if h:l.length<=1 then l else u5 (M9 (l.take (l.length / 2))) (M9 (l.drop (l.length / 2)))
termination_by l.length
decreasing_by
 ·rw[L6];omega
 ·rw[Y6];omega
theorem A49:∀(n:Nat)(l:List Kd),l.length<=n->(M9 l).length=l.length
 |0,l,h=>by rw[M9,dif_pos (by omega)]
 |n+1,l,h=>by
  rw[M9]
  split
  ·rfl
  ·rw[A7t _ _ _ (D4 _),A49 n _ (by rw[L6];omega),A49 n _ (by rw[Y6];omega),L6,Y6];omega
theorem A4a:∀(n:Nat)(l:List Kd),l.length<=n->∀x,x∈M9 l->x∈l
 |0,l,h,x,hx=>by rw[M9,dif_pos (by omega)] at hx;exact hx
 |n+1,l,h,x,hx=>by
  rw[M9] at hx
  split at hx
  ·exact hx
  ·rcases B2S _ _ _ (D4 _) x hx with h1|h1
   ·exact A2Y (A4a n _ (by rw[L6];omega) x h1)
   ·exact A2X (A4a n _ (by rw[Y6];omega) x h1)
theorem C7p:Pure Tryz.prog A8H [.d .nil] (.d .nil):=by
 refine A8p.go A6 rfl ?_
 repeat' first|refine st ?_|((with_reducible apply A4);conv=>whnf)|refine⟨λ_=>?_,λ_=>?_⟩|fail
 all_goals rfl
theorem C25{A B C:List (List D)}(h:0<C.length+A.length+B.length):AV.d (w7 (bif B.isEmpty then bif A.isEmpty then C.isEmpty else false else false) D.nil (D.sl (C++A++B)))=AV.d (D.sl (C++A++B)):=by
 cases A<;>cases B<;>cases C<;>first|rfl|(simp at h)
theorem C7o:∀(n:Nat)(l:List Kd),l.length<=n->n<=4294967296->(∀r∈l,r.key.length<=4294967296)->Pure Tryz.prog A8H [.d (.sl (G7 l))] (.d (.sl (G7 (M9 l)))):=by
 intro n
 induction n with
 |zero=>
  intro l hn _ _
  have hl:l=[]:=A0H.1 (by omega)
  subst hl
  have h1:(G7 []).length=0:=rfl
  rw[show M9 []=[] by rw[M9,dif_pos (by decide)]]
  refine A8p.go A6 rfl ?_
  repeat' first|refine st ?_|((with_reducible apply A4);conv=>whnf)|refine⟨λ_=>?_,λ_=>?_⟩|fail
  all_goals rfl
 |succ n ih=>
  intro l hn hN hr
  have h1:=A4E l
  have hm:=A5w l
  by_cases h2:l.length<=1
  ·rw[show M9 l=l by rw[M9,dif_pos h2]]
   obtain⟨es,hes⟩:∃z,z=G7 l:=⟨_,rfl⟩
   rw[<- hes] at h1 hm ⊢
   refine A8p.go A6 rfl ?_
   repeat' first|refine st ?_|((with_reducible apply A4);conv=>whnf)|refine⟨λ_=>?_,λ_=>?_⟩|fail
   all_goals rfl
  have hm2:((l.length:Nat):Int).tdiv 2=((l.length / 2:Nat):Int):=by rw[A8u (by omega)];omega
  obtain⟨m,hmm⟩:∃m,m=l.length / 2:=⟨_,rfl⟩
  rw[<- hmm] at hm2
  have hml:m<=l.length:=by omega
  have hA:=ih (l.take m) (by rw[L6];omega) (by omega) (λr h=>hr r (A2Y h))
  have hB:=ih (l.drop m) (by rw[Y6];omega) (by omega) (λr h=>hr r (A2X h))
  rw[show G7 (l.take m)=((G7 l).drop (0:Int).toNat).take ((m:Int).toNat-(0:Int).toNat) by rw[show((m:Int).toNat-(0:Int).toNat)=m by simp,<- D8l];rfl] at hA
  rw[show G7 (l.drop m)=((G7 l).drop (m:Int).toNat).take ((l.length:Int).toNat-(m:Int).toNat) by
   rw[show((l.length:Int).toNat-(m:Int).toNat)=l.length-m by simp,show(m:Int).toNat=m from Int.toNat_natCast m,H0 (by rw[Y6,A4E];omega),D8j]] at hB
  have n1:=A49 _ (l.take m) (D4 _)
  have n2:=A49 _ (l.drop m) (D4 _)
  rw[L6] at n1
  rw[Y6] at n2
  have r1:∀r∈M9 (l.take m),r.key.length<=4294967296:=λr h=>hr r (A2Y (A4a _ _ (D4 _) r h))
  have r2:∀r∈M9 (l.drop m),r.key.length<=4294967296:=λr h=>hr r (A2X (A4a _ _ (D4 _) r h))
  rw[show M9 l=u5 (M9 (l.take m)) (M9 (l.drop m)) by rw[M9,dif_neg h2,<- hmm]]
  obtain⟨X,hX⟩:∃z,z=M9 (l.take m):=⟨_,rfl⟩
  obtain⟨Y,hY⟩:∃z,z=M9 (l.drop m):=⟨_,rfl⟩
  rw[<- hX] at hA n1 r1 ⊢
  rw[<- hY] at hB n2 r2 ⊢
  clear hX hY hr ih
  obtain⟨Q,hQ⟩:∃z,z=u5 X Y:=⟨_,rfl⟩
  rw[<- hQ]
  obtain⟨es,hes⟩:∃z,z=G7 l:=⟨_,rfl⟩
  rw[<- hes] at hA hB h1 hm ⊢
  rw[<- h1] at hm2 hB
  have hml:(m:Int)<=es.length:=by omega
  have h00:¬(es.length:Int)<2:=by omega
  clear hes
  refine A8p.go A6 rfl ?_
  repeat' first|(rw[hm2])|refine st ?_|((with_reducible apply A4);conv=>whnf)|refine⟨λ_=>?_,λ_=>?_⟩|fail
  refine T5 5 2 rfl rfl ?_
  refine A6b A6 D2V D1A (λ(x y w:List Kd)=>[.d (.sl (G7 x)),.d (.sl (G7 y)),.arr 2 (G7 w).length]) (λx y w=>[.hole,.hole,.arr (G7 w) 2 0 (G7 w).isEmpty]) (λx y w=>Q=w++u5 x y/\(∀r∈x,r.key.length<=4294967296)/\(∀r∈y,r.key.length<=4294967296)) (λx y w=>x.length+y.length) X Y [] rfl rfl rfl rfl (λ_ _ _ _=>⟨rfl,rfl⟩) rfl ⟨hQ,r1,r2⟩ ?_
  repeat' first|refine st ?_|((with_reducible apply A4);conv=>whnf)|refine⟨λ_=>?_,λ_=>?_⟩|fail
  intro x y w ⟨i1,i2,i3⟩
  have hQl:w.length+x.length+y.length=Q.length:=by
   rw[i1,H3,A7t _ _ _ (D4 _)];omega
  have hQn:Q.length<=4294967296/\2<=Q.length:=by
   rw[hQ,A7t _ _ _ (D4 _)]
   omega
  have w1:=A4E w
  have wm:=A5w w
  have x1:=A4E x
  have y1:=A4E y
  have xm:=A5w x
  have ym:=A5w y
  have hbw:((G7 w).length+1)*48<=140737488355328:=by omega
  cases x with
  |nil=>
   rw[u5] at i1
   have hz:G7 Q=G7 w++G7 []++G7 y:=by rw[i1,A73];simp[G7]
   rw[hz]
   clear i1 i2 i3 hQ hz
   obtain⟨A,hA⟩:∃z,z=G7 []:=⟨_,rfl⟩
   obtain⟨B,hB⟩:∃z,z=G7 y:=⟨_,rfl⟩
   obtain⟨C,hC⟩:∃z,z=G7 w:=⟨_,rfl⟩
   rw[<- hA] at x1 xm ⊢
   rw[<- hB] at y1 ym ⊢
   rw[<- hC] at w1 wm hbw ⊢
   have x1:A.length=0:=x1
   have b1:(C.length+A.length)*48<=140737488355328/\C.length+A.length<=9223372036854775807:=by omega
   have b2:(C.length+A.length+B.length)*48<=140737488355328/\C.length+A.length+B.length<=9223372036854775807:=by simp only[k9] at hQl;omega
   have b3:((C++A).length+B.length)*48<=140737488355328/\(C++A).length+B.length<=9223372036854775807:=by rw[H3];omega
   repeat' first|refine st ?_|((with_reducible apply A4);conv=>whnf)|refine⟨λ_=>?_,λ_=>?_⟩|fail
   exact C25 (by simp only[k9] at hQl;omega)
  |cons a x=>
   cases y with
   |nil=>
    rw[C3S] at i1
    have hz:G7 Q=G7 w++G7 (a::x)++G7 []:=by rw[i1,A73];simp[G7]
    rw[hz]
    clear i1 i2 i3 hQ hz
    obtain⟨A,hA⟩:∃z,z=G7 (a::x):=⟨_,rfl⟩
    obtain⟨B,hB⟩:∃z,z=G7 []:=⟨_,rfl⟩
    obtain⟨C,hC⟩:∃z,z=G7 w:=⟨_,rfl⟩
    rw[<- hA] at x1 xm ⊢
    rw[<- hB] at y1 ym ⊢
    rw[<- hC] at w1 wm hbw ⊢
    have y1:B.length=0:=y1
    have b1:(C.length+A.length)*48<=140737488355328/\C.length+A.length<=9223372036854775807:=by omega
    have b2:(C.length+A.length+B.length)*48<=140737488355328/\C.length+A.length+B.length<=9223372036854775807:=by omega
    have b3:((C++A).length+B.length)*48<=140737488355328/\(C++A).length+B.length<=9223372036854775807:=by rw[H3];omega
    repeat' first|refine st ?_|((with_reducible apply A4);conv=>whnf)|refine⟨λ_=>?_,λ_=>?_⟩|fail
    all_goals exact C25 (by omega)
   |cons b y=>
    have ea:(G7 (a::x))[0]?=some [.sl (B2 a.key),a.rw.d]:=rfl
    have eb:(G7 (b::y))[0]?=some [.sl (B2 b.key),b.rw.d]:=rfl
    have hC:=A8j b.key a.key (i3 b (by simp)) (i2 a (by simp)) _ _ (.inr rfl) (.inr rfl)
    rw[u5] at i1
    obtain⟨c,hc⟩:∃c,c=K0 b.key a.key:=⟨_,rfl⟩
    rw[<- hc] at hC i1
    have ta:((G7 (a::x)).drop (1:Int).toNat).take (((G7 (a::x)).length:Int).toNat-(1:Int).toNat)=G7 x:=by rw[H0 (by simp[G7])];rfl
    have tb:((G7 (b::y)).drop (1:Int).toNat).take (((G7 (b::y)).length:Int).toNat-(1:Int).toNat)=G7 y:=by rw[H0 (by simp[G7])];rfl
    have x1:(G7 (a::x)).length=x.length+1:=x1
    have y1:(G7 (b::y)).length=y.length+1:=y1
    obtain⟨A,hA⟩:∃z,z=G7 (a::x):=⟨_,rfl⟩
    obtain⟨B,hB⟩:∃z,z=G7 (b::y):=⟨_,rfl⟩
    obtain⟨C,hCw⟩:∃z,z=G7 w:=⟨_,rfl⟩
    rw[<- hA] at x1 xm ea ta ⊢
    rw[<- hB] at y1 ym eb tb ⊢
    rw[<- hCw] at w1 wm hbw ⊢
    have hpa:(0:Int)<A.length:=by omega
    have hpb:(0:Int)<B.length:=by omega
    by_cases h0:c<0
    ·rw[if_pos h0] at i1
     clear hc hQ
     repeat' first|refine st ?_|((with_reducible apply A4);conv=>whnf)|refine⟨λ_=>?_,λ_=>?_⟩|fail
     rw[tb,hA]
     have hw:G7 (w++[b])=C++[[.sl (B2 b.key),b.rw.d]]:=by rw[A73,hCw];rfl
     exact⟨a::x,y,w++[b],by rw[hw],rfl,by rw[hw];simp,by simp only[H7];omega,by rw[i1,S6];rfl,i2,λr h=>i3 r (I8 _ h)⟩
    ·rw[if_neg h0] at i1
     clear hc hQ
     repeat' first|refine st ?_|((with_reducible apply A4);conv=>whnf)|refine⟨λ_=>?_,λ_=>?_⟩|fail
     rw[ta,hB]
     have hw:G7 (w++[a])=C++[[.sl (B2 a.key),a.rw.d]]:=by rw[A73,hCw];rfl
     exact⟨x,b::y,w++[a],by rw[hw],rfl,by rw[hw];simp,by simp only[H7];omega,by rw[i1,S6];rfl,λr h=>i2 r (I8 _ h),i3⟩
end Go.Proofs
end
section
namespace Go.Proofs
open Go.Bi
def u0(ks:List Int)(k:Int):Int:=(ks[k.toNat]?).getD 0
theorem A9z{ks:List Int}{k:Int}(h:¬k<0)(h2:¬(ks.length:Int)<=k):ks[k.toNat]?=some (u0 ks k):=by
 unfold u0
 rw[F1 (by omega)];rfl
def agK(ks:List Int)(a:Ag):Int×Int:=
 if a.op=1\/a.op=2\/a.op=3\/a.op=4 then
  if a.arg=-1/\a.op=1 then (1,0)
  else if a.arg<0\/ks.length<=a.arg then (0,6)
  else if a.op=2/\u0 ks a.arg≠1 then (0,7)
  else if a.op=3\/a.op=4 then (u0 ks a.arg,0) else (1,0)
 else (0,7)
def A1V(ks:List Int):List Int->List Ag->List Int×Int
 |w,[]=>(w,0)
 |w,a::r=>if (agK ks a).2=0 then A1V ks (w++[(agK ks a).1]) r else ([],(agK ks a).2)
def A0r(ks:List Int)(ags:List Ag):List Int->List Int->List Int×Int
 |w,[]=>A1V ks w ags
 |w,k::r=>if k<0\/ks.length<=k then ([],6) else A0r ks ags (w++[u0 ks k]) r
def Q6(ks keys:List Int)(ags:List Ag):List Int×Int:=A0r ks ags [] keys
theorem B4B(ks:List Int)(hks:ks.length<=1073741824)(dk:D)(hdk:B0 dk (A5 ks))(keys:List Int)(hkl:keys.length<=1073741824)(dy:D)(hdy:B0 dy (A5 keys))(ags:List Ag)(hal:ags.length<=1073741824)(da:D)(hda:B0 da (H4 ags)) :
  Pure Tryz.prog B9M [.d dk,.d dy,.d da] (.tup [.d (Y2 (A5 (Q6 ks keys ags).1).isEmpty (A5 (Q6 ks keys ags).1)),.d (eI (Q6 ks keys ags).2)]):=by
 have l1:=G4 ks
 have m1:=I0 ks
 have g1:=λi r=>@Q1 ks i r
 obtain⟨es,hes⟩:∃z,z=A5 ks:=⟨_,rfl⟩
 rw[<- hes] at hdk l1 m1 g1
 have l2:=G4 keys
 have m2:=I0 keys
 have g2:=λi r=>@Q1 keys i r
 obtain⟨fs,hfs⟩:∃z,z=A5 keys:=⟨_,rfl⟩
 rw[<- hfs] at hdy l2 m2 g2
 have l3:=A5u ags
 have m3:=A70 ags
 have g3:=λi r=>@B2f ags i r
 obtain⟨gs,hgs⟩:∃z,z=H4 ags:=⟨_,rfl⟩
 rw[<- hgs] at hda l3 m3 g3
 clear hes hfs hgs
 obtain⟨q,hq⟩:∃q,q=Q6 ks keys ags:=⟨_,rfl⟩
 rw[<- hq]
 have hq:q=A0r ks ags [] keys:=hq
 refine C9e.go A6 rfl ?_
 repeat' first|refine st ?_|((with_reducible apply A4);conv=>whnf)|refine⟨λ_=>?_,λ_=>?_⟩|fail
 refine T5 8 1 rfl rfl ?_
 refine M5 A6 D2H D1m (λ(i:Nat) (w:List Int)=>[.arr 0 (A5 w).length,.d (eI i)]) (λi w=>[.arr (A5 w) 1 0 (A5 w).isEmpty]) (λi w=>i<=keys.length/\w.length=i/\q=A0r ks ags w (keys.drop i)) (λi w=>keys.length-i) 0 [] rfl rfl rfl rfl (λ_ _ _=>⟨rfl,rfl⟩) rfl ⟨by omega,rfl,hq⟩ ?_
 repeat' first|refine st ?_|((with_reducible apply A4);conv=>whnf)|refine⟨λ_=>?_,λ_=>?_⟩|fail
 intro i w ⟨i1,i2,i3⟩
 clear hq
 have hw1:=G4 w
 have hwm:=I0 w
 have hbd:((A5 w).length+1)*8<=140737488355328:=by omega
 have happ:=λk:Int=>show A5 (w++[k])=A5 w++[[eI k]] by simp[A5]
 have hne:=λk:Int=>show(A5 (w++[k])).isEmpty=false by simp[A5]
 cases hi:keys[i]? with
 |some k=>
  have hlt:=(B3.1 hi).1
  have hil:(i:Int)<fs.length:=by omega
  have hg:fs[((i:Nat):Int).toNat]?=some [eI k]:=g2 i k hi
  have dx':keys.drop i=k::keys.drop (i+1):=by rw[R4 hlt,(B3.1 hi).2]
  rw[dx',A0r] at i3
  obtain⟨A,hA⟩:∃z,z=A5 w:=⟨_,rfl⟩
  rw[<- hA] at hw1 hwm hbd ⊢
  by_cases h1:k<0
  ·rw[if_pos (.inl h1)] at i3
   subst i3
   clear hi g2 hA happ hne g1 g3 dx'
   repeat' first|refine st ?_|((with_reducible apply A4);conv=>whnf)|refine⟨λ_=>?_,λ_=>?_⟩|fail
   all_goals rfl
  by_cases h2:(ks.length:Int)<=k
  ·rw[if_pos (.inr h2)] at i3
   subst i3
   clear hi g2 hA happ hne g1 g3 dx'
   have h2:(es.length:Int)<=k:=by omega
   repeat' first|refine st ?_|((with_reducible apply A4);conv=>whnf)|refine⟨λ_=>?_,λ_=>?_⟩|fail
   all_goals rfl
  ·rw[if_neg (λh=>h.elim h1 h2)] at i3
   have hk:=g1 _ _ (A9z h1 h2)
   have happ:=happ (u0 ks k)
   have hne:=hne (u0 ks k)
   rw[<- hA] at happ
   obtain⟨v,hv⟩:∃z,z=u0 ks k:=⟨_,rfl⟩
   rw[<- hv] at hk happ hne i3
   have h2:¬(es.length:Int)<=k:=by omega
   clear hi g2 g1 g3 dx' hv
   repeat' first|refine st ?_|((with_reducible apply A4);conv=>whnf)|refine⟨λ_=>?_,λ_=>?_⟩|fail
   exact⟨i+1,w++[v],by rw[happ];simp,rfl,by rw[hne,happ];simp,by omega,by omega,by simp;omega,i3⟩
 |none=>
  have hge:=F2.1 hi
  have hil:(fs.length:Int)<=i:=by omega
  rw[R5 hge,A0r] at i3
  clear hi g2 happ hne
  repeat' first|refine st ?_|((with_reducible apply A4);conv=>whnf)|refine⟨λ_=>?_,λ_=>?_⟩|fail
  refine M5 A6 D2I D1n (λ(j:Nat) (u:List Int)=>[.arr 0 (A5 u).length,.d (eI j)]) (λj u=>[.arr (A5 u) 1 0 (A5 u).isEmpty]) (λj u=>j<=ags.length/\u.length=i+j/\q=A1V ks u (ags.drop j)) (λj u=>ags.length-j) 0 w rfl rfl rfl rfl (λ_ _ _=>⟨rfl,rfl⟩) rfl ⟨by omega,by omega,i3⟩ ?_
  repeat' first|refine st ?_|((with_reducible apply A4);conv=>whnf)|refine⟨λ_=>?_,λ_=>?_⟩|fail
  intro j u ⟨j1,j2,j3⟩
  clear hw1 hwm hbd i3
  have hu1:=G4 u
  have hum:=I0 u
  have hbd:((A5 u).length+1)*8<=140737488355328:=by omega
  have happ:=λk:Int=>show A5 (u++[k])=A5 u++[[eI k]] by simp[A5]
  have hne:=λk:Int=>show(A5 (u++[k])).isEmpty=false by simp[A5]
  obtain⟨A,hA⟩:∃z,z=A5 u:=⟨_,rfl⟩
  rw[<- hA] at hu1 hum hbd ⊢
  cases hj:ags[j]? with
  |some a=>
   have hlt:=(B3.1 hj).1
   have hjl:(j:Int)<gs.length:=by omega
   have hg:gs[((j:Nat):Int).toNat]?=some [eI a.op,eI a.arg]:=g3 j a hj
   have dx':ags.drop j=a::ags.drop (j+1):=by rw[R4 hlt,(B3.1 hj).2]
   rw[dx',A1V] at j3
   have hgk:=λh1 h2=>g1 _ _ (A9z (ks:=ks) (k:=a.arg) h1 h2)
   have hak:agK ks a=if a.op=1\/a.op=2\/a.op=3\/a.op=4 then
    if a.arg=-1/\a.op=1 then (1,0)
    else if a.arg<0\/ks.length<=a.arg then (0,6)
    else if a.op=2/\u0 ks a.arg≠1 then (0,7)
    else if a.op=3\/a.op=4 then (u0 ks a.arg,0) else (1,0)
    else (0,7):=rfl
   obtain⟨v,hv⟩:∃z,z=u0 ks a.arg:=⟨_,rfl⟩
   rw[<- hv] at hgk hak
   obtain⟨K,hK⟩:∃z,z=agK ks a:=⟨_,rfl⟩
   rw[<- hK] at hak j3
   obtain⟨op,ar⟩:=a
   dsimp only at hg hgk hak
   rw[<- l1] at hak hgk
   clear hj g1 g3 dx' hv hK
   have err:∀e:Int,e≠0->K=(0,e)->q=([],e):=λe he h=>by rw[j3,h,if_neg he]
   have okk:∀k:Int,K=(k,0)->q=A1V ks (u++[k]) (ags.drop (j+1)):=λk h=>by rw[j3,h,if_pos rfl]
   clear j3
   by_cases c0:op=1\/op=2\/op=3\/op=4
   ·rw[if_pos c0] at hak
    by_cases c1:ar=-1/\op=1
    ·rw[if_pos c1] at hak
     obtain⟨rfl,rfl⟩:=c1
     have okk:=okk _ hak
     have happ:=happ 1
     have hne:=hne 1
     rw[<- hA] at happ
     clear err hak hgk c0
     repeat' first|refine st ?_|((with_reducible apply A4);conv=>whnf)|refine⟨λ_=>?_,λ_=>?_⟩|fail
     exact⟨j+1,u++[1],by rw[happ];simp,rfl,by rw[hne,happ];simp,by omega,by omega,by simp;omega,okk⟩
    rw[if_neg c1] at hak
    by_cases c2:ar<0\/es.length<=ar
    ·rw[if_pos c2] at hak
     have err:=err 6 (by decide) hak
     subst err
     clear okk hak hgk happ hne hA
     rcases c2 with c2|c2
     ·rcases c0 with rfl|rfl|rfl|rfl
      ·have c1:¬ar=-1:=λh=>c1 ⟨h,rfl⟩
       repeat' first|refine st ?_|((with_reducible apply A4);conv=>whnf)|refine⟨λ_=>?_,λ_=>?_⟩|fail
       all_goals rfl
      all_goals clear c1
      all_goals skip
      all_goals repeat' first|refine st ?_|((with_reducible apply A4);conv=>whnf)|refine⟨λ_=>?_,λ_=>?_⟩|fail
      all_goals rfl
     ·have c3:¬ar<0:=by omega
      have c4:¬ar=-1:=by omega
      rcases c0 with rfl|rfl|rfl|rfl
      all_goals clear c1
      all_goals skip
      all_goals repeat' first|refine st ?_|((with_reducible apply A4);conv=>whnf)|refine⟨λ_=>?_,λ_=>?_⟩|fail
      all_goals rfl
    rw[if_neg c2] at hak
    have c3:¬ar<0:=λh=>c2 (.inl h)
    have c4:¬(es.length:Int)<=ar:=λh=>c2 (.inr h)
    have hg2:=hgk c3 c4
    have c5:¬ar=-1:=by omega
    clear hgk c1 c2
    rcases c0 with rfl|rfl|rfl|rfl
    ·have okk:=okk _ hak
     have happ:=happ 1
     have hne:=hne 1
     rw[<- hA] at happ
     clear err hak
     repeat' first|refine st ?_|((with_reducible apply A4);conv=>whnf)|refine⟨λ_=>?_,λ_=>?_⟩|fail
     exact⟨j+1,u++[1],by rw[happ];simp,rfl,by rw[hne,happ];simp,by omega,by omega,by simp;omega,okk⟩
    ·by_cases c6:v=1
     ·subst c6
      have okk:=okk 1 (by rw[hak];simp)
      have happ:=happ 1
      have hne:=hne 1
      rw[<- hA] at happ
      clear err hak
      repeat' first|refine st ?_|((with_reducible apply A4);conv=>whnf)|refine⟨λ_=>?_,λ_=>?_⟩|fail
      exact⟨j+1,u++[1],by rw[happ];simp,rfl,by rw[hne,happ];simp,by omega,by omega,by simp;omega,okk⟩
     ·have err:=err 7 (by decide) (by rw[hak,if_pos ⟨rfl,c6⟩])
      subst err
      clear okk hak happ hne hA
      repeat' first|refine st ?_|((with_reducible apply A4);conv=>whnf)|refine⟨λ_=>?_,λ_=>?_⟩|fail
      all_goals rfl
    all_goals
     have okk:=okk v (by rw[hak];simp)
     have happ:=happ v
     have hne:=hne v
     rw[<- hA] at happ
     clear err hak
    all_goals skip
    all_goals repeat' first|refine st ?_|((with_reducible apply A4);conv=>whnf)|refine⟨λ_=>?_,λ_=>?_⟩|fail
    all_goals exact⟨j+1,u++[v],by rw[happ];simp,rfl,by rw[hne,happ];simp,by omega,by omega,by simp;omega,okk⟩
   ·rw[if_neg c0] at hak
    have err:=err 7 (by decide) hak
    subst err
    have d1:¬op=1:=λh=>c0 (.inl h)
    have d2:¬op=2:=λh=>c0 (.inr (.inl h))
    have d3:¬op=3:=λh=>c0 (.inr (.inr (.inl h)))
    have d4:¬op=4:=λh=>c0 (.inr (.inr (.inr h)))
    clear okk hak happ hne hA hgk c0
    repeat' first|refine st ?_|((with_reducible apply A4);conv=>whnf)|refine⟨λ_=>?_,λ_=>?_⟩|fail
    all_goals rfl
  |none=>
   have hge2:=F2.1 hj
   have hjl:(gs.length:Int)<=j:=by omega
   rw[R5 hge2] at j3
   have j3:q=(u,0):=j3
   subst j3
   dsimp only
   rw[<- hA]
   clear hj g1 g3 happ hne hA
   repeat' first|refine st ?_|((with_reducible apply A4);conv=>whnf)|refine⟨λ_=>?_,λ_=>?_⟩|fail
   all_goals (cases A<;>rfl)
end Go.Proofs
end
