/- Texts of this claim, joined. No condition. -/
import Derived.Test.YtfnaleemmeejcaaGreatQ3
set_option linter.unusedSimpArgs false
set_option linter.unusedVariables false
set_option maxRecDepth 10000
set_option maxHeartbeats 4000000
section
namespace Go.Proofs
open Go.Bi
def fe:List (Int×Int)->Int
 |[]=>0
 |r::rs=>if r.2=0 then fe rs else r.2
def ckF(op n:Int)(v:Vl)(name:List UInt8)(ks:List Int)(k:Nat)(rs:List (Int×Int)):Int×Int:=
 if (cnt op k).2=false then (0,7) else if fmd op n v name k=false then (0,8)
 else if op=2 then (if 0<=n/\n<ks.length then (ks.getD n.toNat 0,0) else (0,13))
 else if fe rs=0 then (if (res op v (rs.map Prod.fst)).2 then ((res op v (rs.map Prod.fst)).1,0) else (0,7)) else (0,fe rs)
mutual
def chk(ks:List Int):Ex->Int×Int
 |.mk op n v name nl args=>ckF op n v name ks args.length (chkL ks args)
def chkL(ks:List Int):List Ex->List (Int×Int)
 |[]=>[]
 |e::es=>chk ks e::chkL ks es
end
theorem chkL_eq(ks:List Int):∀l,chkL ks l=l.map (chk ks)
 |[]=>by simp[chkL]
 |e::es=>by simp[chkL,chkL_eq ks es]
theorem chk_mk(ks:List Int)(op n:Int)(v:Vl)(name:List UInt8)(nl:Bool)(args:List Ex):chk ks (.mk op n v name nl args)=ckF op n v name ks args.length (args.map (chk ks)):=by rw[chk,chkL_eq]
theorem fe_drop{l:List (Int×Int)}{i:Nat}{x:Int×Int}(h:l[i]?=some x):fe (l.drop i)=if x.2=0 then fe (l.drop (i+1)) else x.2:=by
 obtain⟨hlt,he⟩:=List.getElem?_eq_some_iff.1 h
 rw[List.drop_eq_getElem_cons hlt,he];rfl
def Kv(rs:List (Int×Int))(i:Nat):List (List D):=eIs ((rs.take i).map Prod.fst)
theorem Kv_len(rs:List (Int×Int))(i:Nat)(h:i<=rs.length):(Kv rs i).length=i:=by
 unfold Kv
 rw[eIs_len,List.length_map,List.length_take]
 omega
theorem Kv_succ{rs:List (Int×Int)}{i:Nat}{x:Int×Int}(h:rs[i]?=some x):Kv rs i++[[eI x.1]]=Kv rs (i+1):=by
 unfold Kv
 rw[List.take_add_one,h]
 simp[eIs]
theorem Kv_end{rs:List (Int×Int)}{i:Nat}(h:rs.length<=i):Kv rs i=eIs (rs.map Prod.fst):=by
 unfold Kv
 rw[List.take_of_length_le h]
theorem ckF_known{op n:Int}{v:Vl}{name:List UInt8}{ks:List Int}{k:Nat}{rs:List (Int×Int)}(h:fmd op n v name k=true)(h2:op≠2):ckF op n v name ks k rs=if fe rs=0 then (if (res op v (rs.map Prod.fst)).2 then ((res op v (rs.map Prod.fst)).1,0) else (0,7)) else (0,fe rs):=by
 have hc:=cnt_case (fmd_cnt h)
 unfold ckF
 have:(cnt op k).2=true:=by
  unfold cnt
  repeat' split
  all_goals first|rfl|omega
 rw[this,h,if_neg (by simp),if_neg (by simp),if_neg h2]
theorem C.expr_check(ks:List Int)(hks:ks.length<=1048576)(dk:D)(hdk:SlD dk (eIs ks)):∀e:Ex,e.bk<=1048576->Pure Tryz.prog N.expr_check [e.av,.d dk] (.tup [.d (eI (chk ks e).1),.d (eI (chk ks e).2)]):=by
 refine Ex.ind λop n v name nl args ih hbk=>?_
 obtain⟨b1,b2,b3,b4⟩:=Ex.bk_bounds hbk
 have ih':∀a∈args,Pure Tryz.prog N.expr_check [a.av,.d dk] (.tup [.d (eI (chk ks a).1),.d (eI (chk ks a).2)]):=λa ha=>ih a ha (b4 a ha)
 clear ih
 rw[Ex.av_mk,chk_mk]
 refine F.expr_check.go mixed rfl ?_
 have hlen:=xL_len args
 have hF:=C.expr_formed op n v name (ng nl (xL args)) (xL args) sld_ng b2 (by omega)
 rw[hlen] at hF
 have hC:=C.expr_counts op args.length
 have hm:=xL_mem args
 have hd:SlD (ng nl (xL args)) (xL args):=sld_ng
 have hget:∀(i:Nat) (op' n':Int) (v':Vl) (name':List UInt8) (nl':Bool) (args':List Ex),args[i]?=some (.mk op' n' v' name' nl' args')->(xL args)[i]?=some (xds op' n' v' name' (ng nl' (xL args'))):=λi op' n' v' name' nl' args' h=>by
  rw[<- Ex.ds_mk];exact xL_get h
 obtain⟨d,hde⟩:∃d,d=ng nl (xL args):=⟨_,rfl⟩
 rw[<- hde] at hF hd ⊢
 obtain⟨es,hes⟩:∃es,es=xL args:=⟨_,rfl⟩
 rw[<- hes] at hlen hm hd hget
 rw[<- hlen] at hC
 obtain⟨rs,hrs⟩:∃rs,rs=args.map (chk ks):=⟨_,rfl⟩
 have hrl:rs.length=args.length:=by rw[hrs,List.length_map]
 have hrg:∀(i:Nat) (x:Ex),args[i]?=some x->rs[i]?=some (chk ks x):=λi x h=>by rw[hrs,List.getElem?_map,h];rfl
 rw[<- hrs]
 cases hk:(cnt op args.length).2 with
 |false=>
  have e:ckF op n v name ks args.length rs=(0,7):=by unfold ckF;rw[hk,if_pos rfl]
  rw[e]
  rw[hlen,hk,<- hlen] at hC
  repeat' first|refine st ?_|refine⟨λ_=>?_,λ_=>?_⟩|fail
  all_goals rfl
 |true=>
 rw[hlen,hk,<- hlen] at hC
 cases hf:fmd op n v name args.length with
 |false=>
  have e:ckF op n v name ks args.length rs=(0,8):=by unfold ckF;rw[hk,if_neg (by simp),hf,if_pos rfl]
  rw[e]
  rw[hf] at hF
  repeat' first|refine st ?_|refine⟨λ_=>?_,λ_=>?_⟩|fail
  all_goals rfl
 |true=>
 rw[hf] at hF
 have hkl:=eIs_len ks
 have hkm:=eIs_mem ks
 by_cases h2:op=2
 ·subst h2
  by_cases hn:0<=n/\n<ks.length
  ·have e:ckF 2 n v name ks args.length rs=(ks.getD n.toNat 0,0):=by unfold ckF;rw[hk,if_neg (by simp),hf,if_neg (by simp),if_pos rfl,if_pos hn]
   rw[e]
   obtain⟨n1,n2⟩:=hn
   have hx:ks[n.toNat]?=some (ks.getD n.toNat 0):=by
    rw[List.getD_eq_getElem?_getD,List.getElem?_eq_getElem (by omega)];rfl
   have hg:=eIs_get hx
   have n3:n<(eIs ks).length:=by omega
   repeat' first|refine st ?_|refine⟨λ_=>?_,λ_=>?_⟩|fail
   all_goals rfl
  ·have e:ckF 2 n v name ks args.length rs=(0,13):=by unfold ckF;rw[hk,if_neg (by simp),hf,if_neg (by simp),if_pos rfl,if_neg hn]
   rw[e]
   by_cases hn0:n<0
   ·repeat' first|refine st ?_|refine⟨λ_=>?_,λ_=>?_⟩|fail
    all_goals rfl
   ·have n3:(eIs ks).length<=n:=by omega
    repeat' first|refine st ?_|refine⟨λ_=>?_,λ_=>?_⟩|fail
    all_goals rfl
 have hq:=ckF_known (ks:=ks) (rs:=rs) hf h2
 obtain⟨q,hqe⟩:∃q,q=ckF op n v name ks args.length rs:=⟨_,rfl⟩
 rw[<- hqe] at hq ⊢
 have hcnt:=cnt_case (fmd_cnt hf)
 repeat' first|refine st ?_|refine⟨λ_=>?_,λ_=>?_⟩|fail
 refine x_nil 8 1 rfl rfl ?_
 repeat' first|refine st ?_|refine⟨λ_=>?_,λ_=>?_⟩|fail
 refine x_loop2 mixed Lt.expr_check_l0 Lk.expr_check_l0 (λ(i:Nat) (w:List (List D)×Bool)=>[.arr 1 w.1.length,.d (eI i)]) (λi w=>[.cells [.d (eI op),.d (eI n),.d (eI v.k),.d (eI v.n),.d (.str v.s),.d (.str name),.d d],.arr w.1 1 0 w.2]) (λi w=>i<=args.length/\w.1=Kv rs i/\w.2=w.1.isEmpty/\fe rs=fe (rs.drop i)) (λi _=>args.length-i) 0 ([],true) rfl rfl rfl rfl (λ_ _ _=>⟨rfl,rfl⟩) rfl ⟨by omega,rfl,rfl,rfl⟩ ?_
 repeat' first|refine st ?_|refine⟨λ_=>?_,λ_=>?_⟩|fail
 intro i w ⟨h4,h5,h6,h7⟩
 obtain⟨A,b⟩:=w
 dsimp only at h5 h6 h7 ⊢
 have hAl:A.length=i:=by rw[h5];exact Kv_len rs i (by omega)
 have hAm:∀e∈A,e.length=1:=by rw[h5];exact eIs_mem _
 cases hx:args[i]? with
 |some x=>
  have hlt:=(List.getElem?_eq_some_iff.1 hx).1
  have hI:=ih' x (List.mem_of_getElem? hx)
  have hr:=hrg i x hx
  have hs:=Kv_succ hr
  rw[fe_drop hr] at h7
  rw[<- h5] at hs
  obtain⟨⟨k,er⟩,hke⟩:∃ke,ke=chk ks x:=⟨_,rfl⟩
  rw[<- hke] at hI hs h7
  obtain⟨op',n',v',name',nl',args'⟩:=x
  rw[Ex.av_mk] at hI
  have hg:=hget i _ _ _ _ _ _ hx
  by_cases her:er=0
  ·rw[if_pos her] at h7
   repeat' first|refine st ?_|refine⟨λ_=>?_,λ_=>?_⟩|fail
   exact⟨i+1,(A++[[eI k]],false),rfl,rfl,rfl,by omega,by omega,hs,by simp,h7⟩
  ·rw[if_neg her] at h7
   dsimp only at h7
   rw[h7,if_neg her] at hq
   rw[hq]
   repeat' first|refine st ?_|refine⟨λ_=>?_,λ_=>?_⟩|fail
   all_goals rfl
 |none=>
  have hge:=List.getElem?_eq_none_iff.1 hx
  rw[List.drop_eq_nil_of_le (by omega)] at h7
  rw[h7,if_pos (show fe []=0 from rfl)] at hq
  rw[Kv_end (by omega)] at h5
  clear hrg
  obtain⟨l,hl⟩:∃l,l=rs.map Prod.fst:=⟨_,rfl⟩
  have hll:l.length=args.length:=by rw[hl,List.length_map,hrl]
  rw[<- hl] at h5 hq
  have h22:op=22->1<=l.length:=λe=>by omega
  obtain⟨⟨kr,br⟩,hre⟩:∃r,r=res op v l:=⟨_,rfl⟩
  cases b with
  |true=>
   have hA0:A=[]:=by simpa using h6
   subst hA0
   have hR:=C.expr_result op n v name d l (by omega) .nil (.inl ⟨rfl,h5.symm⟩) h22
   rw[<- hre] at hR hq
   rw[hq]
   cases br with
   |true=>
    repeat' first|refine st ?_|refine⟨λ_=>?_,λ_=>?_⟩|fail
    all_goals rfl
   |false=>
    repeat' first|refine st ?_|refine⟨λ_=>?_,λ_=>?_⟩|fail
    all_goals rfl
  |false=>
   have hR:=C.expr_result op n v name d l (by omega) (.sl (eIs l)) sld_sl h22
   rw[<- hre,<- h5] at hR
   rw[<- hre] at hq
   rw[hq]
   cases br with
   |true=>
    repeat' first|refine st ?_|refine⟨λ_=>?_,λ_=>?_⟩|fail
    all_goals rfl
   |false=>
    repeat' first|refine st ?_|refine⟨λ_=>?_,λ_=>?_⟩|fail
    all_goals rfl
theorem C.expr_Check(ks:List Int)(hks:ks.length<=1048576)(dk:D)(hdk:SlD dk (eIs ks))(e:Ex)(he:e.bk<=1048576):Pure Tryz.prog N.expr_Check [e.av,.d dk] (.tup [.d (eI (if 24<dep e then (0,26) else chk ks e).1),.d (eI (if 24<dep e then ((0,26):Int×Int) else chk ks e).2)]):=by
 have hD:=C.expr_Depth e he
 have hC:=C.expr_check ks hks dk hdk e he
 obtain⟨kr,hre⟩:∃r,r=chk ks e:=⟨_,rfl⟩
 obtain⟨dp,hdp⟩:∃dp,dp=dep e:=⟨_,rfl⟩
 rw[<- hre] at hC ⊢
 rw[<- hdp] at hD ⊢
 obtain⟨op,n,v,name,nl,args⟩:=e
 rw[Ex.av_mk] at hC hD ⊢
 refine F.expr_Check.go mixed rfl ?_
 by_cases h:24<dp
 ·rw[if_pos h]
  have h2:(24:Int)<((min 25 dp:Nat):Int):=by omega
  repeat' first|refine st ?_|refine⟨λ_=>?_,λ_=>?_⟩|fail
  all_goals rfl
 ·rw[if_neg h]
  have h2:((min 25 dp:Nat):Int)<=24:=by omega
  repeat' first|refine st ?_|refine⟨λ_=>?_,λ_=>?_⟩|fail
  all_goals rfl
end Go.Proofs
end
section
namespace Go.Proofs
open Go.Bi
theorem C.r11_check(ks:List Int)(hks:ks.length<=1048576)(dk:D)(hdk:SlD dk (eIs ks)):∀e:Ex,e.bk<=1048576->Pure Tryz.prog N.bt_ref11_check [e.av,.d dk] (.tup [.d (eI (chk ks e).1),.d (eI (chk ks e).2)]):=by
 refine Ex.ind λop n v name nl args ih hbk=>?_
 obtain⟨b1,b2,b3,b4⟩:=Ex.bk_bounds hbk
 have ih':∀a∈args,Pure Tryz.prog N.bt_ref11_check [a.av,.d dk] (.tup [.d (eI (chk ks a).1),.d (eI (chk ks a).2)]):=λa ha=>ih a ha (b4 a ha)
 clear ih
 rw[Ex.av_mk,chk_mk]
 refine F.bt_ref11_check.go mixed rfl ?_
 have hlen:=xL_len args
 have hF:=C.r11_Formed op n v name (ng nl (xL args)) (xL args) sld_ng b2 (by omega)
 rw[hlen] at hF
 have hC:=C.r11_Arity op
 have hac:=(ary_cnt op args.length (by omega)).2
 have hm:=xL_mem args
 have hd:SlD (ng nl (xL args)) (xL args):=sld_ng
 have hget:∀(i:Nat) (op' n':Int) (v':Vl) (name':List UInt8) (nl':Bool) (args':List Ex),args[i]?=some (.mk op' n' v' name' nl' args')->(xL args)[i]?=some (xds op' n' v' name' (ng nl' (xL args'))):=λi op' n' v' name' nl' args' h=>by
  rw[<- Ex.ds_mk];exact xL_get h
 obtain⟨d,hde⟩:∃d,d=ng nl (xL args):=⟨_,rfl⟩
 rw[<- hde] at hF hd ⊢
 obtain⟨es,hes⟩:∃es,es=xL args:=⟨_,rfl⟩
 rw[<- hes] at hlen hm hd hget
 obtain⟨rs,hrs⟩:∃rs,rs=args.map (chk ks):=⟨_,rfl⟩
 have hrl:rs.length=args.length:=by rw[hrs,List.length_map]
 have hrg:∀(i:Nat) (x:Ex),args[i]?=some x->rs[i]?=some (chk ks x):=λi x h=>by rw[hrs,List.getElem?_map,h];rfl
 rw[<- hrs]
 cases hk:(cnt op args.length).2 with
 |false=>
  have e:ckF op n v name ks args.length rs=(0,7):=by unfold ckF;rw[hk,if_pos rfl]
  rw[e]
  rw[hk] at hac
  have hac:(ary op).1<0:=by
   have:=of_decide_eq_false hac.symm
   omega
  repeat' first|refine st ?_|((with_reducible apply go_i);conv=>whnf)|refine⟨λ_=>?_,λ_=>?_⟩|fail
  all_goals rfl
 |true=>
 rw[hk] at hac
 have hac:¬(ary op).1<0:=of_decide_eq_true hac.symm
 cases hf:fmd op n v name args.length with
 |false=>
  have e:ckF op n v name ks args.length rs=(0,8):=by unfold ckF;rw[hk,if_neg (by simp),hf,if_pos rfl]
  rw[e]
  rw[hf] at hF
  repeat' first|refine st ?_|((with_reducible apply go_i);conv=>whnf)|refine⟨λ_=>?_,λ_=>?_⟩|fail
  all_goals rfl
 |true=>
 rw[hf] at hF
 have hkl:=eIs_len ks
 have hkm:=eIs_mem ks
 have hcnt:=cnt_case (fmd_cnt hf)
 obtain⟨q,hqe⟩:∃q,q=ckF op n v name ks args.length rs:=⟨_,rfl⟩
 rw[<- hqe]
 have hq2:op=2->q=if 0<=n/\n<ks.length then (ks.getD n.toNat 0,0) else (0,13):=λh2=>by
  rw[hqe];unfold ckF;rw[hk,if_neg (by simp),hf,if_neg (by simp),if_pos h2]
 have hqo:op≠2->_:=λh2=>hqe.trans (ckF_known hf h2)
 clear hqe
 by_cases h2:op=2
 ·have hq:=hq2 h2
  subst h2
  by_cases hn:0<=n/\n<ks.length
  ·rw[if_pos hn] at hq
   obtain⟨n1,n2⟩:=hn
   have hx:ks[n.toNat]?=some (ks.getD n.toNat 0):=by
    rw[List.getD_eq_getElem?_getD,List.getElem?_eq_getElem (by omega)];rfl
   have n3:n<(eIs ks).length:=by omega
   have n4:¬(eIs ks).length<=n:=by omega
   have ha0:args=[]:=List.length_eq_zero_iff.1 (by omega)
   subst ha0
   have hR:=C.r11_result2 n v name d [] ks (.sl (eIs [])) sld_sl dk hdk _ n1 hx
   have hlen0:es.length=0:=hlen
   have hes0:es=[]:=List.length_eq_zero_iff.1 hlen0
   rw[hq]
   obtain⟨z,hz⟩:∃z,z=ks.getD n.toNat 0:=⟨_,rfl⟩
   rw[<- hz] at hR ⊢
   repeat' first|refine st ?_|((with_reducible apply go_i);conv=>whnf)|refine⟨λ_=>?_,λ_=>?_⟩|fail
   refine x_loop1 mixed Lt.bt_ref11_check_l0 Lk.bt_ref11_check_l0 (λ(i:Nat)=>[.arr 1 0,.d (eI i)]) (λi=>[.cells [.d (eI 2),.d (eI n),.d (eI v.k),.d (eI v.n),.d (.str v.s),.d (.str name),.d d],.arr [] 1 0 false]) (λi=>i=0) (λi=>0) 0 rfl rfl rfl rfl (λ_ _=>⟨rfl,rfl⟩) rfl rfl ?_
   repeat' first|refine st ?_|((with_reducible apply go_i);conv=>whnf)|refine⟨λ_=>?_,λ_=>?_⟩|fail
   intro i hi
   subst hi
   have h0:es.length<=((0:Nat):Int):=by omega
   have h00:([]:List (List D)).length=0:=rfl
   have hm0:∀e∈([]:List (List D)),e.length=1:=by intro e he;cases he
   repeat' first|refine st ?_|((with_reducible apply go_i);conv=>whnf)|refine⟨λ_=>?_,λ_=>?_⟩|fail
   all_goals rfl
  ·rw[if_neg hn] at hq
   rw[hq]
   by_cases hn0:n<0
   ·repeat' first|refine st ?_|((with_reducible apply go_i);conv=>whnf)|refine⟨λ_=>?_,λ_=>?_⟩|fail
    all_goals rfl
   ·have n3:(eIs ks).length<=n:=by omega
    repeat' first|refine st ?_|((with_reducible apply go_i);conv=>whnf)|refine⟨λ_=>?_,λ_=>?_⟩|fail
    all_goals rfl
 have hq:=hqo h2
 repeat' first|refine st ?_|((with_reducible apply go_i);conv=>whnf)|refine⟨λ_=>?_,λ_=>?_⟩|fail
 refine x_loop2 mixed Lt.bt_ref11_check_l0 Lk.bt_ref11_check_l0 (λ(i:Nat) (A:List (List D))=>[.arr 1 A.length,.d (eI i)]) (λi A=>[.cells [.d (eI op),.d (eI n),.d (eI v.k),.d (eI v.n),.d (.str v.s),.d (.str name),.d d],.arr A 1 0 false]) (λi A=>i<=args.length/\A=Kv rs i/\fe rs=fe (rs.drop i)) (λi _=>args.length-i) 0 [] rfl rfl rfl rfl (λ_ _ _=>⟨rfl,rfl⟩) rfl ⟨by omega,rfl,rfl⟩ ?_
 repeat' first|refine st ?_|((with_reducible apply go_i);conv=>whnf)|refine⟨λ_=>?_,λ_=>?_⟩|fail
 intro i A ⟨h4,h5,h7⟩
 have hAl:A.length=i:=by rw[h5];exact Kv_len rs i (by omega)
 have hAm:∀e∈A,e.length=1:=by rw[h5];exact eIs_mem _
 cases hx:args[i]? with
 |some x=>
  have hlt:=(List.getElem?_eq_some_iff.1 hx).1
  have hI:=ih' x (List.mem_of_getElem? hx)
  have hr:=hrg i x hx
  have hs:=Kv_succ hr
  rw[fe_drop hr] at h7
  rw[<- h5] at hs
  obtain⟨⟨k,er⟩,hke⟩:∃ke,ke=chk ks x:=⟨_,rfl⟩
  rw[<- hke] at hI hs h7
  obtain⟨op',n',v',name',nl',args'⟩:=x
  rw[Ex.av_mk] at hI
  have hg:=hget i _ _ _ _ _ _ hx
  by_cases her:er=0
  ·rw[if_pos her] at h7
   repeat' first|refine st ?_|((with_reducible apply go_i);conv=>whnf)|refine⟨λ_=>?_,λ_=>?_⟩|fail
   exact⟨i+1,A++[[eI k]],rfl,rfl,rfl,by omega,by omega,hs,h7⟩
  ·rw[if_neg her] at h7
   dsimp only at h7
   rw[h7,if_neg her] at hq
   rw[hq]
   repeat' first|refine st ?_|((with_reducible apply go_i);conv=>whnf)|refine⟨λ_=>?_,λ_=>?_⟩|fail
   all_goals rfl
 |none=>
  have hge:=List.getElem?_eq_none_iff.1 hx
  rw[List.drop_eq_nil_of_le (by omega)] at h7
  rw[h7,if_pos (show fe []=0 from rfl)] at hq
  rw[Kv_end (by omega)] at h5
  clear hrg
  obtain⟨l,hl⟩:∃l,l=rs.map Prod.fst:=⟨_,rfl⟩
  have hll:l.length=args.length:=by rw[hl,List.length_map,hrl]
  rw[<- hl] at h5 hq
  have h22:op=22->1<=l.length:=λe=>by omega
  obtain⟨⟨kr,br⟩,hre⟩:∃r,r=res op v l:=⟨_,rfl⟩
  have hR:=C.r11_result op n v name d l (by omega) (.sl (eIs l)) sld_sl dk h22 (by omega) h2
  rw[<- hre,<- h5] at hR
  rw[<- hre] at hq
  rw[hq]
  cases br with
  |true=>
   repeat' first|refine st ?_|((with_reducible apply go_i);conv=>whnf)|refine⟨λ_=>?_,λ_=>?_⟩|fail
   all_goals rfl
  |false=>
   repeat' first|refine st ?_|((with_reducible apply go_i);conv=>whnf)|refine⟨λ_=>?_,λ_=>?_⟩|fail
   all_goals rfl
theorem C.r11_Check(ks:List Int)(hks:ks.length<=1048576)(dk:D)(hdk:SlD dk (eIs ks))(e:Ex)(he:e.bk<=1048576):Pure Tryz.prog N.bt_ref11_Check [e.av,.d dk] (.tup [.d (eI (if 24<dep e then (0,26) else chk ks e).1),.d (eI (if 24<dep e then ((0,26):Int×Int) else chk ks e).2)]):=by
 have hD:=C.r11_depth e he
 have hC:=C.r11_check ks hks dk hdk e he
 obtain⟨kr,hre⟩:∃r,r=chk ks e:=⟨_,rfl⟩
 obtain⟨dp,hdp⟩:∃dp,dp=dep e:=⟨_,rfl⟩
 rw[<- hre] at hC ⊢
 rw[<- hdp] at hD ⊢
 obtain⟨op,n,v,name,nl,args⟩:=e
 rw[Ex.av_mk] at hC hD ⊢
 refine F.bt_ref11_Check.go mixed rfl ?_
 by_cases h:24<dp
 ·rw[if_pos h]
  have h2:(24:Int)<(dp:Int):=by omega
  repeat' first|refine st ?_|((with_reducible apply go_i);conv=>whnf)|refine⟨λ_=>?_,λ_=>?_⟩|fail
  all_goals rfl
 ·rw[if_neg h]
  have h2:(dp:Int)<=24:=by omega
  repeat' first|refine st ?_|((with_reducible apply go_i);conv=>whnf)|refine⟨λ_=>?_,λ_=>?_⟩|fail
  all_goals rfl
end Go.Proofs
end
section
namespace Go.Proofs
open Go.Bi
abbrev ckT(ks:List Int)(e:Ex):Int×Int:=if 24<dep e then (0,26) else chk ks e
def prjF(ks:List Int):List Ex->List Int×Int
 |[]=>([],0)
 |e::r=>if (ckT ks e).2=0 then (if (ckT ks e).1=0 then ([],7) else if (prjF ks r).2=0 then ((ckT ks e).1::(prjF ks r).1,0) else ([],(prjF ks r).2)) else ([],(ckT ks e).2)
theorem C.r21_Projected(ks:List Int)(hks:ks.length<=1048576)(dk:D)(hdk:SlD dk (eIs ks))(xs:List Ex)(hx:xs.length<=1048576)(hxb:∀e∈xs,e.bk<=1048576)(dx:D)(hdx:SlD dx (xL xs)) :
  Pure Tryz.prog N.bt_ref21_Projected [.d dk,.d dx] (.tup [.d (slD (eIs (prjF ks xs).1).isEmpty (eIs (prjF ks xs).1)),.d (eI (prjF ks xs).2)]):=by
 have hC:=λ(e:Ex) (h:e∈xs)=>C.r11_Check ks hks dk hdk e (hxb e h)
 have l1:=xL_len xs
 have m1:=xL_mem xs
 have g1:=λi e=>@xL_get xs i e
 obtain⟨es,hes⟩:∃z,z=xL xs:=⟨_,rfl⟩
 rw[<- hes] at hdx l1 m1 g1
 clear hes
 obtain⟨q,hq⟩:∃q,q=prjF ks xs:=⟨_,rfl⟩
 rw[<- hq]
 refine F.bt_ref21_Projected.go mixed rfl ?_
 repeat' first|refine st ?_|((with_reducible apply go_i);conv=>whnf)|refine⟨λ_=>?_,λ_=>?_⟩|fail
 refine x_nil 6 1 rfl rfl ?_
 refine x_loop2 mixed Lt.bt_ref21_Projected_l0 Lk.bt_ref21_Projected_l0 (λ(i:Nat) (w:List Int)=>[.arr 0 (eIs w).length,.d (eI i)]) (λi w=>[.arr (eIs w) 1 0 (eIs w).isEmpty]) (λi w=>i<=xs.length/\w.length=i/\q=if (prjF ks (xs.drop i)).2=0 then (w++(prjF ks (xs.drop i)).1,0) else ([],(prjF ks (xs.drop i)).2)) (λi w=>xs.length-i) 0 [] rfl rfl rfl rfl (λ_ _ _=>⟨rfl,rfl⟩) rfl ⟨by omega,rfl,by
  rw[hq]
  show prjF ks xs=if (prjF ks xs).2=0 then ((prjF ks xs).1,0) else ([],(prjF ks xs).2)
  split
  ·rename_i h;exact Prod.ext rfl h
  ·rename_i h
   refine Prod.ext ?_ rfl
   cases xs with
   |nil=>exact absurd rfl h
   |cons e r=>
    rw[prjF] at h ⊢
    split
    ·rename_i h1
     rw[if_pos h1] at h
     split
     ·rfl
     ·rename_i h2
      rw[if_neg h2] at h
      split
      ·rename_i h3
       rw[if_pos h3] at h
       exact absurd rfl h
      ·rfl
    ·rfl⟩ ?_
 repeat' first|refine st ?_|((with_reducible apply go_i);conv=>whnf)|refine⟨λ_=>?_,λ_=>?_⟩|fail
 intro i w ⟨i1,i2,i3⟩
 clear hq
 have hw1:=eIs_len w
 have hwm:=eIs_mem w
 have hbd:((eIs w).length+1)*8<=140737488355328:=by omega
 have happ:=λk:Int=>show eIs (w++[k])=eIs w++[[eI k]] by simp[eIs]
 have hne:=λk:Int=>show(eIs (w++[k])).isEmpty=false by simp[eIs]
 obtain⟨A,hA⟩:∃z,z=eIs w:=⟨_,rfl⟩
 rw[<- hA] at hw1 hwm hbd ⊢
 cases hi:xs[i]? with
 |some e=>
  have hlt:=(List.getElem?_eq_some_iff.1 hi).1
  have hil:(i:Int)<es.length:=by omega
  have hg:=g1 i e hi
  have hC:=hC e (List.mem_of_getElem? hi)
  have dx':xs.drop i=e::xs.drop (i+1):=by rw[List.drop_eq_getElem_cons hlt,(List.getElem?_eq_some_iff.1 hi).2]
  rw[dx',prjF] at i3
  have hC:Bi.Pure Tryz.prog N.bt_ref11_Check [e.av,.d dk] (.tup [.d (eI (ckT ks e).1),.d (eI (ckT ks e).2)]):=hC
  obtain⟨⟨k,er⟩,hk⟩:∃z,z=ckT ks e:=⟨_,rfl⟩
  rw[<- hk] at hC i3
  dsimp only at hC i3
  clear hk dx'
  obtain⟨xo,xn,xv,xm,xl,xa⟩:=e
  rw[Ex.ds_mk] at hg
  rw[Ex.av_mk] at hC
  have hg:es[((i:Nat):Int).toNat]?=some (xds xo xn xv xm (ng xl (xL xa))):=hg
  obtain⟨xd,hxd⟩:∃d,d=ng xl (xL xa):=⟨_,rfl⟩
  rw[<- hxd] at hg hC
  by_cases h1:er=0
  ·subst h1
   rw[if_pos rfl] at i3
   by_cases h2:k=0
   ·subst h2
    rw[if_pos rfl] at i3
    have i3:q=([],7):=i3
    subst i3
    clear hi g1 hxd hA happ hne
    repeat' first|refine st ?_|((with_reducible apply go_i);conv=>whnf)|refine⟨λ_=>?_,λ_=>?_⟩|fail
    all_goals rfl
   ·rw[if_neg h2] at i3
    have i4:q=if (prjF ks (xs.drop (i+1))).2=0 then ((w++[k])++(prjF ks (xs.drop (i+1))).1,0) else ([],(prjF ks (xs.drop (i+1))).2):=by
     rw[i3]
     by_cases h3:(prjF ks (xs.drop (i+1))).2=0
     ·rw[if_pos h3,if_pos rfl,if_pos h3,List.append_assoc];rfl
     ·rw[if_neg h3,if_neg h3,if_neg h3]
    have happ:=happ k
    have hne:=hne k
    rw[<- hA] at happ
    clear hi g1 hxd i3
    repeat' first|refine st ?_|((with_reducible apply go_i);conv=>whnf)|refine⟨λ_=>?_,λ_=>?_⟩|fail
    exact⟨i+1,w++[k],by rw[happ];simp,rfl,by rw[hne,happ];simp,by omega,by omega,by simp;omega,i4⟩
  ·rw[if_neg h1,if_neg h1] at i3
   subst i3
   clear hi g1 hxd hA happ hne
   repeat' first|refine st ?_|((with_reducible apply go_i);conv=>whnf)|refine⟨λ_=>?_,λ_=>?_⟩|fail
   all_goals rfl
 |none=>
  have hge:=List.getElem?_eq_none_iff.1 hi
  have hil:(es.length:Int)<=i:=by omega
  rw[List.drop_eq_nil_of_le hge] at i3
  have i3:q=(w,0):=by rw[i3];simp[prjF]
  subst i3
  dsimp only
  rw[<- hA]
  clear hi g1 happ hne hA
  repeat' first|refine st ?_|((with_reducible apply go_i);conv=>whnf)|refine⟨λ_=>?_,λ_=>?_⟩|fail
  all_goals (cases A<;>rfl)
end Go.Proofs
end
section
namespace Go.Proofs
open Go.Bi
theorem C.r21_Project(ks:List Int)(hks:ks.length<=1048576)(dk:D)(hdk:SlD dk (eIs ks))(l:List Rw)(hl:l.length<=4194304)(ho:∀r∈l,RwOk r.vs)(dr:D)(hd:SlD dr (eRs l))(xs:List Ex)(hx:xs.length<=1048576)(hxb:∀e∈xs,e.bk<=1048576)(dx:D)(hdx:SlD dx (xL xs)) :
  Pure Tryz.prog N.bt_ref21_Project [eBag dk dr,.d dx] (eBag (slD (eIs (prjF ks xs).1).isEmpty (eIs (prjF ks xs).1)) (.sl (rD (ordR ((vsR l).map (vlR xs)))))):=by
 have hP:=C.r21_Projected ks hks dk hdk xs hx hxb dx hdx
 obtain⟨kd,hkd⟩:∃z,z=slD (eIs (prjF ks xs).1).isEmpty (eIs (prjF ks xs).1):=⟨_,rfl⟩
 rw[<- hkd] at hP ⊢
 obtain⟨ke,hke⟩:∃z,z=(prjF ks xs).2:=⟨_,rfl⟩
 rw[<- hke] at hP
 clear hkd hke hdk hks
 have hV:=λ(r:Rw) (h:r∈l)=>C.r21_Values xs hx hxb dx hdx r.vs (ho r h) r.d sld_ng
 have hS:=λd hd=>C.r8_Sort (l.map λr=>Rw.mk true (vlR xs r.vs)) (by rw[List.length_map];exact hl) (λr h=>by
  obtain⟨x,_,rfl⟩:=List.mem_map.1 h
  show(xs.map (ev x.vs)).length<=_
  rw[List.length_map];omega) d hd
 rw[show vsR (l.map λr=>Rw.mk true (vlR xs r.vs))=(vsR l).map (vlR xs) by unfold vsR;rw[List.map_map,List.map_map];rfl] at hS
 obtain⟨Z,hZ⟩:∃z,z=rD (ordR ((vsR l).map (vlR xs))):=⟨_,rfl⟩
 rw[<- hZ] at hS ⊢
 clear hZ
 have l1:=eRs_len l
 have m1:=eRs_mem l
 have g1:=λi r=>@eRs_get l i r
 obtain⟨es,hes⟩:∃z,z=eRs l:=⟨_,rfl⟩
 rw[<- hes] at hd l1 m1 g1
 clear hes
 refine F.bt_ref21_Project.go mixed rfl ?_
 repeat' first|refine st ?_|((with_reducible apply go_i);conv=>whnf)|refine⟨λ_=>?_,λ_=>?_⟩|fail
 refine x_nilcc 2 1 1 rfl rfl rfl ?_
 refine x_loop2 mixed Lt.bt_ref21_Project_l0 Lk.bt_ref21_Project_l0 (λ(i:Nat) (w:List Rw)=>[.d (eI i)]) (λi w=>[.cells [.d dk,.d dr],.cells [.d .nil,.d .nil],.cells [.d kd,.arr 3 (eRs w).length],.arr (eRs w) 1 0 (eRs w).isEmpty]) (λi w=>i<=l.length/\w=(l.take i).map λr=>Rw.mk true (vlR xs r.vs)) (λi w=>l.length-i) 0 [] rfl rfl rfl rfl (λ_ _ _=>⟨rfl,rfl⟩) rfl ⟨by omega,rfl⟩ ?_
 repeat' first|refine st ?_|((with_reducible apply go_i);conv=>whnf)|refine⟨λ_=>?_,λ_=>?_⟩|fail
 intro i w ⟨i1,i2⟩
 have hwl:w.length<=i:=by rw[i2,List.length_map,List.length_take];omega
 have hw1:=eRs_len w
 have hwm:=eRs_mem w
 have hbd:((eRs w).length+1)*24<=140737488355328:=by omega
 have happ:=λr=>show eRs (w++[r])=eRs w++[[r.d]] by rw[eRs_app];rfl
 obtain⟨A,hA⟩:∃z,z=eRs w:=⟨_,rfl⟩
 rw[<- hA] at hw1 hwm hbd ⊢
 cases hi:l[i]? with
 |some r=>
  have hlt:=(List.getElem?_eq_some_iff.1 hi).1
  have hil:(i:Int)<es.length:=by omega
  have e1:es[((i:Nat):Int).toNat]?=some [r.d]:=g1 i r hi
  have hV:=hV r (List.mem_of_getElem? hi)
  have hft:(l.take (i+1)).map (λr=>Rw.mk true (vlR xs r.vs))=w++[Rw.mk true (vlR xs r.vs)]:=by
   rw[i2,List.take_add_one,hi];simp
  obtain⟨R,hR⟩:∃z,z=Rw.mk true (vlR xs r.vs):=⟨_,rfl⟩
  have hV:Bi.Pure Tryz.prog N.bt_ref21_Values [.d dx,.d r.d] (.d R.d):=by
   rw[hR]
   show Bi.Pure Tryz.prog N.bt_ref21_Values [.d dx,.d r.d] (.d (ng true (eVs (vlR xs r.vs))))
   have e:ng true (eVs (vlR xs r.vs))=slD (eVs (vlR xs r.vs)).isEmpty (eVs (vlR xs r.vs)):=by unfold ng slD;rw[Bool.true_and]
   rw[e];exact hV
  rw[<- hR] at hft
  have happ:=happ R
  rw[<- hA] at happ
  have hne:(A++[[R.d]]).isEmpty=false:=by simp
  obtain⟨rd,hrd⟩:∃d,d=r.d:=⟨_,rfl⟩
  rw[<- hrd] at hV e1
  obtain⟨Rd,hRd⟩:∃d,d=R.d:=⟨_,rfl⟩
  rw[<- hRd] at hV happ hne
  clear hrd i2 hi g1 hS ho hR hRd
  repeat' first|refine st ?_|((with_reducible apply go_i);conv=>whnf)|refine⟨λ_=>?_,λ_=>?_⟩|fail
  exact⟨i+1,w++[R],rfl,rfl,by rw[happ,hne];first|done|rfl|simp,by omega,by omega,hft.symm⟩
 |none=>
  have hge:=List.getElem?_eq_none_iff.1 hi
  have hil:(es.length:Int)<=i:=by omega
  rw[List.take_of_length_le hge] at i2
  rw[<- i2] at hS
  obtain⟨b,hb⟩:∃b,b=A.isEmpty:=⟨_,rfl⟩
  rw[<- hA] at hS
  have hS:=hS (if b then .nil else .sl A) (nl_D hb)
  rw[<- hb]
  clear i2 hi g1 ho hV happ
  cases b
  all_goals skip
  all_goals repeat' first|refine st ?_|((with_reducible apply go_i);conv=>whnf)|refine⟨λ_=>?_,λ_=>?_⟩|fail
  all_goals rfl
end Go.Proofs
end
section
namespace Go.Proofs
open Go.Bi
theorem C.r8_Concat(a b:List Vl)(ha:a.length+b.length<=4194304)(da db:D)(hda:SlD da (eVs a))(hdb:SlD db (eVs b)):Pure Tryz.prog N.bt_ref08_Concat [.d da,.d db] (.d (.sl (eVs (a++b)))):=by
 have h1:=eVs_len a
 have hm:=eVs_mem a
 have h2:=eVs_len b
 have hm2:=eVs_mem b
 have hap:eVs (a++b)=eVs a++eVs b:=by simp[eVs]
 rw[hap]
 have h3:(([]:List (List D))++eVs a).length=a.length:=by simp[h1]
 refine F.bt_ref08_Concat.go mixed rfl ?_
 repeat' first|refine st ?_|((with_reducible apply go_i);conv=>whnf)|refine⟨λ_=>?_,λ_=>?_⟩|fail
 all_goals (simp;try rfl)
def jnA(e:Ex)(B:List Row)(a:Row):List Row:=(B.map λb=>a++b).filter (trB e)
def jnO(left:Bool)(nb:Nat)(a:Row)(l:List Row):List Row:=if left&&l.isEmpty then [a++List.replicate nb vNull] else []
def jnR(e:Ex)(left:Bool)(nb:Nat)(B:List Row):List Row->List Row
 |[]=>[]
 |a::r=>jnA e B a++jnO left nb a (jnA e B a)++jnR e left nb B r
theorem jnA_drop{e:Ex}{B:List Row}{a b:Row}{k:Nat}(h:B[k]?=some b):jnA e (B.drop k) a=(if trB e (a++b) then [a++b] else [])++jnA e (B.drop (k+1)) a:=by
 obtain⟨h1,h2⟩:=List.getElem?_eq_some_iff.1 h
 rw[List.drop_eq_getElem_cons h1,h2]
 unfold jnA
 rw[List.map_cons,List.filter_cons]
 split<;>rfl
theorem C.r21_Join(ka kb:List Int)(hkk:ka.length+kb.length<=4194304)(hkb:kb.length<=4096)(dka dkb:D)(hka:SlD dka (eIs ka))(hkbd:SlD dkb (eIs kb))(A B:List Rw)(hA:A.length<=4194304)(hB:B.length<=4194304)
  (hAo:∀r∈A,r.vs.length<=4096/\∀v∈r.vs,v.s.length<=1048576) (hBo:∀r∈B,r.vs.length<=4096/\∀v∈r.vs,v.s.length<=1048576) (da db:D) (hda:SlD da (eRs A)) (hdb:SlD db (eRs B)) (e:Ex) (he:e.bk<=1048576) (left:Bool)
  (hR:(jnR e left kb.length (vsR B) (vsR A)).length<=4194304) :
  Pure Tryz.prog N.bt_ref21_Join [eBag dka da,eBag dkb db,e.av,.d (.bool left)] (eBag (slD (eIs (ka++kb)).isEmpty (eIs (ka++kb))) (.sl (rD (ordR (jnR e left kb.length (vsR B) (vsR A)))))):=by
 have hJ:=C.r21_joined ka kb hkk dka dkb hka hkbd
 obtain⟨dj,hdj⟩:∃z,z=slD (eIs (ka++kb)).isEmpty (eIs (ka++kb)):=⟨_,rfl⟩
 rw[<- hdj] at hJ ⊢
 have hN:=C.r8_Nulls kb.length hkb
 have lk:=eIs_len kb
 have hC:=λ(x y:Rw) (hx:x∈A) (hy:y∈B)=>C.r8_Concat x.vs y.vs (by have:=(hAo x hx).1;have:=(hBo y hy).1;omega) x.d y.d sld_ng sld_ng
 have hCn:=λ(x:Rw) (hx:x∈A)=>C.r8_Concat x.vs (List.replicate kb.length vNull) (by have:=(hAo x hx).1;rw[List.length_replicate];omega) x.d (.sl (eVs (List.replicate kb.length vNull))) sld_ng (.inr rfl)
 have hT:=λ(x y:Rw) (hx:x∈A) (hy:y∈B)=>C.r11_Truth (x.vs++y.vs) (by have:=(hAo x hx).1;have:=(hBo y hy).1;rw[List.length_append];omega) (λv hv=>by
  rcases List.mem_append.1 hv with hv|hv
  ·exact(hAo x hx).2 v hv
  ·exact(hBo y hy).2 v hv) (.sl (eVs (x.vs++y.vs))) (.inr rfl) e he
 obtain⟨R,hRR⟩:∃z,z=jnR e left kb.length (vsR B) (vsR A):=⟨_,rfl⟩
 rw[<- hRR] at hR ⊢
 have hRm:∀r∈R,r.length<=4194304:=by
  rw[hRR]
  clear hRR hR
  have key:∀l:List Rw,(∀r∈l,r∈A)->∀r∈jnR e left kb.length (vsR B) (vsR l),r.length<=4194304:=by
   intro l
   induction l with
   |nil=>intro _ r hr;cases hr
   |cons a t ih=>
    intro hl r hr
    have ha:=hl a (by simp)
    have hr:r∈jnA e (vsR B) a.vs++jnO left kb.length a.vs (jnA e (vsR B) a.vs)++jnR e left kb.length (vsR B) (vsR t):=hr
    rcases List.mem_append.1 hr with hr|hr
    ·rcases List.mem_append.1 hr with hr|hr
     ·unfold jnA at hr
      obtain⟨b,hb,rfl⟩:=List.mem_map.1 (List.mem_filter.1 hr).1
      obtain⟨y,hy,rfl⟩:=List.mem_map.1 hb
      have:=(hAo a ha).1
      have:=(hBo y hy).1
      rw[List.length_append];omega
     ·unfold jnO at hr
      split at hr
      ·rw[List.mem_singleton.1 hr,List.length_append,List.length_replicate]
       have:=(hAo a ha).1
       omega
      ·cases hr
    ·exact ih (λx hx=>hl x (by simp[hx])) r hr
  exact key A λr h=>h
 have hS:=C.r8_Sort (rw0 R) (by unfold rw0;rw[List.length_map];exact hR) (λr h=>by
  obtain⟨x,hx,rfl⟩:=List.mem_map.1 h
  exact hRm x hx) (if (rD R).isEmpty then .nil else .sl (rD R)) (by rw[eRs_rw0];exact nl_D rfl)
 rw[vsR_rw0] at hS
 obtain⟨Z,hZ⟩:∃z,z=rD (ordR R):=⟨_,rfl⟩
 rw[<- hZ] at hS ⊢
 clear hZ hRm hdj
 have l1:=eRs_len A
 have m1:=eRs_mem A
 have g1:=λi r=>@eRs_get A i r
 have l2:=eRs_len B
 have m2:=eRs_mem B
 have g2:=λi r=>@eRs_get B i r
 obtain⟨es,hes⟩:∃z,z=eRs A:=⟨_,rfl⟩
 obtain⟨fs,hfs⟩:∃z,z=eRs B:=⟨_,rfl⟩
 rw[<- hes] at hda l1 m1 g1
 rw[<- hfs] at hdb l2 m2 g2
 obtain⟨kk,hkk'⟩:∃z,z=eIs kb:=⟨_,rfl⟩
 rw[<- hkk'] at hkbd lk
 have hN:Bi.Pure Tryz.prog N.bt_ref08_Nulls [.d (eI (kk.length:Nat))] (.d (.sl (eVs (List.replicate kb.length vNull)))):=by rw[lk];exact hN
 have km:∀z∈kk,z.length=1:=by rw[hkk'];exact eIs_mem kb
 clear hes hfs hkk'
 obtain⟨xo,xn,xv,xm,xl,xa⟩:=e
 rw[Ex.av_mk] at hT ⊢
 obtain⟨xd,hxd⟩:∃d,d=ng xl (xL xa):=⟨_,rfl⟩
 rw[<- hxd] at hT ⊢
 obtain⟨E,hE⟩:∃z,z=Ex.mk xo xn xv xm xl xa:=⟨_,rfl⟩
 rw[<- hE] at hRR
 have hT:∀(x y:Rw),x∈A->y∈B->Bi.Pure Tryz.prog N.bt_ref11_Truth [eX xo xn xv xm xd,.d (.sl (eVs (x.vs++y.vs)))] (.d (eI (vTruth (ev (x.vs++y.vs) E)))):=by rw[hE];exact hT
 clear hE hxd he
 obtain⟨nb,hnb⟩:∃n,n=kb.length:=⟨_,rfl⟩
 rw[<- hnb] at hRR hN hCn
 refine F.bt_ref21_Join.go mixed rfl ?_
 repeat' first|refine st ?_|((with_reducible apply go_i);conv=>whnf)|refine⟨λ_=>?_,λ_=>?_⟩|fail
 refine x_nilcc 4 1 1 rfl rfl rfl ?_
 refine x_loop2 mixed Lt.bt_ref21_Join_l1 Lk.bt_ref21_Join_l1 (λ(i:Nat) (w:List Row)=>[.d (eI i)]) (λi w=>[.cells [.d dka,.d da],.cells [.d dkb,.d db],.cells [.d (eI xo),.d (eI xn),.d (eI xv.k),.d (eI xv.n),.d (.str xv.s),.d (.str xm),.d xd],.cells [.d .nil,.d .nil],.cells [.d dj,.arr 5 (rD w).length],.arr (rD w) 1 0 (rD w).isEmpty]) (λi w=>i<=A.length/\R=w++jnR E left nb (vsR B) ((vsR A).drop i)) (λi w=>A.length-i) 0 [] rfl rfl rfl rfl (λ_ _ _=>⟨rfl,rfl⟩) rfl ⟨by omega,hRR⟩ ?_
 repeat' first|refine st ?_|((with_reducible apply go_i);conv=>whnf)|refine⟨λ_=>?_,λ_=>?_⟩|fail
 intro i w ⟨i1,i2⟩
 cases hx:A[i]? with
 |some x=>
  have hlt:=(List.getElem?_eq_some_iff.1 hx).1
  have hil:(i:Int)<es.length:=by omega
  have e1:es[((i:Nat):Int).toNat]?=some [x.d]:=g1 i x hx
  have hxA:=List.mem_of_getElem? hx
  have hd1:(vsR A).drop i=x.vs::(vsR A).drop (i+1):=by
   have:(vsR A)[i]?=some x.vs:=by unfold vsR;rw[List.getElem?_map,hx];rfl
   obtain⟨h1,h2⟩:=List.getElem?_eq_some_iff.1 this
   rw[List.drop_eq_getElem_cons h1,h2]
  rw[hd1] at i2
  have i2:R=w++(jnA E (vsR B) x.vs++jnO left nb x.vs (jnA E (vsR B) x.vs)++jnR E left nb (vsR B) ((vsR A).drop (i+1))):=i2
  have hC:=λ(y:Rw) (hy:y∈B)=>hC x y hxA hy
  have hT:=λ(y:Rw) (hy:y∈B)=>hT x y hxA hy
  have hCn:=hCn x hxA
  obtain⟨J,hJ'⟩:∃z,z=jnA E (vsR B) x.vs:=⟨_,rfl⟩
  rw[<- hJ'] at i2
  have hO:jnO left nb x.vs J=if left&&J.isEmpty then [x.vs++List.replicate nb vNull] else []:=rfl
  obtain⟨O,hO'⟩:∃z,z=jnO left nb x.vs J:=⟨_,rfl⟩
  rw[<- hO'] at i2 hO
  have hRl:w.length+(J.length+O.length+(jnR E left nb (vsR B) ((vsR A).drop (i+1))).length)=R.length:=by
   have:=congrArg List.length i2
   simp only[List.length_append] at this
   omega
  obtain⟨xr,hxr⟩:∃z,z=x.vs:=⟨_,rfl⟩
  rw[<- hxr] at hC hT hCn hJ' hO
  obtain⟨Nz,hNz⟩:∃z,z=eVs (List.replicate nb vNull):=⟨_,rfl⟩
  rw[<- hNz] at hN hCn
  obtain⟨Cz,hCz⟩:∃z,z=eVs (xr++List.replicate nb vNull):=⟨_,rfl⟩
  rw[<- hCz] at hCn
  have hCz':rD [xr++List.replicate nb vNull]=[[.sl Cz]]:=by rw[hCz];rfl
  obtain⟨Nr,hNr⟩:∃z,z=xr++List.replicate nb vNull:=⟨_,rfl⟩
  rw[<- hNr] at hO hCz'
  obtain⟨xd',hxd'⟩:∃z,z=x.d:=⟨_,rfl⟩
  rw[<- hxd'] at hC hCn e1
  clear hNz hCz hNr hxd' hxr hd1 hO' hxA hx g1 hRR hS
  repeat' first|refine st ?_|((with_reducible apply go_i);conv=>whnf)|refine⟨λ_=>?_,λ_=>?_⟩|fail
  refine x_loop3 mixed Lt.bt_ref21_Join_l0 Lk.bt_ref21_Join_l0 (λ(k:Nat) (f:Bool) (W:List Row)=>[.d (.bool f),.d (eI k)]) (λk f W=>[.cells [.d dka,.d da],.cells [.d dkb,.d db],.cells [.d (eI xo),.d (eI xn),.d (eI xv.k),.d (eI xv.n),.d (.str xv.s),.d (.str xm),.d xd],.cells [.d .nil,.d .nil],.cells [.d dj,.arr 5 (rD W).length],.arr (rD W) 1 0 (rD W).isEmpty]) (λk f W=>k<=B.length/\∃ms,W=w++ms/\f=!ms.isEmpty/\J=ms++jnA E ((vsR B).drop k) xr) (λk f W=>B.length-k) 0 false w rfl rfl rfl rfl (λ_ _ _ _=>⟨rfl,rfl⟩) rfl ⟨by omega,[],by simp,rfl,hJ'⟩ ?_
  repeat' first|refine st ?_|((with_reducible apply go_i);conv=>whnf)|refine⟨λ_=>?_,λ_=>?_⟩|fail
  intro k f W ⟨k1,ms,k2,k3,k4⟩
  have hW1:=rD_len W
  have hWm:=rD_mem W
  have hWl:W.length=w.length+ms.length:=by rw[k2];simp
  have happ:=λ(r:Row)=>show rD (W++[r])=rD W++[[.sl (eVs r)]] by rw[rD_app];rfl
  have happ2:=show rD (W++[Nr])=rD W++[[.sl Cz]] by rw[rD_app,hCz']
  obtain⟨Q,hQ⟩:∃z,z=rD W:=⟨_,rfl⟩
  rw[<- hQ] at hW1 hWm happ happ2 ⊢
  cases hy:B[k]? with
  |some y=>
   have hlt2:=(List.getElem?_eq_some_iff.1 hy).1
   have hil2:(k:Int)<fs.length:=by omega
   have e2:fs[((k:Nat):Int).toNat]?=some [y.d]:=g2 k y hy
   have hyB:=List.mem_of_getElem? hy
   have hC:=hC y hyB
   have hT:=hT y hyB
   have hk:(vsR B)[k]?=some y.vs:=by unfold vsR;rw[List.getElem?_map,hy];rfl
   have hdr:=jnA_drop (e:=E) (a:=xr) hk
   rw[hdr] at k4
   have happ:=happ (xr++y.vs)
   have htr:trB E (xr++y.vs)=decide (vTruth (ev (xr++y.vs) E)=2):=rfl
   rw[htr] at k4
   obtain⟨t,ht⟩:∃t,t=vTruth (ev (xr++y.vs) E):=⟨_,rfl⟩
   rw[<- ht] at hT k4
   obtain⟨yr,hyr⟩:∃z,z=xr++y.vs:=⟨_,rfl⟩
   rw[<- hyr] at hT hC k4 happ
   obtain⟨Y,hY⟩:∃z,z=eVs yr:=⟨_,rfl⟩
   rw[<- hY] at hT hC happ
   obtain⟨yd',hyd'⟩:∃z,z=y.d:=⟨_,rfl⟩
   rw[<- hyd'] at hC e2
   have hne:(Q++[[D.sl Y]]).isEmpty=false:=by simp
   clear hyr hY hyd' ht htr hdr hk hy g2 hyB
   by_cases h2:t=2
   ·rw[decide_eq_true h2,if_pos rfl] at k4
    subst h2
    have hbd:(Q.length+1)*24<=140737488355328:=by
     have:J.length=ms.length+(1+(jnA E (List.drop (k+1) (vsR B)) xr).length):=by rw[k4];simp;omega
     omega
    repeat' first|refine st ?_|((with_reducible apply go_i);conv=>whnf)|refine⟨λ_=>?_,λ_=>?_⟩|fail
    exact⟨k+1,true,W++[yr],rfl,rfl,by rw[happ,hne];first|done|rfl|simp,by omega,by omega,ms++[yr],by rw[k2,List.append_assoc],by simp,by rw[k4,List.append_assoc]⟩
   ·rw[decide_eq_false h2,if_neg (by decide),List.nil_append] at k4
    repeat' first|refine st ?_|((with_reducible apply go_i);conv=>whnf)|refine⟨λ_=>?_,λ_=>?_⟩|fail
    exact⟨k+1,f,W,rfl,rfl,by rw[hQ];first|done|rfl,by omega,by omega,ms,k2,k3,k4⟩
  |none=>
   have hge:=List.getElem?_eq_none_iff.1 hy
   have hil2:(fs.length:Int)<=k:=by omega
   rw[List.drop_eq_nil_of_le (by unfold vsR;rw[List.length_map];exact hge)] at k4
   have k4:J=ms:=by rw[k4];exact List.append_nil ms
   subst k4
   have hne:(Q++[[D.sl Cz]]).isEmpty=false:=by simp
   clear hy g2
   cases left<;>cases f
   ·have hO:O=[]:=hO
    subst hO
    rw[List.append_nil,<- List.append_assoc,<- k2] at i2
    repeat' first|refine st ?_|((with_reducible apply go_i);conv=>whnf)|refine⟨λ_=>?_,λ_=>?_⟩|fail
    exact⟨i+1,W,rfl,rfl,by rw[hQ];first|done|rfl,by omega,by omega,i2⟩
   ·have hO:O=[]:=hO
    subst hO
    rw[List.append_nil,<- List.append_assoc,<- k2] at i2
    repeat' first|refine st ?_|((with_reducible apply go_i);conv=>whnf)|refine⟨λ_=>?_,λ_=>?_⟩|fail
    exact⟨i+1,W,rfl,rfl,by rw[hQ];first|done|rfl,by omega,by omega,i2⟩
   ·have hO:O=[Nr]:=by rw[hO,Bool.true_and,if_pos (show J.isEmpty=true by cases hj:J.isEmpty with|true=>rfl|false=>rw[hj] at k3;cases k3)]
    subst hO
    rw[<- List.append_assoc,<- List.append_assoc,<- k2] at i2
    have hbd:(Q.length+1)*24<=140737488355328:=by simp only[List.length_cons] at hRl;omega
    repeat' first|refine st ?_|((with_reducible apply go_i);conv=>whnf)|refine⟨λ_=>?_,λ_=>?_⟩|fail
    exact⟨i+1,W++[Nr],rfl,rfl,by rw[happ2,hne];first|done|rfl|simp,by omega,by omega,i2⟩
   ·have hO:O=[]:=by rw[hO,Bool.true_and,if_neg (show ¬J.isEmpty=true from λhj=>by rw[hj] at k3;cases k3)]
    subst hO
    rw[List.append_nil,<- List.append_assoc,<- k2] at i2
    repeat' first|refine st ?_|((with_reducible apply go_i);conv=>whnf)|refine⟨λ_=>?_,λ_=>?_⟩|fail
    exact⟨i+1,W,rfl,rfl,by rw[hQ];first|done|rfl,by omega,by omega,i2⟩
 |none=>
  have hge:=List.getElem?_eq_none_iff.1 hx
  have hil:(es.length:Int)<=i:=by omega
  rw[List.drop_eq_nil_of_le (by unfold vsR;rw[List.length_map];exact hge)] at i2
  have i2:R=w:=by rw[i2];exact List.append_nil w
  subst i2
  obtain⟨Q,hQ⟩:∃z,z=rD R:=⟨_,rfl⟩
  rw[<- hQ] at hS ⊢
  obtain⟨b,hb⟩:∃b,b=Q.isEmpty:=⟨_,rfl⟩
  rw[<- hb] at hS ⊢
  clear hx g1 g2 hT hC hCn hN hQ
  cases b
  all_goals skip
  all_goals repeat' first|refine st ?_|((with_reducible apply go_i);conv=>whnf)|refine⟨λ_=>?_,λ_=>?_⟩|fail
  all_goals rfl
end Go.Proofs
end
section
namespace Go.Proofs
open Go.Bi
def nnF(rows:List Row)(ar:Int):List Vl:=(rows.map λr=>vAt r ar).filter λv=>!decide (v.k=0)
def sumS(s:Int×Int)(v:Vl):Int×Int:=(w64 (s.1+w64 (v.n.tdiv 1048576)),w64 (s.2+v.n.tmod 1048576))
def sumL:Int×Int->List Vl->Int×Int
 |s,[]=>s
 |s,v::r=>sumL (sumS s v) r
def sumE(s:Int×Int):Vl:=
 let h:=w64 (s.1+w64 (s.2.tdiv 1048576))
 let o:=s.2.tmod 1048576
 if h > 1099511627776\/h < -1099511627776 then vNull else vInt (w64 (h*1048576+o))
def mmS(op:Int)(o v:Vl):Vl:=if (op=3/\vCmp v o<0)\/(op=4/\vCmp v o > 0) then v else o
def mmL(op:Int):Vl->List Vl->Vl
 |o,[]=>o
 |o,v::r=>mmL op (mmS op o v) r
def aggL(op:Int):List Vl->Vl
 |[]=>vNull
 |v::r=>if op=2 then sumE (sumL (0,0) (v::r)) else mmL op v r
def aggV(rows:List Row)(op ar:Int):Vl:=
 if ar<0 then vInt rows.length else if op=1 then vInt (nnF rows ar).length else aggL op (nnF rows ar)
theorem nnF_take{l:List Rw}{i:Nat}{r:Rw}{ar:Int}(h:l[i]?=some r):nnF (vsR (l.take (i+1))) ar=nnF (vsR (l.take i)) ar++if (vAt r.vs ar).k=0 then [] else [vAt r.vs ar]:=by
 unfold nnF vsR
 rw[List.take_add_one,h,List.map_append,List.map_append,List.filter_append]
 congr 1
 show List.filter _ [vAt r.vs ar]=_
 by_cases h0:(vAt r.vs ar).k=0
 ·rw[if_pos h0];simp[h0]
 ·rw[if_neg h0];simp[h0]
theorem C.r21_Aggregate(l:List Rw)(hl:l.length<=4194304)(op ar:Int)(har:∀r∈l,ar<r.vs.length/\r.vs.length<=4194304)(dr:D)(hd:SlD dr (eRs l)) :
  Pure Tryz.prog N.bt_ref21_Aggregate [.d dr,.agg [.d (eI op),.d (eI ar)]] (eV (aggV (vsR l) op ar)):=by
 have hvl:(vsR l).length=l.length:=by unfold vsR;rw[List.length_map]
 have l1:=eRs_len l
 have m1:=eRs_mem l
 have g1:=λi r=>@eRs_get l i r
 by_cases ha:ar<0
 ·have hI:=C.r7_Int (eRs l).length
  have hq:aggV (vsR l) op ar=vInt ((eRs l).length:Nat):=by unfold aggV;rw[if_pos ha,hvl,l1]
  rw[hq]
  obtain⟨es,hes⟩:∃z,z=eRs l:=⟨_,rfl⟩
  rw[<- hes] at hd l1 m1 g1 hI ⊢
  clear hes hq
  obtain⟨q,hq⟩:∃z,z=vInt (es.length:Nat):=⟨_,rfl⟩
  rw[<- hq] at hI ⊢
  refine F.bt_ref21_Aggregate.go mixed rfl ?_
  repeat' first|refine st ?_|((with_reducible apply go_i);conv=>whnf)|refine⟨λ_=>?_,λ_=>?_⟩|fail
  all_goals rfl
 have hq:aggV (vsR l) op ar=if op=1 then vInt (nnF (vsR l) ar).length else aggL op (nnF (vsR l) ar):=by unfold aggV;rw[if_neg ha]
 rw[hq]
 clear hq
 obtain⟨q,hq⟩:∃z,z=if op=1 then vInt (nnF (vsR l) ar).length else aggL op (nnF (vsR l) ar):=⟨_,rfl⟩
 rw[<- hq]
 obtain⟨es,hes⟩:∃z,z=eRs l:=⟨_,rfl⟩
 rw[<- hes] at hd l1 m1 g1
 clear hes
 have ha':0<=ar:=by omega
 refine F.bt_ref21_Aggregate.go mixed rfl ?_
 repeat' first|refine st ?_|((with_reducible apply go_i);conv=>whnf)|refine⟨λ_=>?_,λ_=>?_⟩|fail
 refine x_nil 5 3 rfl rfl ?_
 refine x_loop2 mixed Lt.bt_ref21_Aggregate_l0 Lk.bt_ref21_Aggregate_l0 (λ(i:Nat) (w:List Vl)=>[.arr 2 (eVs w).length,.d (eI i)]) (λi w=>[.cells [.d (eI op),.d (eI ar)],.cells [.d (eI 0),.d (eI 0),.d (.str [])],.arr (eVs w) 3 0 (eVs w).isEmpty]) (λi w=>i<=l.length/\w=nnF (vsR (l.take i)) ar) (λi w=>l.length-i) 0 [] rfl rfl rfl rfl (λ_ _ _=>⟨rfl,rfl⟩) rfl ⟨by omega,rfl⟩ ?_
 repeat' first|refine st ?_|((with_reducible apply go_i);conv=>whnf)|refine⟨λ_=>?_,λ_=>?_⟩|fail
 intro i w ⟨i1,i2⟩
 have hwl:w.length<=i:=by
  rw[i2]
  refine Nat.le_trans (List.length_filter_le ..) ?_
  rw[List.length_map];unfold vsR;rw[List.length_map,List.length_take];omega
 have hw1:=eVs_len w
 have hwm:=eVs_mem w
 have hbd:((eVs w).length+1)*32<=140737488355328:=by omega
 cases hx:l[i]? with
 |some r=>
  have hlt:=(List.getElem?_eq_some_iff.1 hx).1
  have hil:(i:Int)<es.length:=by omega
  have e1:es[((i:Nat):Int).toNat]?=some [r.d]:=g1 i r hx
  have⟨h3,h4⟩:=har r (List.mem_of_getElem? hx)
  have hsl:SlD r.d (eVs r.vs):=sld_ng
  have hvl1:=eVs_len r.vs
  have hvm:=eVs_mem r.vs
  have hg:=vAt_get (l:=r.vs) ha (by omega)
  have hg:=eVs_get hg
  have hft:=nnF_take (ar:=ar) hx
  rw[<- i2] at hft
  obtain⟨v,hv⟩:∃v,v=vAt r.vs ar:=⟨_,rfl⟩
  rw[<- hv] at hg hft
  have happ:eVs (w++[v])=eVs w++[v.ds]:=by simp[eVs]
  obtain⟨rd,hrd⟩:∃z,z=r.d:=⟨_,rfl⟩
  rw[<- hrd] at e1 hsl
  obtain⟨fs,hfs⟩:∃z,z=eVs r.vs:=⟨_,rfl⟩
  rw[<- hfs] at hsl hvl1 hvm hg
  have harf:ar<fs.length:=by omega
  obtain⟨A,hA⟩:∃z,z=eVs w:=⟨_,rfl⟩
  rw[<- hA] at hw1 hwm hbd happ ⊢
  clear hq hv hrd hfs i2 hx g1 har
  by_cases h0:v.k=0
  ·rw[if_pos h0,List.append_nil] at hft
   have hg:fs[ar.toNat]?=some [eI 0,eI v.n,.str v.s]:=by rw[hg];unfold Vl.ds;rw[h0]
   repeat' first|refine st ?_|((with_reducible apply go_i);conv=>whnf)|refine⟨λ_=>?_,λ_=>?_⟩|fail
   exact⟨i+1,w,by rw[hA];rfl,rfl,by rw[hA];first|done|rfl,by omega,by omega,hft.symm⟩
  ·rw[if_neg h0] at hft
   have hg:fs[ar.toNat]?=some [eI v.k,eI v.n,.str v.s]:=hg
   repeat' first|refine st ?_|((with_reducible apply go_i);conv=>whnf)|refine⟨λ_=>?_,λ_=>?_⟩|fail
   exact⟨i+1,w++[v],by rw[happ];simp,rfl,by rw[happ];first|done|rfl|simp,by omega,by omega,hft.symm⟩
 |none=>
  have hge:=List.getElem?_eq_none_iff.1 hx
  have hil:(es.length:Int)<=i:=by omega
  rw[List.take_of_length_le hge] at i2
  rw[<- i2] at hq
  have gw:=λk v=>@eVs_get w k v
  by_cases h1:op=1
  ·rw[if_pos h1] at hq
   subst h1
   have hI:=C.r7_Int w.length
   rw[<- hq,<- hw1] at hI
   obtain⟨A,hA⟩:∃z,z=eVs w:=⟨_,rfl⟩
   rw[<- hA] at hw1 hwm hbd hI ⊢
   clear hq hA i2 hx g1 har gw
   repeat' first|refine st ?_|((with_reducible apply go_i);conv=>whnf)|refine⟨λ_=>?_,λ_=>?_⟩|fail
   all_goals rfl
  rw[if_neg h1] at hq
  cases w with
  |nil=>
   have hq:q=vNull:=hq
   subst hq
   have hN:=C.r7_Null
   clear i2 hx g1 har gw
   repeat' first|refine st ?_|((with_reducible apply go_i);conv=>whnf)|refine⟨λ_=>?_,λ_=>?_⟩|fail
   all_goals rfl
  |cons v t=>
   have hq2:q=if op=2 then sumE (sumL (0,0) (v::t)) else mmL op v t:=hq
   clear hq
   have hwp:0<(v::t).length:=Nat.succ_pos _
   have g0:(eVs (v::t))[0]?=some [eI v.k,eI v.n,.str v.s]:=rfl
   have hAe:(eVs (v::t)).isEmpty=false:=rfl
   by_cases h2:op=2
   ·rw[if_pos h2] at hq2
    subst h2
    obtain⟨w,hw⟩:∃z,z=v::t:=⟨_,rfl⟩
    rw[<- hw] at hq2 hw1 hwm hbd gw hwl hwp hAe ⊢
    obtain⟨A,hA⟩:∃z,z=eVs w:=⟨_,rfl⟩
    rw[<- hA] at hw1 hwm hbd gw hAe ⊢
    clear hA i2 hx g1 har hw g0
    repeat' first|refine st ?_|((with_reducible apply go_i);conv=>whnf)|refine⟨λ_=>?_,λ_=>?_⟩|fail
    refine x_loop3 mixed Lt.bt_ref21_Aggregate_l1 Lk.bt_ref21_Aggregate_l1 (λ(k:Nat) (a b:Int)=>[.d (eI a),.d (eI b),.d (eI k)]) (λk a b=>[.cells [.d (eI 2),.d (eI ar)],.cells [.d (eI 0),.d (eI 0),.d (.str [])],.arr A 3 0 A.isEmpty]) (λk a b=>k<=w.length/\sumL (0,0) w=sumL (a,b) (w.drop k)) (λk a b=>w.length-k) 0 0 0 rfl rfl rfl rfl (λ_ _ _ _=>⟨rfl,rfl⟩) rfl ⟨by omega,rfl⟩ ?_
    repeat' first|refine st ?_|((with_reducible apply go_i);conv=>whnf)|refine⟨λ_=>?_,λ_=>?_⟩|fail
    intro k a b ⟨k1,k2⟩
    cases hy:w[k]? with
    |some y=>
     have hlt2:=(List.getElem?_eq_some_iff.1 hy).1
     have hil2:(k:Int)<A.length:=by omega
     have e2:A[((k:Nat):Int).toNat]?=some [eI y.k,eI y.n,.str y.s]:=gw k y hy
     obtain⟨j1,j2⟩:=List.getElem?_eq_some_iff.1 hy
     rw[List.drop_eq_getElem_cons j1,j2] at k2
     have k2:sumL (0,0) w=sumL (w64 (a+w64 (y.n.tdiv 1048576)),w64 (b+y.n.tmod 1048576)) (w.drop (k+1)):=k2
     clear hy j2 gw hq2
     repeat' first|refine st ?_|((with_reducible apply go_i);conv=>whnf)|(apply WrK.mk)|refine⟨λ_=>?_,λ_=>?_⟩|fail
     exact⟨k+1,_,_,rfl,rfl,rfl,by omega,by omega,k2⟩
    |none=>
     have hge2:=List.getElem?_eq_none_iff.1 hy
     have hil2:(A.length:Int)<=k:=by omega
     rw[List.drop_eq_nil_of_le hge2] at k2
     have hq2:q=if w64 (a+w64 (b.tdiv 1048576)) > 1099511627776\/w64 (a+w64 (b.tdiv 1048576)) < -1099511627776 then vNull else vInt (w64 (w64 (a+w64 (b.tdiv 1048576))*1048576+b.tmod 1048576)):=by rw[hq2,k2];rfl
     clear hy gw k2
     have hN:=C.r7_Null
     have hI:=C.r7_Int (w64 (w64 (a+w64 (b.tdiv 1048576))*1048576+b.tmod 1048576))
     by_cases c1:w64 (a+w64 (b.tdiv 1048576)) > 1099511627776
     ·rw[if_pos (.inl c1)] at hq2
      subst hq2
      unfold w64 at c1
      repeat' first|refine st ?_|((with_reducible apply go_i);conv=>whnf)|(apply WrK.mk)|refine⟨λ_=>?_,λ_=>?_⟩|fail
      all_goals rfl
     by_cases c2:w64 (a+w64 (b.tdiv 1048576)) < -1099511627776
     ·rw[if_pos (.inr c2)] at hq2
      subst hq2
      unfold w64 at c1 c2
      repeat' first|refine st ?_|((with_reducible apply go_i);conv=>whnf)|(apply WrK.mk)|refine⟨λ_=>?_,λ_=>?_⟩|fail
      all_goals rfl
     ·rw[if_neg (λh=>h.elim c1 c2)] at hq2
      rw[<- hq2] at hI
      unfold w64 at c1 c2 hI
      repeat' first|refine st ?_|((with_reducible apply go_i);conv=>whnf)|(apply WrK.mk)|refine⟨λ_=>?_,λ_=>?_⟩|fail
      all_goals rfl
   ·rw[if_neg h2] at hq2
    obtain⟨w,hw⟩:∃z,z=v::t:=⟨_,rfl⟩
    have hqd:q=mmL op v (w.drop 1):=by rw[hw];exact hq2
    rw[<- hw] at hw1 hwm hbd gw hwl hwp hAe g0 ⊢
    obtain⟨A,hA⟩:∃z,z=eVs w:=⟨_,rfl⟩
    rw[<- hA] at hw1 hwm hbd gw hAe g0 ⊢
    have hAp:(0:Int)<A.length:=by omega
    have g0:A[((0:Nat):Int).toNat]?=some [eI v.k,eI v.n,.str v.s]:=g0
    clear hA i2 hx g1 har hw hq2
    repeat' first|refine st ?_|((with_reducible apply go_i);conv=>whnf)|refine⟨λ_=>?_,λ_=>?_⟩|fail
    refine x_loop2 mixed Lt.bt_ref21_Aggregate_l2 Lk.bt_ref21_Aggregate_l2 (λ(k:Nat) (o:Vl)=>[.d (eI k)]) (λk o=>[.cells [.d (eI op),.d (eI ar)],.cells [.d (eI 0),.d (eI 0),.d (.str [])],.arr A 3 0 A.isEmpty,.cells [.d (eI o.k),.d (eI o.n),.d (.str o.s)]]) (λk o=>k<=w.length/\q=mmL op o (w.drop k)) (λk o=>w.length-k) 1 v rfl rfl rfl rfl (λ_ _ _=>⟨rfl,rfl⟩) rfl ⟨by omega,hqd⟩ ?_
    repeat' first|refine st ?_|((with_reducible apply go_i);conv=>whnf)|refine⟨λ_=>?_,λ_=>?_⟩|fail
    intro k o ⟨k1,k2⟩
    cases hy:w[k]? with
    |some y=>
     have hlt2:=(List.getElem?_eq_some_iff.1 hy).1
     have hil2:(k:Int)<A.length:=by omega
     have e2:A[((k:Nat):Int).toNat]?=some [eI y.k,eI y.n,.str y.s]:=gw k y hy
     obtain⟨j1,j2⟩:=List.getElem?_eq_some_iff.1 hy
     rw[List.drop_eq_getElem_cons j1,j2] at k2
     have k2:q=mmL op (mmS op o y) (w.drop (k+1)):=k2
     have hC:=C.r7_Compare y o
     unfold mmS at k2
     obtain⟨c,hc⟩:∃z,z=vCmp y o:=⟨_,rfl⟩
     rw[<- hc] at hC k2
     clear hy j2 gw hc hqd g0
     by_cases h3:(op=3/\c<0)\/(op=4/\c > 0)
     ·rw[if_pos h3] at k2
      rcases h3 with ⟨rfl,h3⟩|⟨rfl,h3⟩
      all_goals skip
      all_goals repeat' first|refine st ?_|((with_reducible apply go_i);conv=>whnf)|refine⟨λ_=>?_,λ_=>?_⟩|fail
      all_goals exact⟨k+1,y,rfl,rfl,rfl,by omega,by omega,k2⟩
     ·rw[if_neg h3] at k2
      by_cases o3:op=3
      ·have h4:¬c<0:=λh=>h3 (.inl ⟨o3,h⟩)
       subst o3
       clear h3
       repeat' first|refine st ?_|((with_reducible apply go_i);conv=>whnf)|refine⟨λ_=>?_,λ_=>?_⟩|fail
       all_goals exact⟨k+1,o,rfl,rfl,rfl,by omega,by omega,k2⟩
      ·by_cases o4:op=4
       ·have h4:¬c > 0:=λh=>h3 (.inr ⟨o4,h⟩)
        subst o4
        clear h3
        repeat' first|refine st ?_|((with_reducible apply go_i);conv=>whnf)|refine⟨λ_=>?_,λ_=>?_⟩|fail
        all_goals exact⟨k+1,o,rfl,rfl,rfl,by omega,by omega,k2⟩
       ·clear h3
        repeat' first|refine st ?_|((with_reducible apply go_i);conv=>whnf)|refine⟨λ_=>?_,λ_=>?_⟩|fail
        all_goals exact⟨k+1,o,rfl,rfl,rfl,by omega,by omega,k2⟩
    |none=>
     have hge2:=List.getElem?_eq_none_iff.1 hy
     have hil2:(A.length:Int)<=k:=by omega
     rw[List.drop_eq_nil_of_le hge2] at k2
     have k2:q=o:=k2
     subst k2
     clear hy gw hqd g0
     repeat' first|refine st ?_|((with_reducible apply go_i);conv=>whnf)|refine⟨λ_=>?_,λ_=>?_⟩|fail
     all_goals rfl
end Go.Proofs
end
section
namespace Go.Proofs
open Go.Bi
def oneR(key:Row)(rows:List Row)(ag:List Ag):Row:=key++ag.map λa=>aggV rows a.op a.arg
theorem C.r21_one(key:Row)(hk:key.length<=4194304)(dk:D)(hdk:SlD dk (eVs key))(l:List Rw)(hl:l.length<=4194304)(dr:D)(hdr:SlD dr (eRs l))(ag:List Ag)(ha:ag.length<=4194304)(har:∀a∈ag,∀r∈l,a.arg<r.vs.length/\r.vs.length<=4194304)(da:D)(hda:SlD da (eAs ag)) :
  Pure Tryz.prog N.bt_ref21_one [.d dk,.d dr,.d da] (.d (.sl (eVs (oneR key (vsR l) ag)))):=by
 have hA:=λ(a:Ag) (h:a∈ag)=>C.r21_Aggregate l hl a.op a.arg (har a h) dr hdr
 have l1:=eAs_len ag
 have m1:=eAs_mem ag
 have g1:=λi e=>@eAs_get ag i e
 obtain⟨es,hes⟩:∃z,z=eAs ag:=⟨_,rfl⟩
 rw[<- hes] at hda l1 m1 g1
 have l2:=eVs_len key
 have m2:=eVs_mem key
 have hst:eVs (oneR key (vsR l) (ag.take 0))=eVs key:=by unfold oneR;rw[List.take_zero,List.map_nil,List.append_nil]
 have hlen:∀i,i<=ag.length->(eVs (oneR key (vsR l) (ag.take i))).length=key.length+i:=λi h=>by
  rw[eVs_len];unfold oneR;rw[List.length_append,List.length_map,List.length_take];omega
 obtain⟨fs,hfs⟩:∃z,z=eVs key:=⟨_,rfl⟩
 rw[<- hfs] at hdk l2 m2 hst
 obtain⟨q,hq⟩:∃z,z=eVs (oneR key (vsR l) ag):=⟨_,rfl⟩
 rw[<- hq]
 clear hes hfs har
 have hb:(([]:List (List D)).length+fs.length)*32<=140737488355328/\([]:List (List D)).length+fs.length<=9223372036854775807:=by simp;omega
 refine F.bt_ref21_one.go mixed rfl ?_
 repeat' first|refine st ?_|((with_reducible apply go_i);conv=>whnf)|refine⟨λ_=>?_,λ_=>?_⟩|fail
 refine x_loop2 mixed Lt.bt_ref21_one_l0 Lk.bt_ref21_one_l0 (λ(i:Nat) (w:List (List D))=>[.arr 0 w.length,.d (eI i)]) (λi w=>[.arr w 3 0 false]) (λi w=>i<=ag.length/\w=eVs (oneR key (vsR l) (ag.take i))) (λi w=>ag.length-i) 0 fs (by first|rfl|simp) (by first|rfl|simp) (by first|rfl|simp) (by first|rfl|simp) (λ_ _ _=>⟨rfl,rfl⟩) rfl ⟨by omega,hst.symm⟩ ?_
 repeat' first|refine st ?_|((with_reducible apply go_i);conv=>whnf)|refine⟨λ_=>?_,λ_=>?_⟩|fail
 intro i w ⟨i1,i2⟩
 have hwl:w.length=key.length+i:=by rw[i2];exact hlen i i1
 have hwm:∀e∈w,e.length=3:=by rw[i2];exact eVs_mem _
 have hbd:(w.length+1)*32<=140737488355328:=by omega
 cases hi:ag[i]? with
 |some a=>
  have hlt:=(List.getElem?_eq_some_iff.1 hi).1
  have hil:(i:Int)<es.length:=by omega
  have hg:es[((i:Nat):Int).toNat]?=some [eI a.op,eI a.arg]:=g1 i a hi
  have hA:=hA a (List.mem_of_getElem? hi)
  have i3:w++[(aggV (vsR l) a.op a.arg).ds]=eVs (oneR key (vsR l) (ag.take (i+1))):=by
   rw[i2,List.take_add_one,hi];simp[oneR,eVs]
  obtain⟨v,hv⟩:∃v,v=aggV (vsR l) a.op a.arg:=⟨_,rfl⟩
  rw[<- hv] at hA i3
  clear hv i2 hi g1 hlen hst hq
  repeat' first|refine st ?_|((with_reducible apply go_i);conv=>whnf)|refine⟨λ_=>?_,λ_=>?_⟩|fail
  exact⟨i+1,w++[v.ds],by simp,rfl,by first|rfl|simp,by omega,by omega,i3⟩
 |none=>
  have hge:=List.getElem?_eq_none_iff.1 hi
  have hil:(es.length:Int)<=i:=by omega
  rw[List.take_of_length_le hge,<- hq] at i2
  subst i2
  clear hi g1 hq
  repeat' first|refine st ?_|((with_reducible apply go_i);conv=>whnf)|refine⟨λ_=>?_,λ_=>?_⟩|fail
  all_goals rfl
structure Kd where
 key:Row
 rw:Rw
def eKs(l:List Kd):List (List D):=l.map λx=>[.sl (eVs x.key),x.rw.d]
theorem eKs_len(l:List Kd):(eKs l).length=l.length:=by simp[eKs]
theorem eKs_mem(l:List Kd):∀e∈eKs l,e.length=2:=by
 intro e he
 obtain⟨x,_,rfl⟩:=List.mem_map.1 he
 rfl
theorem eKs_get{l:List Kd}{i:Nat}{x:Kd}(h:l[i]?=some x):(eKs l)[i]?=some [.sl (eVs x.key),x.rw.d]:=by simp[eKs,h]
theorem eKs_app(l m:List Kd):eKs (l++m)=eKs l++eKs m:=by simp[eKs]
theorem eKs_take(l:List Kd)(i:Nat):(eKs l).take i=eKs (l.take i):=by simp[eKs]
theorem eKs_drop(l:List Kd)(i:Nat):(eKs l).drop i=eKs (l.drop i):=by simp[eKs]
def mrgK:List Kd->List Kd->List Kd
 |[],b=>b
 |a,[]=>a
 |x::a,y::b=>if cmpR y.key x.key<0 then y::mrgK (x::a) b else x::mrgK a (y::b)
termination_by a b=>a.length+b.length
theorem mrgK_nil(a:List Kd):mrgK a []=a:=by cases a<;>simp[mrgK]
theorem mrgK_len:∀(n:Nat)(a b:List Kd),a.length+b.length<=n->(mrgK a b).length=a.length+b.length
 |_,[],b,_=>by simp[mrgK]
 |_,x::a,[],_=>by simp[mrgK]
 |0,x::a,y::b,h=>by simp at h
 |n+1,x::a,y::b,h=>by
  rw[mrgK]
  simp only[List.length_cons] at h
  split
  ·rw[List.length_cons,mrgK_len n _ _ (by simp only[List.length_cons];omega)];simp only[List.length_cons];omega
  ·rw[List.length_cons,mrgK_len n _ _ (by simp only[List.length_cons];omega)];simp only[List.length_cons];omega
theorem mrgK_mem:∀(n:Nat)(a b:List Kd),a.length+b.length<=n->∀x,x∈mrgK a b->x∈a\/x∈b
 |_,[],b,_,x,h=>by rw[mrgK] at h;exact .inr h
 |_,y::a,[],_,x,h=>by rw[mrgK_nil] at h;exact .inl h
 |0,y::a,z::b,h,_,_=>by simp at h
 |n+1,y::a,z::b,h,x,hx=>by
  simp only[List.length_cons] at h
  rw[mrgK] at hx
  split at hx
  ·rcases List.mem_cons.1 hx with rfl|hx
   ·exact .inr (by simp)
   ·rcases mrgK_mem n _ _ (by simp only[List.length_cons];omega) x hx with h1|h1
    ·exact .inl h1
    ·exact .inr (List.mem_cons_of_mem _ h1)
  ·rcases List.mem_cons.1 hx with rfl|hx
   ·exact .inl (by simp)
   ·rcases mrgK_mem n _ _ (by simp only[List.length_cons];omega) x hx with h1|h1
    ·exact .inl (List.mem_cons_of_mem _ h1)
    ·exact .inr h1
def ordK(l:List Kd):List Kd:=if h:l.length<=1 then l else mrgK (ordK (l.take (l.length / 2))) (ordK (l.drop (l.length / 2)))
termination_by l.length
decreasing_by
 ·rw[List.length_take];omega
 ·rw[List.length_drop];omega
theorem ordK_len:∀(n:Nat)(l:List Kd),l.length<=n->(ordK l).length=l.length
 |0,l,h=>by rw[ordK,dif_pos (by omega)]
 |n+1,l,h=>by
  rw[ordK]
  split
  ·rfl
  ·rw[mrgK_len _ _ _ (Nat.le_refl _),ordK_len n _ (by rw[List.length_take];omega),ordK_len n _ (by rw[List.length_drop];omega),List.length_take,List.length_drop];omega
theorem ordK_mem:∀(n:Nat)(l:List Kd),l.length<=n->∀x,x∈ordK l->x∈l
 |0,l,h,x,hx=>by rw[ordK,dif_pos (by omega)] at hx;exact hx
 |n+1,l,h,x,hx=>by
  rw[ordK] at hx
  split at hx
  ·exact hx
  ·rcases mrgK_mem _ _ _ (Nat.le_refl _) x hx with h1|h1
   ·exact List.mem_of_mem_take (ordK_mem n _ (by rw[List.length_take];omega) x h1)
   ·exact List.mem_of_mem_drop (ordK_mem n _ (by rw[List.length_drop];omega) x h1)
theorem C.r21_ordered0:Pure Tryz.prog N.bt_ref21_ordered [.d .nil] (.d .nil):=by
 refine F.bt_ref21_ordered.go mixed rfl ?_
 repeat' first|refine st ?_|((with_reducible apply go_i);conv=>whnf)|refine⟨λ_=>?_,λ_=>?_⟩|fail
 all_goals rfl
theorem cnd3{A B C:List (List D)}(h:0<C.length+A.length+B.length):AV.d (CnD (bif B.isEmpty then bif A.isEmpty then C.isEmpty else false else false) D.nil (D.sl (C++A++B)))=AV.d (D.sl (C++A++B)):=by
 cases A<;>cases B<;>cases C<;>first|rfl|(simp at h)
theorem C.r21_ordered:∀(n:Nat)(l:List Kd),l.length<=n->n<=4194304->(∀r∈l,r.key.length<=4194304)->Pure Tryz.prog N.bt_ref21_ordered [.d (.sl (eKs l))] (.d (.sl (eKs (ordK l)))):=by
 intro n
 induction n with
 |zero=>
  intro l hn _ _
  have hl:l=[]:=List.length_eq_zero_iff.1 (by omega)
  subst hl
  have h1:(eKs []).length=0:=rfl
  rw[show ordK []=[] by rw[ordK,dif_pos (by decide)]]
  refine F.bt_ref21_ordered.go mixed rfl ?_
  repeat' first|refine st ?_|((with_reducible apply go_i);conv=>whnf)|refine⟨λ_=>?_,λ_=>?_⟩|fail
  all_goals rfl
 |succ n ih=>
  intro l hn hN hr
  have h1:=eKs_len l
  have hm:=eKs_mem l
  by_cases h2:l.length<=1
  ·rw[show ordK l=l by rw[ordK,dif_pos h2]]
   obtain⟨es,hes⟩:∃z,z=eKs l:=⟨_,rfl⟩
   rw[<- hes] at h1 hm ⊢
   refine F.bt_ref21_ordered.go mixed rfl ?_
   repeat' first|refine st ?_|((with_reducible apply go_i);conv=>whnf)|refine⟨λ_=>?_,λ_=>?_⟩|fail
   all_goals rfl
  have hm2:((l.length:Nat):Int).tdiv 2=((l.length / 2:Nat):Int):=by rw[Int.tdiv_eq_ediv_of_nonneg (by omega)];omega
  obtain⟨m,hmm⟩:∃m,m=l.length / 2:=⟨_,rfl⟩
  rw[<- hmm] at hm2
  have hml:m<=l.length:=by omega
  have hA:=ih (l.take m) (by rw[List.length_take];omega) (by omega) (λr h=>hr r (List.mem_of_mem_take h))
  have hB:=ih (l.drop m) (by rw[List.length_drop];omega) (by omega) (λr h=>hr r (List.mem_of_mem_drop h))
  rw[show eKs (l.take m)=((eKs l).drop (0:Int).toNat).take ((m:Int).toNat-(0:Int).toNat) by rw[show((m:Int).toNat-(0:Int).toNat)=m by simp,<- eKs_take];rfl] at hA
  rw[show eKs (l.drop m)=((eKs l).drop (m:Int).toNat).take ((l.length:Int).toNat-(m:Int).toNat) by
   rw[show((l.length:Int).toNat-(m:Int).toNat)=l.length-m by simp,show(m:Int).toNat=m from Int.toNat_natCast m,List.take_of_length_le (by rw[List.length_drop,eKs_len];omega),eKs_drop]] at hB
  have n1:=ordK_len _ (l.take m) (Nat.le_refl _)
  have n2:=ordK_len _ (l.drop m) (Nat.le_refl _)
  rw[List.length_take] at n1
  rw[List.length_drop] at n2
  have r1:∀r∈ordK (l.take m),r.key.length<=4194304:=λr h=>hr r (List.mem_of_mem_take (ordK_mem _ _ (Nat.le_refl _) r h))
  have r2:∀r∈ordK (l.drop m),r.key.length<=4194304:=λr h=>hr r (List.mem_of_mem_drop (ordK_mem _ _ (Nat.le_refl _) r h))
  rw[show ordK l=mrgK (ordK (l.take m)) (ordK (l.drop m)) by rw[ordK,dif_neg h2,<- hmm]]
  obtain⟨X,hX⟩:∃z,z=ordK (l.take m):=⟨_,rfl⟩
  obtain⟨Y,hY⟩:∃z,z=ordK (l.drop m):=⟨_,rfl⟩
  rw[<- hX] at hA n1 r1 ⊢
  rw[<- hY] at hB n2 r2 ⊢
  clear hX hY hr ih
  obtain⟨Q,hQ⟩:∃z,z=mrgK X Y:=⟨_,rfl⟩
  rw[<- hQ]
  obtain⟨es,hes⟩:∃z,z=eKs l:=⟨_,rfl⟩
  rw[<- hes] at hA hB h1 hm ⊢
  rw[<- h1] at hm2 hB
  have hml:(m:Int)<=es.length:=by omega
  have h00:¬(es.length:Int)<2:=by omega
  clear hes
  refine F.bt_ref21_ordered.go mixed rfl ?_
  repeat' first|(rw[hm2])|refine st ?_|((with_reducible apply go_i);conv=>whnf)|refine⟨λ_=>?_,λ_=>?_⟩|fail
  refine x_nil 5 2 rfl rfl ?_
  refine x_loop3 mixed Lt.bt_ref21_ordered_l0 Lk.bt_ref21_ordered_l0 (λ(x y w:List Kd)=>[.d (.sl (eKs x)),.d (.sl (eKs y)),.arr 2 (eKs w).length]) (λx y w=>[.hole,.hole,.arr (eKs w) 2 0 (eKs w).isEmpty]) (λx y w=>Q=w++mrgK x y/\(∀r∈x,r.key.length<=4194304)/\(∀r∈y,r.key.length<=4194304)) (λx y w=>x.length+y.length) X Y [] rfl rfl rfl rfl (λ_ _ _ _=>⟨rfl,rfl⟩) rfl ⟨hQ,r1,r2⟩ ?_
  repeat' first|refine st ?_|((with_reducible apply go_i);conv=>whnf)|refine⟨λ_=>?_,λ_=>?_⟩|fail
  intro x y w ⟨i1,i2,i3⟩
  have hQl:w.length+x.length+y.length=Q.length:=by
   rw[i1,List.length_append,mrgK_len _ _ _ (Nat.le_refl _)];omega
  have hQn:Q.length<=4194304/\2<=Q.length:=by
   rw[hQ,mrgK_len _ _ _ (Nat.le_refl _)]
   omega
  have w1:=eKs_len w
  have wm:=eKs_mem w
  have x1:=eKs_len x
  have y1:=eKs_len y
  have xm:=eKs_mem x
  have ym:=eKs_mem y
  have hbw:((eKs w).length+1)*48<=140737488355328:=by omega
  cases x with
  |nil=>
   rw[mrgK] at i1
   have hz:eKs Q=eKs w++eKs []++eKs y:=by rw[i1,eKs_app];simp[eKs]
   rw[hz]
   clear i1 i2 i3 hQ hz
   obtain⟨A,hA⟩:∃z,z=eKs []:=⟨_,rfl⟩
   obtain⟨B,hB⟩:∃z,z=eKs y:=⟨_,rfl⟩
   obtain⟨C,hC⟩:∃z,z=eKs w:=⟨_,rfl⟩
   rw[<- hA] at x1 xm ⊢
   rw[<- hB] at y1 ym ⊢
   rw[<- hC] at w1 wm hbw ⊢
   have x1:A.length=0:=x1
   have b1:(C.length+A.length)*48<=140737488355328/\C.length+A.length<=9223372036854775807:=by omega
   have b2:(C.length+A.length+B.length)*48<=140737488355328/\C.length+A.length+B.length<=9223372036854775807:=by simp only[List.length_nil] at hQl;omega
   have b3:((C++A).length+B.length)*48<=140737488355328/\(C++A).length+B.length<=9223372036854775807:=by rw[List.length_append];omega
   repeat' first|refine st ?_|((with_reducible apply go_i);conv=>whnf)|refine⟨λ_=>?_,λ_=>?_⟩|fail
   exact cnd3 (by simp only[List.length_nil] at hQl;omega)
  |cons a x=>
   cases y with
   |nil=>
    rw[mrgK_nil] at i1
    have hz:eKs Q=eKs w++eKs (a::x)++eKs []:=by rw[i1,eKs_app];simp[eKs]
    rw[hz]
    clear i1 i2 i3 hQ hz
    obtain⟨A,hA⟩:∃z,z=eKs (a::x):=⟨_,rfl⟩
    obtain⟨B,hB⟩:∃z,z=eKs []:=⟨_,rfl⟩
    obtain⟨C,hC⟩:∃z,z=eKs w:=⟨_,rfl⟩
    rw[<- hA] at x1 xm ⊢
    rw[<- hB] at y1 ym ⊢
    rw[<- hC] at w1 wm hbw ⊢
    have y1:B.length=0:=y1
    have b1:(C.length+A.length)*48<=140737488355328/\C.length+A.length<=9223372036854775807:=by omega
    have b2:(C.length+A.length+B.length)*48<=140737488355328/\C.length+A.length+B.length<=9223372036854775807:=by omega
    have b3:((C++A).length+B.length)*48<=140737488355328/\(C++A).length+B.length<=9223372036854775807:=by rw[List.length_append];omega
    repeat' first|refine st ?_|((with_reducible apply go_i);conv=>whnf)|refine⟨λ_=>?_,λ_=>?_⟩|fail
    all_goals exact cnd3 (by omega)
   |cons b y=>
    have ea:(eKs (a::x))[0]?=some [.sl (eVs a.key),a.rw.d]:=rfl
    have eb:(eKs (b::y))[0]?=some [.sl (eVs b.key),b.rw.d]:=rfl
    have hC:=C.r8_Compare b.key a.key (i3 b (by simp)) (i2 a (by simp)) _ _ (.inr rfl) (.inr rfl)
    rw[mrgK] at i1
    obtain⟨c,hc⟩:∃c,c=cmpR b.key a.key:=⟨_,rfl⟩
    rw[<- hc] at hC i1
    have ta:((eKs (a::x)).drop (1:Int).toNat).take (((eKs (a::x)).length:Int).toNat-(1:Int).toNat)=eKs x:=by rw[List.take_of_length_le (by simp[eKs])];rfl
    have tb:((eKs (b::y)).drop (1:Int).toNat).take (((eKs (b::y)).length:Int).toNat-(1:Int).toNat)=eKs y:=by rw[List.take_of_length_le (by simp[eKs])];rfl
    have x1:(eKs (a::x)).length=x.length+1:=x1
    have y1:(eKs (b::y)).length=y.length+1:=y1
    obtain⟨A,hA⟩:∃z,z=eKs (a::x):=⟨_,rfl⟩
    obtain⟨B,hB⟩:∃z,z=eKs (b::y):=⟨_,rfl⟩
    obtain⟨C,hCw⟩:∃z,z=eKs w:=⟨_,rfl⟩
    rw[<- hA] at x1 xm ea ta ⊢
    rw[<- hB] at y1 ym eb tb ⊢
    rw[<- hCw] at w1 wm hbw ⊢
    have hpa:(0:Int)<A.length:=by omega
    have hpb:(0:Int)<B.length:=by omega
    by_cases h0:c<0
    ·rw[if_pos h0] at i1
     clear hc hQ
     repeat' first|refine st ?_|((with_reducible apply go_i);conv=>whnf)|refine⟨λ_=>?_,λ_=>?_⟩|fail
     rw[tb,hA]
     have hw:eKs (w++[b])=C++[[.sl (eVs b.key),b.rw.d]]:=by rw[eKs_app,hCw];rfl
     exact⟨a::x,y,w++[b],by rw[hw],rfl,by rw[hw];simp,by simp only[List.length_cons];omega,by rw[i1,List.append_assoc];rfl,i2,λr h=>i3 r (List.mem_cons_of_mem _ h)⟩
    ·rw[if_neg h0] at i1
     clear hc hQ
     repeat' first|refine st ?_|((with_reducible apply go_i);conv=>whnf)|refine⟨λ_=>?_,λ_=>?_⟩|fail
     rw[ta,hB]
     have hw:eKs (w++[a])=C++[[.sl (eVs a.key),a.rw.d]]:=by rw[eKs_app,hCw];rfl
     exact⟨x,b::y,w++[a],by rw[hw],rfl,by rw[hw];simp,by simp only[List.length_cons];omega,by rw[i1,List.append_assoc];rfl,λr h=>i2 r (List.mem_cons_of_mem _ h),i3⟩
end Go.Proofs
end
section
namespace Go.Proofs
open Go.Bi
def iAt(ks:List Int)(k:Int):Int:=(ks[k.toNat]?).getD 0
theorem iAt_get{ks:List Int}{k:Int}(h:¬k<0)(h2:¬(ks.length:Int)<=k):ks[k.toNat]?=some (iAt ks k):=by
 unfold iAt
 rw[List.getElem?_eq_getElem (by omega)];rfl
def agK(ks:List Int)(a:Ag):Int×Int:=
 if a.op=1\/a.op=2\/a.op=3\/a.op=4 then
  if a.arg=-1/\a.op=1 then (1,0)
  else if a.arg<0\/ks.length<=a.arg then (0,6)
  else if a.op=2/\iAt ks a.arg≠1 then (0,7)
  else if a.op=3\/a.op=4 then (iAt ks a.arg,0) else (1,0)
 else (0,7)
def grpA(ks:List Int):List Int->List Ag->List Int×Int
 |w,[]=>(w,0)
 |w,a::r=>if (agK ks a).2=0 then grpA ks (w++[(agK ks a).1]) r else ([],(agK ks a).2)
def grpK(ks:List Int)(ags:List Ag):List Int->List Int->List Int×Int
 |w,[]=>grpA ks w ags
 |w,k::r=>if k<0\/ks.length<=k then ([],6) else grpK ks ags (w++[iAt ks k]) r
def grpF(ks keys:List Int)(ags:List Ag):List Int×Int:=grpK ks ags [] keys
theorem C.r21_Grouped(ks:List Int)(hks:ks.length<=1048576)(dk:D)(hdk:SlD dk (eIs ks))(keys:List Int)(hkl:keys.length<=1048576)(dy:D)(hdy:SlD dy (eIs keys))(ags:List Ag)(hal:ags.length<=1048576)(da:D)(hda:SlD da (eAs ags)) :
  Pure Tryz.prog N.bt_ref21_Grouped [.d dk,.d dy,.d da] (.tup [.d (slD (eIs (grpF ks keys ags).1).isEmpty (eIs (grpF ks keys ags).1)),.d (eI (grpF ks keys ags).2)]):=by
 have l1:=eIs_len ks
 have m1:=eIs_mem ks
 have g1:=λi r=>@eIs_get ks i r
 obtain⟨es,hes⟩:∃z,z=eIs ks:=⟨_,rfl⟩
 rw[<- hes] at hdk l1 m1 g1
 have l2:=eIs_len keys
 have m2:=eIs_mem keys
 have g2:=λi r=>@eIs_get keys i r
 obtain⟨fs,hfs⟩:∃z,z=eIs keys:=⟨_,rfl⟩
 rw[<- hfs] at hdy l2 m2 g2
 have l3:=eAs_len ags
 have m3:=eAs_mem ags
 have g3:=λi r=>@eAs_get ags i r
 obtain⟨gs,hgs⟩:∃z,z=eAs ags:=⟨_,rfl⟩
 rw[<- hgs] at hda l3 m3 g3
 clear hes hfs hgs
 obtain⟨q,hq⟩:∃q,q=grpF ks keys ags:=⟨_,rfl⟩
 rw[<- hq]
 have hq:q=grpK ks ags [] keys:=hq
 refine F.bt_ref21_Grouped.go mixed rfl ?_
 repeat' first|refine st ?_|((with_reducible apply go_i);conv=>whnf)|refine⟨λ_=>?_,λ_=>?_⟩|fail
 refine x_nil 8 1 rfl rfl ?_
 refine x_loop2 mixed Lt.bt_ref21_Grouped_l0 Lk.bt_ref21_Grouped_l0 (λ(i:Nat) (w:List Int)=>[.arr 0 (eIs w).length,.d (eI i)]) (λi w=>[.arr (eIs w) 1 0 (eIs w).isEmpty]) (λi w=>i<=keys.length/\w.length=i/\q=grpK ks ags w (keys.drop i)) (λi w=>keys.length-i) 0 [] rfl rfl rfl rfl (λ_ _ _=>⟨rfl,rfl⟩) rfl ⟨by omega,rfl,hq⟩ ?_
 repeat' first|refine st ?_|((with_reducible apply go_i);conv=>whnf)|refine⟨λ_=>?_,λ_=>?_⟩|fail
 intro i w ⟨i1,i2,i3⟩
 clear hq
 have hw1:=eIs_len w
 have hwm:=eIs_mem w
 have hbd:((eIs w).length+1)*8<=140737488355328:=by omega
 have happ:=λk:Int=>show eIs (w++[k])=eIs w++[[eI k]] by simp[eIs]
 have hne:=λk:Int=>show(eIs (w++[k])).isEmpty=false by simp[eIs]
 cases hi:keys[i]? with
 |some k=>
  have hlt:=(List.getElem?_eq_some_iff.1 hi).1
  have hil:(i:Int)<fs.length:=by omega
  have hg:fs[((i:Nat):Int).toNat]?=some [eI k]:=g2 i k hi
  have dx':keys.drop i=k::keys.drop (i+1):=by rw[List.drop_eq_getElem_cons hlt,(List.getElem?_eq_some_iff.1 hi).2]
  rw[dx',grpK] at i3
  obtain⟨A,hA⟩:∃z,z=eIs w:=⟨_,rfl⟩
  rw[<- hA] at hw1 hwm hbd ⊢
  by_cases h1:k<0
  ·rw[if_pos (.inl h1)] at i3
   subst i3
   clear hi g2 hA happ hne g1 g3 dx'
   repeat' first|refine st ?_|((with_reducible apply go_i);conv=>whnf)|refine⟨λ_=>?_,λ_=>?_⟩|fail
   all_goals rfl
  by_cases h2:(ks.length:Int)<=k
  ·rw[if_pos (.inr h2)] at i3
   subst i3
   clear hi g2 hA happ hne g1 g3 dx'
   have h2:(es.length:Int)<=k:=by omega
   repeat' first|refine st ?_|((with_reducible apply go_i);conv=>whnf)|refine⟨λ_=>?_,λ_=>?_⟩|fail
   all_goals rfl
  ·rw[if_neg (λh=>h.elim h1 h2)] at i3
   have hk:=g1 _ _ (iAt_get h1 h2)
   have happ:=happ (iAt ks k)
   have hne:=hne (iAt ks k)
   rw[<- hA] at happ
   obtain⟨v,hv⟩:∃z,z=iAt ks k:=⟨_,rfl⟩
   rw[<- hv] at hk happ hne i3
   have h2:¬(es.length:Int)<=k:=by omega
   clear hi g2 g1 g3 dx' hv
   repeat' first|refine st ?_|((with_reducible apply go_i);conv=>whnf)|refine⟨λ_=>?_,λ_=>?_⟩|fail
   exact⟨i+1,w++[v],by rw[happ];simp,rfl,by rw[hne,happ];simp,by omega,by omega,by simp;omega,i3⟩
 |none=>
  have hge:=List.getElem?_eq_none_iff.1 hi
  have hil:(fs.length:Int)<=i:=by omega
  rw[List.drop_eq_nil_of_le hge,grpK] at i3
  clear hi g2 happ hne
  repeat' first|refine st ?_|((with_reducible apply go_i);conv=>whnf)|refine⟨λ_=>?_,λ_=>?_⟩|fail
  refine x_loop2 mixed Lt.bt_ref21_Grouped_l1 Lk.bt_ref21_Grouped_l1 (λ(j:Nat) (u:List Int)=>[.arr 0 (eIs u).length,.d (eI j)]) (λj u=>[.arr (eIs u) 1 0 (eIs u).isEmpty]) (λj u=>j<=ags.length/\u.length=i+j/\q=grpA ks u (ags.drop j)) (λj u=>ags.length-j) 0 w rfl rfl rfl rfl (λ_ _ _=>⟨rfl,rfl⟩) rfl ⟨by omega,by omega,i3⟩ ?_
  repeat' first|refine st ?_|((with_reducible apply go_i);conv=>whnf)|refine⟨λ_=>?_,λ_=>?_⟩|fail
  intro j u ⟨j1,j2,j3⟩
  clear hw1 hwm hbd i3
  have hu1:=eIs_len u
  have hum:=eIs_mem u
  have hbd:((eIs u).length+1)*8<=140737488355328:=by omega
  have happ:=λk:Int=>show eIs (u++[k])=eIs u++[[eI k]] by simp[eIs]
  have hne:=λk:Int=>show(eIs (u++[k])).isEmpty=false by simp[eIs]
  obtain⟨A,hA⟩:∃z,z=eIs u:=⟨_,rfl⟩
  rw[<- hA] at hu1 hum hbd ⊢
  cases hj:ags[j]? with
  |some a=>
   have hlt:=(List.getElem?_eq_some_iff.1 hj).1
   have hjl:(j:Int)<gs.length:=by omega
   have hg:gs[((j:Nat):Int).toNat]?=some [eI a.op,eI a.arg]:=g3 j a hj
   have dx':ags.drop j=a::ags.drop (j+1):=by rw[List.drop_eq_getElem_cons hlt,(List.getElem?_eq_some_iff.1 hj).2]
   rw[dx',grpA] at j3
   have hgk:=λh1 h2=>g1 _ _ (iAt_get (ks:=ks) (k:=a.arg) h1 h2)
   have hak:agK ks a=if a.op=1\/a.op=2\/a.op=3\/a.op=4 then
    if a.arg=-1/\a.op=1 then (1,0)
    else if a.arg<0\/ks.length<=a.arg then (0,6)
    else if a.op=2/\iAt ks a.arg≠1 then (0,7)
    else if a.op=3\/a.op=4 then (iAt ks a.arg,0) else (1,0)
    else (0,7):=rfl
   obtain⟨v,hv⟩:∃z,z=iAt ks a.arg:=⟨_,rfl⟩
   rw[<- hv] at hgk hak
   obtain⟨K,hK⟩:∃z,z=agK ks a:=⟨_,rfl⟩
   rw[<- hK] at hak j3
   obtain⟨op,ar⟩:=a
   dsimp only at hg hgk hak
   rw[<- l1] at hak hgk
   clear hj g1 g3 dx' hv hK
   have err:∀e:Int,e≠0->K=(0,e)->q=([],e):=λe he h=>by rw[j3,h,if_neg he]
   have okk:∀k:Int,K=(k,0)->q=grpA ks (u++[k]) (ags.drop (j+1)):=λk h=>by rw[j3,h,if_pos rfl]
   clear j3
   by_cases c0:op=1\/op=2\/op=3\/op=4
   ·rw[if_pos c0] at hak
    by_cases c1:ar=-1/\op=1
    ·rw[if_pos c1] at hak
     obtain⟨rfl,rfl⟩:=c1
     have okk:=okk _ hak
     have happ:=happ 1
     have hne:=hne 1
     rw[<- hA] at happ
     clear err hak hgk c0
     repeat' first|refine st ?_|((with_reducible apply go_i);conv=>whnf)|refine⟨λ_=>?_,λ_=>?_⟩|fail
     exact⟨j+1,u++[1],by rw[happ];simp,rfl,by rw[hne,happ];simp,by omega,by omega,by simp;omega,okk⟩
    rw[if_neg c1] at hak
    by_cases c2:ar<0\/es.length<=ar
    ·rw[if_pos c2] at hak
     have err:=err 6 (by decide) hak
     subst err
     clear okk hak hgk happ hne hA
     rcases c2 with c2|c2
     ·rcases c0 with rfl|rfl|rfl|rfl
      ·have c1:¬ar=-1:=λh=>c1 ⟨h,rfl⟩
       repeat' first|refine st ?_|((with_reducible apply go_i);conv=>whnf)|refine⟨λ_=>?_,λ_=>?_⟩|fail
       all_goals rfl
      all_goals clear c1
      all_goals skip
      all_goals repeat' first|refine st ?_|((with_reducible apply go_i);conv=>whnf)|refine⟨λ_=>?_,λ_=>?_⟩|fail
      all_goals rfl
     ·have c3:¬ar<0:=by omega
      have c4:¬ar=-1:=by omega
      rcases c0 with rfl|rfl|rfl|rfl
      all_goals clear c1
      all_goals skip
      all_goals repeat' first|refine st ?_|((with_reducible apply go_i);conv=>whnf)|refine⟨λ_=>?_,λ_=>?_⟩|fail
      all_goals rfl
    rw[if_neg c2] at hak
    have c3:¬ar<0:=λh=>c2 (.inl h)
    have c4:¬(es.length:Int)<=ar:=λh=>c2 (.inr h)
    have hg2:=hgk c3 c4
    have c5:¬ar=-1:=by omega
    clear hgk c1 c2
    rcases c0 with rfl|rfl|rfl|rfl
    ·have okk:=okk _ hak
     have happ:=happ 1
     have hne:=hne 1
     rw[<- hA] at happ
     clear err hak
     repeat' first|refine st ?_|((with_reducible apply go_i);conv=>whnf)|refine⟨λ_=>?_,λ_=>?_⟩|fail
     exact⟨j+1,u++[1],by rw[happ];simp,rfl,by rw[hne,happ];simp,by omega,by omega,by simp;omega,okk⟩
    ·by_cases c6:v=1
     ·subst c6
      have okk:=okk 1 (by rw[hak];simp)
      have happ:=happ 1
      have hne:=hne 1
      rw[<- hA] at happ
      clear err hak
      repeat' first|refine st ?_|((with_reducible apply go_i);conv=>whnf)|refine⟨λ_=>?_,λ_=>?_⟩|fail
      exact⟨j+1,u++[1],by rw[happ];simp,rfl,by rw[hne,happ];simp,by omega,by omega,by simp;omega,okk⟩
     ·have err:=err 7 (by decide) (by rw[hak,if_pos ⟨rfl,c6⟩])
      subst err
      clear okk hak happ hne hA
      repeat' first|refine st ?_|((with_reducible apply go_i);conv=>whnf)|refine⟨λ_=>?_,λ_=>?_⟩|fail
      all_goals rfl
    all_goals
     have okk:=okk v (by rw[hak];simp)
     have happ:=happ v
     have hne:=hne v
     rw[<- hA] at happ
     clear err hak
    all_goals skip
    all_goals repeat' first|refine st ?_|((with_reducible apply go_i);conv=>whnf)|refine⟨λ_=>?_,λ_=>?_⟩|fail
    all_goals exact⟨j+1,u++[v],by rw[happ];simp,rfl,by rw[hne,happ];simp,by omega,by omega,by simp;omega,okk⟩
   ·rw[if_neg c0] at hak
    have err:=err 7 (by decide) hak
    subst err
    have d1:¬op=1:=λh=>c0 (.inl h)
    have d2:¬op=2:=λh=>c0 (.inr (.inl h))
    have d3:¬op=3:=λh=>c0 (.inr (.inr (.inl h)))
    have d4:¬op=4:=λh=>c0 (.inr (.inr (.inr h)))
    clear okk hak happ hne hA hgk c0
    repeat' first|refine st ?_|((with_reducible apply go_i);conv=>whnf)|refine⟨λ_=>?_,λ_=>?_⟩|fail
    all_goals rfl
  |none=>
   have hge2:=List.getElem?_eq_none_iff.1 hj
   have hjl:(gs.length:Int)<=j:=by omega
   rw[List.drop_eq_nil_of_le hge2] at j3
   have j3:q=(u,0):=j3
   subst j3
   dsimp only
   rw[<- hA]
   clear hj g1 g3 happ hne hA
   repeat' first|refine st ?_|((with_reducible apply go_i);conv=>whnf)|refine⟨λ_=>?_,λ_=>?_⟩|fail
   all_goals (cases A<;>rfl)
end Go.Proofs
end
