/- Texts of this claim, joined. No condition. -/
import Derived.Test.YtfnaleemmeejcaaGreatQ1
import Derived.LoopN
set_option linter.unusedSimpArgs false
set_option linter.unusedVariables false
set_option maxRecDepth 10000
set_option maxHeartbeats 4000000
section
namespace Go.Proofs
open Go.Bi
theorem Pl.cuto(o:Po)(ni:Bool)(ins:List Pl):∃(xo xn:Int)(xv:Vl)(xm:List UInt8)(xd:D),(Pl.mk o ni ins).av=ePl o.op o.n o.dk o.dr xo xn xv xm xd o.dx o.dy o.da (ng ni (pL ins))/\o.pred.av=eX xo xn xv xm xd:=by
 cases hp:o.pred with
 |mk xo xn xv xm xl xa=>exact⟨xo,xn,xv,xm,_,Pl.av_eq o ni ins xo xn xv xm xl xa hp,Ex.av_mk ..⟩
theorem Pl.cut(p:Pl):∃(op n:Int)(dk dr:D)(xo xn:Int)(xv:Vl)(xm:List UInt8)(xd dx dy da di:D),p.ds=ePld op n dk dr xo xn xv xm xd dx dy da di/\p.av=ePl op n dk dr xo xn xv xm xd dx dy da di:=by
 obtain⟨o,ni,ins⟩:=p
 cases hp:o.pred with
 |mk xo xn xv xm xl xa=>exact⟨_,_,_,_,_,_,_,_,_,_,_,_,_,Pl.ds_eq o ni ins xo xn xv xm xl xa hp,Pl.av_eq o ni ins xo xn xv xm xl xa hp⟩
mutual
def dpP:Pl->Nat
 |.mk _ _ ins=>dpPs ins+1
def dpPs:List Pl->Nat
 |[]=>0
 |p::r=>max (dpP p) (dpPs r)
end
theorem dpPs_snoc:∀(l:List Pl)(p:Pl),dpPs (l++[p])=max (dpPs l) (dpP p)
 |[],p=>by simp[dpPs]
 |a::l,p=>by
  show max (dpP a) (dpPs (l++[p]))=max (max (dpP a) (dpPs l)) (dpP p)
  rw[dpPs_snoc l p,Nat.max_assoc]
theorem dpPs_take{l:List Pl}{i:Nat}{p:Pl}(h:l[i]?=some p):dpPs (l.take (i+1))=max (dpPs (l.take i)) (dpP p):=by
 rw[List.take_add_one,h];exact dpPs_snoc _ _
theorem dpPs_le{l:List Pl}{B:Nat}(h:∀p∈l,dpP p<=B):dpPs l<=B:=by
 induction l with
 |nil=>exact Nat.zero_le _
 |cons a l ih=>exact Nat.max_le.2 ⟨h a (by simp),ih λp hp=>h p (by simp[hp])⟩
theorem dpP_bk:∀p:Pl,dpP p<=p.bk:=by
 refine Pl.ind λo ni ins ih=>?_
 have h:dpPs ins<=(Pl.mk o ni ins).bk-1:=dpPs_le λp hp=>by
  have h1:=ih p hp
  have h2:=Pl.bk_arg (o:=o) (ni:=ni) hp
  omega
 have:=Pl.bk_mk o ni ins
 show dpPs ins+1<=_
 omega
theorem C.r21_Depth:∀p:Pl,p.bk<=1048576->Pure Tryz.prog N.bt_ref21_Depth [p.av] (.d (eI (dpP p:Nat))):=by
 refine Pl.ind λo ni ins ih hb=>?_
 have hB:=Pl.bd hb
 obtain⟨xo,xn,xv,xm,xd,hav,_⟩:=Pl.cuto o ni ins
 have hdd:=dpP_bk (.mk o ni ins)
 have hq:dpP (.mk o ni ins)=dpPs ins+1:=rfl
 rw[hav]
 have hdi:SlD (ng ni (pL ins)) (pL ins):=sld_ng
 obtain⟨dk,e1⟩:∃d,d=o.dk:=⟨_,rfl⟩
 obtain⟨dr,e2⟩:∃d,d=o.dr:=⟨_,rfl⟩
 obtain⟨dx,e3⟩:∃d,d=o.dx:=⟨_,rfl⟩
 obtain⟨dy,e4⟩:∃d,d=o.dy:=⟨_,rfl⟩
 obtain⟨da,e5⟩:∃d,d=o.da:=⟨_,rfl⟩
 obtain⟨di,e6⟩:∃d,d=ng ni (pL ins):=⟨_,rfl⟩
 rw[<- e1,<- e2,<- e3,<- e4,<- e5,<- e6]
 rw[<- e6] at hdi
 clear e1 e2 e3 e4 e5 e6 hav
 have l1:=pL_len ins
 have m1:=pL_mem ins
 have g1:=λi p=>@pL_get ins i p
 obtain⟨es,hes⟩:∃z,z=pL ins:=⟨_,rfl⟩
 rw[<- hes] at hdi l1 m1 g1
 clear hes
 obtain⟨q,hqq⟩:∃q,q=dpP (.mk o ni ins):=⟨_,rfl⟩
 rw[<- hqq] at hq hdd ⊢
 have hil:=hB.il
 refine F.bt_ref21_Depth.go mixed rfl ?_
 repeat' first|refine st ?_|((with_reducible apply go_i);conv=>whnf)|refine⟨λ_=>?_,λ_=>?_⟩|fail
 refine x_loop1 mixed Lt.bt_ref21_Depth_l0 Lk.bt_ref21_Depth_l0 (λ(i:Nat)=>[.d (eI (dpPs (ins.take i):Nat)),.d (eI i)]) (λi=>[.cells [.d (eI o.op),.d (eI o.n),.d dk,.d dr,.d (eI xo),.d (eI xn),.d (eI xv.k),.d (eI xv.n),.d (.str xv.s),.d (.str xm),.d xd,.d dx,.d dy,.d da,.d di]]) (λi=>i<=ins.length) (λi=>ins.length-i) 0 rfl rfl rfl rfl (λ_ _=>⟨rfl,rfl⟩) rfl (by omega) ?_
 repeat' first|refine st ?_|((with_reducible apply go_i);conv=>whnf)|refine⟨λ_=>?_,λ_=>?_⟩|fail
 intro i i1
 cases hx:ins[i]? with
 |some p=>
  have hlt:=(List.getElem?_eq_some_iff.1 hx).1
  have hilt:(i:Int)<es.length:=by omega
  have hg:=g1 i p hx
  have hI:=ih p (List.mem_of_getElem? hx) (hB.sub p (List.mem_of_getElem? hx))
  have htk:=dpPs_take hx
  obtain⟨op',n',dk',dr',xo',xn',xv',xm',xd',dx',dy',da',di',c1,c2⟩:=Pl.cut p
  have hg:es[((i:Nat):Int).toNat]?=some (ePld op' n' dk' dr' xo' xn' xv' xm' xd' dx' dy' da' di'):=by rw[<- c1];exact hg
  rw[c2] at hI
  obtain⟨u,hu⟩:∃u,u=dpPs (ins.take i):=⟨_,rfl⟩
  obtain⟨v,hv⟩:∃u,u=dpP p:=⟨_,rfl⟩
  rw[<- hu,<- hv] at htk
  rw[<- hv] at hI
  rw[<- hu]
  clear c1 c2 hx hv ih g1
  repeat' first|refine st ?_|((with_reducible apply go_i);conv=>whnf)|refine⟨λ_=>?_,λ_=>?_⟩|fail
  exact⟨i+1,by rw[htk,show((max u v:Nat):Int)=max (u:Int) v by omega];rfl,rfl,rfl,by omega,by omega⟩
 |none=>
  have hge:=List.getElem?_eq_none_iff.1 hx
  have hilt:(es.length:Int)<=i:=by omega
  rw[List.take_of_length_le hge]
  obtain⟨u,hu⟩:∃u,u=dpPs ins:=⟨_,rfl⟩
  rw[<- hu] at hq ⊢
  subst hq
  clear hx ih g1 hu
  repeat' first|refine st ?_|((with_reducible apply go_i);conv=>whnf)|refine⟨λ_=>?_,λ_=>?_⟩|fail
  all_goals rfl
theorem C.r20_Depth:∀p:Pl,p.bk<=1048576->Pure Tryz.prog N.bt_ref20_Depth [p.av] (.d (eI (dpP p:Nat))):=by
 refine Pl.ind λo ni ins ih hb=>?_
 have hB:=Pl.bd hb
 obtain⟨xo,xn,xv,xm,xd,hav,_⟩:=Pl.cuto o ni ins
 have hdd:=dpP_bk (.mk o ni ins)
 have hq:dpP (.mk o ni ins)=dpPs ins+1:=rfl
 rw[hav]
 have hdi:SlD (ng ni (pL ins)) (pL ins):=sld_ng
 obtain⟨dk,e1⟩:∃d,d=o.dk:=⟨_,rfl⟩
 obtain⟨dr,e2⟩:∃d,d=o.dr:=⟨_,rfl⟩
 obtain⟨dx,e3⟩:∃d,d=o.dx:=⟨_,rfl⟩
 obtain⟨dy,e4⟩:∃d,d=o.dy:=⟨_,rfl⟩
 obtain⟨da,e5⟩:∃d,d=o.da:=⟨_,rfl⟩
 obtain⟨di,e6⟩:∃d,d=ng ni (pL ins):=⟨_,rfl⟩
 rw[<- e1,<- e2,<- e3,<- e4,<- e5,<- e6]
 rw[<- e6] at hdi
 clear e1 e2 e3 e4 e5 e6 hav
 have l1:=pL_len ins
 have m1:=pL_mem ins
 have g1:=λi p=>@pL_get ins i p
 obtain⟨es,hes⟩:∃z,z=pL ins:=⟨_,rfl⟩
 rw[<- hes] at hdi l1 m1 g1
 clear hes
 obtain⟨q,hqq⟩:∃q,q=dpP (.mk o ni ins):=⟨_,rfl⟩
 rw[<- hqq] at hq hdd ⊢
 have hil:=hB.il
 refine F.bt_ref20_Depth.go mixed rfl ?_
 repeat' first|refine st ?_|((with_reducible apply go_i);conv=>whnf)|refine⟨λ_=>?_,λ_=>?_⟩|fail
 refine x_loop1 mixed Lt.bt_ref20_Depth_l0 Lk.bt_ref20_Depth_l0 (λ(i:Nat)=>[.d (eI (dpPs (ins.take i):Nat)),.d (eI i)]) (λi=>[.cells [.d (eI o.op),.d (eI o.n),.d dk,.d dr,.d (eI xo),.d (eI xn),.d (eI xv.k),.d (eI xv.n),.d (.str xv.s),.d (.str xm),.d xd,.d dx,.d dy,.d da,.d di]]) (λi=>i<=ins.length) (λi=>ins.length-i) 0 rfl rfl rfl rfl (λ_ _=>⟨rfl,rfl⟩) rfl (by omega) ?_
 repeat' first|refine st ?_|((with_reducible apply go_i);conv=>whnf)|refine⟨λ_=>?_,λ_=>?_⟩|fail
 intro i i1
 cases hx:ins[i]? with
 |some p=>
  have hlt:=(List.getElem?_eq_some_iff.1 hx).1
  have hilt:(i:Int)<es.length:=by omega
  have hg:=g1 i p hx
  have hI:=ih p (List.mem_of_getElem? hx) (hB.sub p (List.mem_of_getElem? hx))
  have htk:=dpPs_take hx
  obtain⟨op',n',dk',dr',xo',xn',xv',xm',xd',dx',dy',da',di',c1,c2⟩:=Pl.cut p
  have hg:es[((i:Nat):Int).toNat]?=some (ePld op' n' dk' dr' xo' xn' xv' xm' xd' dx' dy' da' di'):=by rw[<- c1];exact hg
  rw[c2] at hI
  obtain⟨u,hu⟩:∃u,u=dpPs (ins.take i):=⟨_,rfl⟩
  obtain⟨v,hv⟩:∃u,u=dpP p:=⟨_,rfl⟩
  rw[<- hu,<- hv] at htk
  rw[<- hv] at hI
  rw[<- hu]
  clear c1 c2 hx hv ih g1
  repeat' first|refine st ?_|((with_reducible apply go_i);conv=>whnf)|refine⟨λ_=>?_,λ_=>?_⟩|fail
  exact⟨i+1,by rw[htk,show((max u v:Nat):Int)=max (u:Int) v by omega];rfl,rfl,rfl,by omega,by omega⟩
 |none=>
  have hge:=List.getElem?_eq_none_iff.1 hx
  have hilt:(es.length:Int)<=i:=by omega
  rw[List.take_of_length_le hge]
  obtain⟨u,hu⟩:∃u,u=dpPs ins:=⟨_,rfl⟩
  rw[<- hu] at hq ⊢
  subst hq
  clear hx ih g1 hu
  repeat' first|refine st ?_|((with_reducible apply go_i);conv=>whnf)|refine⟨λ_=>?_,λ_=>?_⟩|fail
  all_goals rfl
def tmN(a b:Int):Int:=if 0<a/\(1099511627776:Int).tdiv a<b then 1099511627776 else a*b
theorem tmN_bd{a b:Int}(ha:0<=a)(hb:0<=b):0<=tmN a b/\tmN a b<=1099511627776/\(¬(0<a/\(1099511627776:Int).tdiv a<b)->0<=a*b/\a*b<=1099511627776):=by
 have key:¬(0<a/\(1099511627776:Int).tdiv a<b)->0<=a*b/\a*b<=1099511627776:=λh=>by
  refine⟨Int.mul_nonneg ha hb,?_⟩
  by_cases h0:0<a
  ·have h1:b<=(1099511627776:Int).tdiv a:=by
    by_cases h2:(1099511627776:Int).tdiv a<b
    ·exact absurd ⟨h0,h2⟩ h
    ·omega
   rw[Int.tdiv_eq_ediv_of_nonneg (by decide)] at h1
   exact Int.le_trans (Int.mul_le_mul_of_nonneg_left h1 ha) (Int.mul_ediv_self_le (by omega))
  ·have:a=0:=by omega
   rw[this,Int.zero_mul];decide
 unfold tmN
 by_cases h:0<a/\(1099511627776:Int).tdiv a<b
 ·rw[if_pos h];exact⟨by decide,by decide,λg=>absurd h g⟩
 ·rw[if_neg h];exact⟨(key h).1,(key h).2,key⟩
theorem C.r48_times(a b:Int)(ha:0<=a)(hb:0<=b):Pure Tryz.prog N.bt_ref48_times [.d (eI a),.d (eI b)] (.d (eI (tmN a b))):=by
 obtain⟨_,_,h3⟩:=tmN_bd ha hb
 obtain⟨q,hq⟩:∃q,q=tmN a b:=⟨_,rfl⟩
 rw[<- hq]
 unfold tmN at hq
 by_cases h0:0<a
 ·have hne:¬a=0:=by omega
  obtain⟨m,hm⟩:∃m,m=(1099511627776:Int).tdiv a:=⟨_,rfl⟩
  have hmd:(1099511627776:Int).tdiv a=1099511627776 / a:=Int.tdiv_eq_ediv_of_nonneg (by decide)
  have hm0:0<=m:=by rw[hm,hmd];exact Int.ediv_nonneg (by decide) ha
  have hm1:m<=1099511627776:=by rw[hm,hmd];exact Int.ediv_le_self _ (by decide)
  clear hmd
  rw[<- hm] at hq h3
  by_cases h1:m<b
  ·rw[if_pos ⟨h0,h1⟩] at hq
   subst hq
   refine F.bt_ref48_times.go mixed rfl ?_
   repeat' first|refine st ?_|((with_reducible apply go_i);conv=>whnf)|refine⟨λ_=>?_,λ_=>?_⟩|fail
   all_goals first|rfl|(exfalso;omega)
  ·rw[if_neg λh=>h1 h.2] at hq
   obtain⟨k1,k2⟩:=h3 λh=>h1 h.2
   subst hq
   obtain⟨z,hz⟩:∃z,z=a*b:=⟨_,rfl⟩
   rw[<- hz] at k1 k2 ⊢
   refine F.bt_ref48_times.go mixed rfl ?_
   repeat' first|(rw[<- hz])|refine st ?_|((with_reducible apply go_i);conv=>whnf)|refine⟨λ_=>?_,λ_=>?_⟩|fail
   all_goals first|rfl|(exfalso;omega)
 ·have h0':a=0:=by omega
  subst h0'
  rw[if_neg λh=>h0 h.1,Int.zero_mul] at hq
  subst hq
  refine F.bt_ref48_times.go mixed rfl ?_
  repeat' first|refine st ?_|((with_reducible apply go_i);conv=>whnf)|refine⟨λ_=>?_,λ_=>?_⟩|fail
  all_goals (rw[Int.zero_mul])
theorem C.optimize_product(a b:Int)(ha:0<=a)(hb:0<=b):Pure Tryz.prog N.optimize_product [.d (eI a),.d (eI b)] (.d (eI (tmN a b))):=by
 obtain⟨_,_,h3⟩:=tmN_bd ha hb
 obtain⟨q,hq⟩:∃q,q=tmN a b:=⟨_,rfl⟩
 rw[<- hq]
 unfold tmN at hq
 by_cases h0:0<a
 ·have hne:¬a=0:=by omega
  obtain⟨m,hm⟩:∃m,m=(1099511627776:Int).tdiv a:=⟨_,rfl⟩
  have hmd:(1099511627776:Int).tdiv a=1099511627776 / a:=Int.tdiv_eq_ediv_of_nonneg (by decide)
  have hm0:0<=m:=by rw[hm,hmd];exact Int.ediv_nonneg (by decide) ha
  have hm1:m<=1099511627776:=by rw[hm,hmd];exact Int.ediv_le_self _ (by decide)
  clear hmd
  rw[<- hm] at hq h3
  by_cases h1:m<b
  ·rw[if_pos ⟨h0,h1⟩] at hq
   subst hq
   refine F.optimize_product.go mixed rfl ?_
   repeat' first|refine st ?_|((with_reducible apply go_i);conv=>whnf)|refine⟨λ_=>?_,λ_=>?_⟩|fail
   all_goals first|rfl|(exfalso;omega)
  ·rw[if_neg λh=>h1 h.2] at hq
   obtain⟨k1,k2⟩:=h3 λh=>h1 h.2
   subst hq
   obtain⟨z,hz⟩:∃z,z=a*b:=⟨_,rfl⟩
   rw[<- hz] at k1 k2 ⊢
   refine F.optimize_product.go mixed rfl ?_
   repeat' first|(rw[<- hz])|refine st ?_|((with_reducible apply go_i);conv=>whnf)|refine⟨λ_=>?_,λ_=>?_⟩|fail
   all_goals first|rfl|(exfalso;omega)
 ·have h0':a=0:=by omega
  subst h0'
  rw[if_neg λh=>h0 h.1,Int.zero_mul] at hq
  subst hq
  refine F.optimize_product.go mixed rfl ?_
  repeat' first|refine st ?_|((with_reducible apply go_i);conv=>whnf)|refine⟨λ_=>?_,λ_=>?_⟩|fail
  all_goals (rw[Int.zero_mul])
end Go.Proofs
end
section
namespace Go.Proofs
open Go.Bi
abbrev mostN:Int:=1099511627776
def szF(rs:List Int)(o:Po)(a b:Int):Int:=
 if o.op=1 then (if 0<=o.n/\o.n<rs.length then min (max (rs.getD o.n.toNat 0) 0) mostN else 0)
 else if o.op=2 then (o.rows.length:Int)
 else if o.op=3\/o.op=4\/o.op=10\/o.op=8 then a
 else if o.op=5 then tmN a b else if o.op=6 then tmN a (max b 1) else if o.op=7 then min (a+b) mostN else if o.op=9 then min a b
 else if o.op=11 then (if o.keys.length=0 then 1 else a) else 0
mutual
def szP(rs:List Int):Pl->Int
 |.mk o _ ins=>szF rs o ((szPs rs ins).getD 0 0) ((szPs rs ins).getD 1 0)
def szPs(rs:List Int):List Pl->List Int
 |[]=>[]
 |p::r=>szP rs p::szPs rs r
end
theorem szPs_get(rs:List Int):∀(l:List Pl)(i:Nat),(szPs rs l)[i]?=(l[i]?).map (szP rs)
 |[],i=>by simp[szPs]
 |p::r,0=>by simp[szPs]
 |p::r,i+1=>by simp only[szPs,List.getElem?_cons_succ];exact szPs_get rs r i
theorem szPs_getD(rs:List Int)(l:List Pl)(i:Nat):(szPs rs l).getD i 0=((l[i]?).map (szP rs)).getD 0:=by
 rw[List.getD_eq_getElem?_getD,szPs_get]
theorem szF_bd{rs:List Int}{o:Po}{a b:Int}(ho:o.rows.length<=1048576)(ha:0<=a/\a<=mostN)(hb:0<=b/\b<=mostN):0<=szF rs o a b/\szF rs o a b<=mostN:=by
 obtain⟨a1,a2⟩:=ha
 obtain⟨b1,b2⟩:=hb
 have h5:=tmN_bd a1 b1
 have h6:=tmN_bd a1 (show 0<=max b 1 by omega)
 unfold szF
 unfold mostN at *
 split
 ·split<;>omega
 split
 ·omega
 split
 ·omega
 split
 ·exact⟨h5.1,h5.2.1⟩
 split
 ·exact⟨h6.1,h6.2.1⟩
 split
 ·omega
 split
 ·omega
 split
 ·split<;>omega
 ·omega
theorem szP_bd(rs:List Int):∀p:Pl,p.bk<=1048576->0<=szP rs p/\szP rs p<=mostN:=by
 refine Pl.ind λo ni ins ih hb=>?_
 have hB:=Pl.bd hb
 have key:∀i:Nat,0<=(szPs rs ins).getD i 0/\(szPs rs ins).getD i 0<=mostN:=λi=>by
  rw[szPs_getD]
  cases hx:ins[i]? with
  |none=>exact⟨Int.le_refl 0,show(0:Int)<=mostN by decide⟩
  |some p=>exact ih p (List.mem_of_getElem? hx) (hB.sub p (List.mem_of_getElem? hx))
 exact szF_bd hB.nr (key 0) (key 1)
theorem C.r48_Size(rs:List Int)(hrs:rs.length<=1048576)(dr':D)(hdr:SlD dr' (eIs rs)):∀p:Pl,p.bk<=1048576->Pure Tryz.prog N.bt_ref48_Size [p.av,.d dr'] (.d (eI (szP rs p))):=by
 refine Pl.ind λo ni ins ih hb=>?_
 have hB:=Pl.bd hb
 obtain⟨xo,xn,xv,xm,xd,hav,_⟩:=Pl.cuto o ni ins
 rw[hav]
 have hdi:SlD (ng ni (pL ins)) (pL ins):=sld_ng
 have hdy:SlD o.dy (eIs o.keys):=sld_ng
 have hdw:SlD o.dr (eRs o.rows):=sld_ng
 have kl:=eIs_len o.keys
 have wl:=eRs_len o.rows
 have hk1:=hB.keys
 have hw1:=hB.nr
 have hq:szP rs (.mk o ni ins)=szF rs o ((szPs rs ins).getD 0 0) ((szPs rs ins).getD 1 0):=rfl
 have hsub:=szP_bd rs
 rw[szPs_getD,szPs_getD] at hq
 obtain⟨q,hqq⟩:∃q,q=szP rs (.mk o ni ins):=⟨_,rfl⟩
 rw[<- hqq] at hq ⊢
 clear hqq
 have l1:=pL_len ins
 have m1:=pL_mem ins
 have hil:=hB.il
 -- the inputs' sizes
 have hA:(ins[0]?=none/\¬(0:Int)<(pL ins).length/\¬(1:Int)<(pL ins).length)\/∃(p:Pl) (op' n':Int) (dk' dr0:D) (xo' xn':Int) (xv':Vl) (xm':List UInt8) (xd' dx' dy' da' di':D),ins[0]?=some p/\(0:Int)<(pL ins).length/\(pL ins)[(0:Int).toNat]?=some (ePld op' n' dk' dr0 xo' xn' xv' xm' xd' dx' dy' da' di')/\Bi.Pure Tryz.prog N.bt_ref48_Size [ePl op' n' dk' dr0 xo' xn' xv' xm' xd' dx' dy' da' di',.d dr'] (.d (eI (szP rs p)))/\0<=szP rs p/\szP rs p<=mostN:=by
  cases hx:ins[0]? with
  |none=>
   have:=List.getElem?_eq_none_iff.1 hx
   exact .inl ⟨rfl,by omega,by omega⟩
  |some p=>
   have hlt:=(List.getElem?_eq_some_iff.1 hx).1
   have hpb:=hB.sub p (List.mem_of_getElem? hx)
   obtain⟨op',n',dk',dr0,xo',xn',xv',xm',xd',dx',dy',da',di',c1,c2⟩:=Pl.cut p
   have hI:=ih p (List.mem_of_getElem? hx) hpb
   rw[c2] at hI
   exact .inr ⟨p,op',n',dk',dr0,xo',xn',xv',xm',xd',dx',dy',da',di',rfl,by omega,by rw[<- c1];exact pL_get hx,hI,hsub p hpb⟩
 have hA1:(ins[1]?=none/\¬(1:Int)<(pL ins).length)\/∃(p:Pl) (op' n':Int) (dk' dr0:D) (xo' xn':Int) (xv':Vl) (xm':List UInt8) (xd' dx' dy' da' di':D),ins[1]?=some p/\(1:Int)<(pL ins).length/\(pL ins)[(1:Int).toNat]?=some (ePld op' n' dk' dr0 xo' xn' xv' xm' xd' dx' dy' da' di')/\Bi.Pure Tryz.prog N.bt_ref48_Size [ePl op' n' dk' dr0 xo' xn' xv' xm' xd' dx' dy' da' di',.d dr'] (.d (eI (szP rs p)))/\0<=szP rs p/\szP rs p<=mostN:=by
  cases hx:ins[1]? with
  |none=>
   have:=List.getElem?_eq_none_iff.1 hx
   exact .inl ⟨rfl,by omega⟩
  |some p=>
   have hlt:=(List.getElem?_eq_some_iff.1 hx).1
   have hpb:=hB.sub p (List.mem_of_getElem? hx)
   obtain⟨op',n',dk',dr0,xo',xn',xv',xm',xd',dx',dy',da',di',c1,c2⟩:=Pl.cut p
   have hI:=ih p (List.mem_of_getElem? hx) hpb
   rw[c2] at hI
   exact .inr ⟨p,op',n',dk',dr0,xo',xn',xv',xm',xd',dx',dy',da',di',rfl,by omega,by rw[<- c1];exact pL_get hx,hI,hsub p hpb⟩
 clear ih hsub
 obtain⟨op,n,nk,ki,nr,rows,pred,nx,xs,ny,keys,na,aggs⟩:=o
 dsimp only at hdy hdw kl wl hk1 hw1 hq
 obtain⟨dk,e1⟩:∃d,d=ng nk (eIs ki):=⟨_,rfl⟩
 obtain⟨dr,e2⟩:∃d,d=ng nr (eRs rows):=⟨_,rfl⟩
 obtain⟨dx,e3⟩:∃d,d=ng nx (xL xs):=⟨_,rfl⟩
 obtain⟨dy,e4⟩:∃d,d=ng ny (eIs keys):=⟨_,rfl⟩
 obtain⟨da,e5⟩:∃d,d=ng na (eAs aggs):=⟨_,rfl⟩
 obtain⟨di,e6⟩:∃d,d=ng ni (pL ins):=⟨_,rfl⟩
 show Bi.Pure Tryz.prog N.bt_ref48_Size [ePl op n (ng nk (eIs ki)) (ng nr (eRs rows)) xo xn xv xm xd (ng nx (xL xs)) (ng ny (eIs keys)) (ng na (eAs aggs)) (ng ni (pL ins)),.d dr'] (.d (eI q))
 rw[<- e1,<- e2,<- e3,<- e4,<- e5,<- e6]
 have hdy:SlD dy (eIs keys):=by rw[e4];exact hdy
 have hdw:SlD dr (eRs rows):=by rw[e2];exact hdw
 rw[<- e6] at hdi
 clear e1 e2 e3 e4 e5 e6 hav hB hb
 have r1:=eIs_len rs
 have rm:=eIs_mem rs
 have rg:=λi k=>@eIs_get rs i k
 have hops:op=1\/op=2\/op=3\/op=4\/op=5\/op=6\/op=7\/op=8\/op=9\/op=10\/op=11\/(op≠1/\op≠2/\op≠3/\op≠4/\op≠5/\op≠6/\op≠7/\op≠8/\op≠9/\op≠10/\op≠11):=by omega
 obtain⟨es,hes⟩:∃z,z=pL ins:=⟨_,rfl⟩
 rw[<- hes] at hdi l1 m1 hA hA1
 obtain⟨rr,hrr⟩:∃z,z=eIs rs:=⟨_,rfl⟩
 rw[<- hrr] at hdr r1 rm rg
 obtain⟨ww,hww⟩:∃z,z=eRs rows:=⟨_,rfl⟩
 rw[<- hww] at hdw wl
 obtain⟨kk,hkk⟩:∃z,z=eIs keys:=⟨_,rfl⟩
 rw[<- hkk] at hdy kl
 have wm:∀e∈ww,e.length=1:=by rw[hww];exact eRs_mem rows
 have km:∀e∈kk,e.length=1:=by rw[hkk];exact eIs_mem keys
 clear hes hrr hww hkk
 -- the sizes of the inputs
 have hAB:∃a b:Int,(0<=a/\a<=mostN)/\(0<=b/\b<=mostN)/\a=((ins[0]?).map (szP rs)).getD 0/\b=((ins[1]?).map (szP rs)).getD 0:=by
  refine⟨_,_,?_,?_,rfl,rfl⟩
  ·rcases hA with ⟨h,_⟩|⟨p,_,_,_,_,_,_,_,_,_,_,_,_,_,h,_,_,_,h3,h4⟩
   ·rw[h];exact⟨Int.le_refl 0,show(0:Int)<=mostN by decide⟩
   ·rw[h];exact⟨h3,h4⟩
  ·rcases hA1 with ⟨h,_⟩|⟨p,_,_,_,_,_,_,_,_,_,_,_,_,_,h,_,_,_,h3,h4⟩
   ·rw[h];exact⟨Int.le_refl 0,show(0:Int)<=mostN by decide⟩
   ·rw[h];exact⟨h3,h4⟩
 obtain⟨a,b,⟨a1,a2⟩,⟨b1,b2⟩,ea,eb⟩:=hAB
 rw[<- ea,<- eb] at hq
 have hT:=C.r48_times a b a1 b1
 have hT2:=C.r48_times a (max b 1) a1 (by omega)
 unfold mostN at a2 b2
 unfold szF at hq
 dsimp only at hq
 -- what the operator says
 have hcase:(op=1/\0<=n/\n<rr.length/\∃k:Int,rr[n.toNat]?=some [eI k]/\q=min (max k 0) 1099511627776)\/(op=1/\n<0/\q=0)\/(op=1/\0<=n/\(rr.length:Int)<=n/\q=0)\/(op=2/\q=ww.length)\/(op=3/\q=a)\/(op=4/\q=a)\/(op=10/\q=a)\/(op=8/\q=a)\/(op=5/\q=tmN a b)\/(op=6/\q=tmN a (max b 1))\/(op=7/\q=min (a+b) 1099511627776)\/(op=9/\q=min a b)\/(op=11/\(kk.length:Int)=0/\q=1)\/(op=11/\¬(kk.length:Int)=0/\q=a)\/
   ((op≠1/\op≠2/\op≠3/\op≠4/\op≠5/\op≠6/\op≠7/\op≠8/\op≠9/\op≠10/\op≠11)/\q=0):=by
  rcases hops with rfl|rfl|rfl|rfl|rfl|rfl|rfl|rfl|rfl|rfl|rfl|hops
  ·rw[if_pos rfl] at hq
   by_cases h1:0<=n/\n<rs.length
   ·rw[if_pos h1] at hq
    obtain⟨k,hk⟩:∃k,rs[n.toNat]?=some k:=⟨_,List.getElem?_eq_getElem (by omega)⟩
    rw[List.getD_eq_getElem?_getD,hk] at hq
    exact .inl ⟨rfl,h1.1,by omega,k,rg _ _ hk,hq⟩
   ·rw[if_neg h1] at hq
    by_cases h2:n<0
    ·exact .inr (.inl ⟨rfl,h2,hq⟩)
    ·exact .inr (.inr (.inl ⟨rfl,by omega,by omega,hq⟩))
  all_goals try (simp at hq)
  all_goals try (rw[wl];simp[hq];done)
  all_goals try (simp[hq];done)
  ·by_cases h0:keys=[]
   ·rw[if_pos h0] at hq
    have hk0:(kk.length:Int)=0:=by rw[kl,h0];rfl
    simp[hq,hk0]
   ·rw[if_neg h0] at hq
    have hk0:¬(kk.length:Int)=0:=by
     have:keys.length≠0:=λh=>h0 (List.length_eq_zero_iff.1 h)
     omega
    have hk1:¬kk=[]:=λh=>hk0 (by rw[h];rfl)
    simp[hq,hk1]
  ·obtain⟨o1,o2,o3,o4,o5,o6,o7,o8,o9,o10,o11⟩:=hops
   simp[o1,o2,o3,o4,o5,o6,o7,o8,o9,o10,o11] at hq
   simp[o1,o2,o3,o4,o5,o6,o7,o8,o9,o10,o11,hq]
 clear hq hops rg
 rcases hA with ⟨h,ha1,ha2⟩|⟨p,op',n',dk',dr0,xo',xn',xv',xm',xd',dx',dy',da',di',h,ha1,ha2,hP,_⟩<;>
 rcases hA1 with ⟨h',hb1⟩|⟨p',op1,n1,dk1,dr1,xo1,xn1,xv1,xm1,xd1,dx1,dy1,da1,di1,h',hb1,hb2,hP1,_⟩
 all_goals rw[h] at ea;rw[h'] at eb
 all_goals first
  |(have ea:a=szP rs p:=ea;rw[<- ea] at hP)
  |(have ea:a=0:=ea;subst ea)
 all_goals first
  |(have eb:b=szP rs p':=eb;rw[<- eb] at hP1)
  |(have eb:b=0:=eb;subst eb)
 all_goals clear h h' ea eb
 all_goals try (exfalso;omega;done)
 all_goals
  rcases hcase with ⟨rfl,z1,z2,k,z3,rfl⟩|⟨rfl,z1,rfl⟩|⟨rfl,z1,z2,rfl⟩|⟨rfl,rfl⟩|⟨rfl,rfl⟩|⟨rfl,rfl⟩|⟨rfl,rfl⟩|⟨rfl,rfl⟩|⟨rfl,rfl⟩|⟨rfl,rfl⟩|⟨rfl,rfl⟩|⟨rfl,rfl⟩|⟨rfl,z1,rfl⟩|⟨rfl,z1,rfl⟩|⟨⟨o1,o2,o3,o4,o5,o6,o7,o8,o9,o10,o11⟩,rfl⟩
 all_goals refine F.bt_ref48_Size.go mixed rfl ?_
 all_goals repeat' first|refine st ?_|((with_reducible apply go_i);conv=>whnf)|refine⟨λ_=>?_,λ_=>?_⟩|fail
 all_goals rfl
end Go.Proofs
end
section
namespace Go.Proofs
open Go.Bi
def cnt(op n:Int):Bool×Bool:=
 if op=1\/op=2 then (decide (n=0),true)
 else if op=4\/op=18\/op=20\/op=21 then (decide (n=1),true)
 else if op=7\/op=8\/op=9\/op=10\/op=11\/op=12\/op=13\/op=14\/op=15\/op=16\/op=17\/op=19 then (decide (n=2),true)
 else if op=5\/op=6 then (decide (2<=n),true)
 else if op=22 then (decide (n=3),true)
 else if op=23 then (decide (1<=n),true)
 else if op=24 then (decide (n=4),true) else (false,false)
theorem C.expr_counts(op n:Int):Pure Tryz.prog N.expr_counts [.d (eI op),.d (eI n)] (.tup [.d (.bool (cnt op n).1),.d (.bool (cnt op n).2)]):=by
 refine F.expr_counts.go mixed rfl ?_
 repeat' first|refine st ?_|refine⟨λ_=>?_,λ_=>?_⟩|fail
 all_goals first
  |(subst_vars;rfl)
  |(simp only[cnt];rw[if_neg (by omega),if_neg (by omega),if_neg (by omega),if_neg (by omega),if_neg (by omega),if_neg (by omega),if_neg (by omega)])
def ary(op:Int):Int×Int:=
 if op=1\/op=2 then (0,0)
 else if op=4\/op=18\/op=20\/op=21 then (1,1)
 else if op=7\/op=8\/op=9\/op=10\/op=11\/op=12\/op=13\/op=14\/op=15\/op=16\/op=17\/op=19 then (2,2)
 else if op=5\/op=6 then (2,1099511627776)
 else if op=22 then (3,3)
 else if op=23 then (1,1099511627776)
 else if op=24 then (4,4) else (-1,0)
theorem C.r11_Arity(op:Int):Pure Tryz.prog N.bt_ref11_Arity [.d (eI op)] (.tup [.d (eI (ary op).1),.d (eI (ary op).2)]):=by
 refine F.bt_ref11_Arity.go mixed rfl ?_
 repeat' first|refine st ?_|refine⟨λ_=>?_,λ_=>?_⟩|fail
 all_goals first
  |(subst_vars;rfl)
  |(simp only[ary];rw[if_neg (by omega),if_neg (by omega),if_neg (by omega),if_neg (by omega),if_neg (by omega),if_neg (by omega),if_neg (by omega)])
theorem ary_cnt(op:Int)(k:Nat)(hk:k<=1048576):(cnt op k).1=decide (¬((ary op).1<0\/(k:Int)<(ary op).1\/(ary op).2<(k:Int)))/\(cnt op k).2=decide (¬(ary op).1<0):=by
 unfold cnt ary
 repeat' split
 all_goals (constructor<;>(rw[Bool.eq_iff_iff];simp;try omega))
end Go.Proofs
end
section
namespace Go.Proofs
open Go.Bi
def fmd(op n:Int)(v:Vl)(name:List UInt8)(k:Nat):Bool:=
 (cnt op k).1&&decide (name=[])&&(if op=1 then decide (n=0)&&vValid v else if op=24 then decide (0<=n/\n<13)&&decide (v=vNull) else if op=2 then decide (v=vNull) else decide (n=0)&&decide (v=vNull))
theorem vNull_is(v:Vl):decide (v=vNull)=(decide (v.k=0)&&(decide (v.n=0)&&decide (v.s=[]))):=by
 rw[Bool.eq_iff_iff]
 simp only[decide_eq_true_eq,Bool.and_eq_true,vl_eq]
 exact Iff.rfl
theorem fmd_1(n:Int)(v:Vl)(k:Nat)(h:(cnt 1 k).1=true):fmd 1 n v [] k=(decide (n=0)&&vValid v):=by unfold fmd;rw[h];rfl
theorem fmd_24(n:Int)(v:Vl)(k:Nat)(h:(cnt 24 k).1=true):fmd 24 n v [] k=(decide (0<=n/\n<13)&&decide (v=vNull)):=by unfold fmd;rw[h];rfl
theorem fmd_2(n:Int)(v:Vl)(k:Nat)(h:(cnt 2 k).1=true):fmd 2 n v [] k=decide (v=vNull):=by unfold fmd;rw[h];rfl
theorem fmd_o(op n:Int)(v:Vl)(k:Nat)(h:(cnt op k).1=true)(h1:op≠1)(h2:op≠24)(h3:op≠2):fmd op n v [] k=(decide (n=0)&&decide (v=vNull)):=by unfold fmd;rw[h,if_neg h1,if_neg h2,if_neg h3];rfl
theorem C.expr_formed(op n:Int)(v:Vl)(name:List UInt8)(d:D)(es:List (List D))(hd:SlD d es)(hs:v.s.length<=1048576)(hl:es.length<=1048576):Pure Tryz.prog N.expr_formed [eX op n v name d] (.d (.bool (fmd op n v name es.length))):=by
 refine F.expr_formed.go mixed rfl ?_
 have hV:=C.value_Valid v (by omega)
 have hC:=C.expr_counts op es.length
 cases hc:(cnt op es.length).1 with
 |false=>
  have hr:fmd op n v name es.length=false:=by unfold fmd;rw[hc];rfl
  rw[hr]
  rw[hc] at hC
  repeat' first|refine st ?_|((with_reducible apply go_i);conv=>whnf)|refine⟨λ_=>?_,λ_=>?_⟩|fail
 |true=>
 rw[hc] at hC
 by_cases hn:name=[]
 rotate_left
 ·have hr:fmd op n v name es.length=false:=by unfold fmd;rw[decide_eq_false hn,Bool.and_false];rfl
  rw[hr]
  repeat' first|refine st ?_|((with_reducible apply go_i);conv=>whnf)|refine⟨λ_=>?_,λ_=>?_⟩|fail
  all_goals rfl
 subst hn
 by_cases h1:op=1
 ·subst h1
  obtain⟨r,hr⟩:∃r,r=fmd 1 n v [] es.length:=⟨_,rfl⟩
  rw[<- hr]
  rw[fmd_1 _ _ _ hc] at hr
  by_cases hn:n=0
  ·rw[decide_eq_true hn] at hr
   repeat' first|refine st ?_|((with_reducible apply go_i);conv=>whnf)|refine⟨λ_=>?_,λ_=>?_⟩|fail
   all_goals (rw[hr];try rfl)
  ·rw[decide_eq_false hn] at hr
   repeat' first|refine st ?_|((with_reducible apply go_i);conv=>whnf)|refine⟨λ_=>?_,λ_=>?_⟩|fail
   all_goals (rw[hr];try rfl)
 by_cases h2:op=24
 ·subst h2
  obtain⟨r,hr⟩:∃r,r=fmd 24 n v [] es.length:=⟨_,rfl⟩
  rw[<- hr]
  rw[fmd_24 _ _ _ hc,vNull_is] at hr
  by_cases hn:0<=n/\n<13
  ·rw[decide_eq_true hn] at hr
   obtain⟨n1,n2⟩:=hn
   have n3:¬n<0:=by omega
   have n4:¬13<=n:=by omega
   repeat' first|refine st ?_|((with_reducible apply go_i);conv=>whnf)|refine⟨λ_=>?_,λ_=>?_⟩|fail
   all_goals (rw[hr];try (clear hr;simp_all[vNull];try omega))
  ·rw[decide_eq_false hn] at hr
   repeat' first|refine st ?_|((with_reducible apply go_i);conv=>whnf)|refine⟨λ_=>?_,λ_=>?_⟩|fail
   all_goals (rw[hr];try (clear hr;simp_all[vNull];try omega))
 by_cases h3:op=2
 ·subst h3
  obtain⟨r,hr⟩:∃r,r=fmd 2 n v [] es.length:=⟨_,rfl⟩
  rw[<- hr]
  rw[fmd_2 _ _ _ hc,vNull_is] at hr
  repeat' first|refine st ?_|((with_reducible apply go_i);conv=>whnf)|refine⟨λ_=>?_,λ_=>?_⟩|fail
  all_goals (rw[hr];try rfl)
 obtain⟨r,hr⟩:∃r,r=fmd op n v [] es.length:=⟨_,rfl⟩
 rw[<- hr]
 rw[fmd_o _ _ _ _ hc h1 h2 h3,vNull_is] at hr
 by_cases hn:n=0
 ·rw[decide_eq_true hn] at hr
  repeat' first|refine st ?_|((with_reducible apply go_i);conv=>whnf)|refine⟨λ_=>?_,λ_=>?_⟩|fail
  all_goals (rw[hr];try rfl)
 ·rw[decide_eq_false hn] at hr
  repeat' first|refine st ?_|((with_reducible apply go_i);conv=>whnf)|refine⟨λ_=>?_,λ_=>?_⟩|fail
  all_goals (rw[hr];try rfl)
theorem C.r11_Formed(op n:Int)(v:Vl)(name:List UInt8)(d:D)(es:List (List D))(hd:SlD d es)(hs:v.s.length<=1048576)(hl:es.length<=1048576):Pure Tryz.prog N.bt_ref11_Formed [eX op n v name d] (.d (.bool (fmd op n v name es.length))):=by
 refine F.bt_ref11_Formed.go mixed rfl ?_
 have hV:=C.r7_Valid v (by omega)
 have hC:=C.r11_Arity op
 have hac:=(ary_cnt op es.length hl).1
 cases hc:(cnt op es.length).1 with
 |false=>
  have hr:fmd op n v name es.length=false:=by unfold fmd;rw[hc];rfl
  rw[hr]
  rw[hc] at hac
  have hac:(ary op).1<0\/(es.length:Int)<(ary op).1\/(ary op).2<(es.length:Int):=by
   have:=of_decide_eq_false hac.symm
   omega
  repeat' first|refine st ?_|((with_reducible apply go_i);conv=>whnf)|refine⟨λ_=>?_,λ_=>?_⟩|fail
  all_goals first|rfl|(exfalso;omega)
 |true=>
 rw[hc] at hac
 have hac:=of_decide_eq_true hac.symm
 have a1:¬(ary op).1<0:=by omega
 have a2:¬(es.length:Int)<(ary op).1:=by omega
 have a3:¬(ary op).2<(es.length:Int):=by omega
 clear hac
 by_cases hn:name=[]
 rotate_left
 ·have hr:fmd op n v name es.length=false:=by unfold fmd;rw[decide_eq_false hn,Bool.and_false];rfl
  rw[hr]
  repeat' first|refine st ?_|((with_reducible apply go_i);conv=>whnf)|refine⟨λ_=>?_,λ_=>?_⟩|fail
  all_goals rfl
 subst hn
 by_cases h1:op=1
 ·subst h1
  obtain⟨r,hr⟩:∃r,r=fmd 1 n v [] es.length:=⟨_,rfl⟩
  rw[<- hr]
  rw[fmd_1 _ _ _ hc] at hr
  by_cases hn:n=0
  ·rw[decide_eq_true hn] at hr
   repeat' first|refine st ?_|((with_reducible apply go_i);conv=>whnf)|((with_reducible first|apply k_pn|apply k_pc);(·exact C.r7_Null))|refine⟨λ_=>?_,λ_=>?_⟩|fail
   all_goals (rw[hr];try rfl)
  ·rw[decide_eq_false hn] at hr
   repeat' first|refine st ?_|((with_reducible apply go_i);conv=>whnf)|((with_reducible first|apply k_pn|apply k_pc);(·exact C.r7_Null))|refine⟨λ_=>?_,λ_=>?_⟩|fail
   all_goals (rw[hr];try rfl)
 by_cases h2:op=24
 ·subst h2
  obtain⟨r,hr⟩:∃r,r=fmd 24 n v [] es.length:=⟨_,rfl⟩
  rw[<- hr]
  rw[fmd_24 _ _ _ hc,vNull_is] at hr
  by_cases hn:0<=n/\n<13
  ·rw[decide_eq_true hn] at hr
   obtain⟨n1,n2⟩:=hn
   have n3:¬n<0:=by omega
   have n4:¬13<=n:=by omega
   repeat' first|refine st ?_|((with_reducible apply go_i);conv=>whnf)|((with_reducible first|apply k_pn|apply k_pc);(·exact C.r7_Null))|refine⟨λ_=>?_,λ_=>?_⟩|fail
   all_goals (rw[hr];try (clear hr;simp_all[vNull];try omega))
  ·rw[decide_eq_false hn] at hr
   repeat' first|refine st ?_|((with_reducible apply go_i);conv=>whnf)|((with_reducible first|apply k_pn|apply k_pc);(·exact C.r7_Null))|refine⟨λ_=>?_,λ_=>?_⟩|fail
   all_goals (rw[hr];try (clear hr;simp_all[vNull];try omega))
 by_cases h3:op=2
 ·subst h3
  obtain⟨r,hr⟩:∃r,r=fmd 2 n v [] es.length:=⟨_,rfl⟩
  rw[<- hr]
  rw[fmd_2 _ _ _ hc,vNull_is] at hr
  repeat' first|refine st ?_|((with_reducible apply go_i);conv=>whnf)|((with_reducible first|apply k_pn|apply k_pc);(·exact C.r7_Null))|refine⟨λ_=>?_,λ_=>?_⟩|fail
  all_goals (rw[hr];try rfl)
 obtain⟨r,hr⟩:∃r,r=fmd op n v [] es.length:=⟨_,rfl⟩
 rw[<- hr]
 rw[fmd_o _ _ _ _ hc h1 h2 h3,vNull_is] at hr
 by_cases hn:n=0
 ·rw[decide_eq_true hn] at hr
  repeat' first|refine st ?_|((with_reducible apply go_i);conv=>whnf)|((with_reducible first|apply k_pn|apply k_pc);(·exact C.r7_Null))|refine⟨λ_=>?_,λ_=>?_⟩|fail
  all_goals (rw[hr];try rfl)
 ·rw[decide_eq_false hn] at hr
  repeat' first|refine st ?_|((with_reducible apply go_i);conv=>whnf)|((with_reducible first|apply k_pn|apply k_pc);(·exact C.r7_Null))|refine⟨λ_=>?_,λ_=>?_⟩|fail
  all_goals (rw[hr];try rfl)
end Go.Proofs
end
section
namespace Go.Proofs
open Go.Bi
def w64(n:Int):Int:=IntKind.i64.wrap n
def nSm(n:Int):Prop:=-1125899906842624<=n/\n<=1125899906842624
theorem valid_n{v:Vl}(h:vValid v=true):nSm v.n:=by
 unfold vValid at h
 unfold nSm
 repeat' split at h
 all_goals simp at h
 all_goals omega
theorem valid_s{v:Vl}(h:vValid v=true):v.s.length<=200:=by
 unfold vValid at h
 repeat' split at h
 all_goals simp at h
 ·rw[h.2];simp
 ·rw[h.1];simp
 ·exact h.1.2
 ·rw[h.1];simp
def vCol(l:List Vl)(i:Int):Vl:=vOrN (vAt l i)
theorem C.expr_column(l:List Vl)(hl:l.length<=1048576)(hs:∀v∈l,v.s.length<=1048576)(d:D)(hd:SlD d (eVs l))(i:Int):Pure Tryz.prog N.expr_column [.d d,.d (eI i)] (eV (vCol l i)):=by
 refine F.expr_column.go mixed rfl ?_
 have hP:=C.tuple_Pick1 l (by omega) d hd i
 have hV:=C.value_Valid (vAt l i) (by
  unfold vAt
  split
  ·simp[vNull]
  ·rw[List.getD_eq_getElem?_getD]
   cases h:l[i.toNat]? with
   |none=>simp[vNull]
   |some v=>have:=hs v (List.mem_of_getElem? h);simp;omega)
 unfold vCol vOrN
 have hg:([(vAt l i).ds]:List (List D))[(0:Nat)]?=some (vAt l i).ds:=rfl
 cases hv:vValid (vAt l i) with
 |true=>
  rw[hv] at hV
  repeat' first|refine st ?_|((with_reducible apply go_i);conv=>whnf)|refine⟨λ_=>?_,λ_=>?_⟩|fail
  all_goals rfl
 |false=>
  rw[hv] at hV
  repeat' first|refine st ?_|((with_reducible apply go_i);conv=>whnf)|((with_reducible first|apply k_pn|apply k_pc);(·exact C.value_Null))|refine⟨λ_=>?_,λ_=>?_⟩|fail
  all_goals rfl
theorem vAt_s{l:List Vl}(hs:∀v∈l,v.s.length<=1048576)(i:Int):(vAt l i).s.length<=1048576:=by
 unfold vAt
 split
 ·simp[vNull]
 ·rw[List.getD_eq_getElem?_getD]
  cases h:l[i.toNat]? with
  |none=>simp[vNull]
  |some v=>exact hs v (List.mem_of_getElem? h)
def vLf(op n:Int)(v:Vl)(l:List Vl):Vl:=vOrN (if op=2 then vAt l n else v)
theorem C.r11_leaf(op n:Int)(v:Vl)(name:List UInt8)(da:D)(hvs:v.s.length<=1048576)(l:List Vl)(hl:l.length<=1048576)(hs:∀v∈l,v.s.length<=1048576)(d:D)(hd:SlD d (eVs l)):Pure Tryz.prog N.bt_ref11_leaf [eX op n v name da,.d d] (eV (vLf op n v l)):=by
 refine F.bt_ref11_leaf.go mixed rfl ?_
 have hA:=C.r8_At l (by omega) d hd n
 by_cases h:op=2
 ·have hV:=C.r7_Valid (vAt l n) (by have:=vAt_s hs n;omega)
  unfold vLf
  rw[if_pos h]
  unfold vOrN
  cases hv:vValid (vAt l n) with
  |true=>
   rw[hv] at hV
   repeat' first|refine st ?_|((with_reducible apply go_i);conv=>whnf)|refine⟨λ_=>?_,λ_=>?_⟩|fail
   all_goals rfl
  |false=>
   rw[hv] at hV
   repeat' first|refine st ?_|((with_reducible apply go_i);conv=>whnf)|((with_reducible first|apply k_pn|apply k_pc);(·exact C.r7_Null))|refine⟨λ_=>?_,λ_=>?_⟩|fail
   all_goals rfl
 ·have hV:=C.r7_Valid v (by omega)
  unfold vLf
  rw[if_neg h]
  unfold vOrN
  cases hv:vValid v with
  |true=>
   rw[hv] at hV
   repeat' first|refine st ?_|((with_reducible apply go_i);conv=>whnf)|refine⟨λ_=>?_,λ_=>?_⟩|fail
   all_goals rfl
  |false=>
   rw[hv] at hV
   repeat' first|refine st ?_|((with_reducible apply go_i);conv=>whnf)|((with_reducible first|apply k_pn|apply k_pc);(·exact C.r7_Null))|refine⟨λ_=>?_,λ_=>?_⟩|fail
   all_goals rfl
def vCp(op:Int)(a b:Vl):Int:=if op=7 then vEq a b else if op=8 then tNot (vEq a b) else if op=9 then vLess a b else if op=11 then vLess b a else if op=10 then tNot (vLess b a) else tNot (vLess a b)
theorem C.expr_comparison(op:Int)(a b:Vl):Pure Tryz.prog N.expr_comparison [.d (eI op),eV a,eV b] (.d (eI (vCp op a b))):=by
 refine F.expr_comparison.go mixed rfl ?_
 repeat' first|refine st ?_|((with_reducible apply go_i);conv=>whnf)|((with_reducible first|apply k_pn|apply k_pc);(·first|exact C.value_Equal _ _|exact C.value_Not _|exact C.value_Less _ _))|refine⟨λ_=>?_,λ_=>?_⟩|fail
 all_goals simp[vCp, *]
theorem C.r11_compared(op:Int)(a b:Vl):Pure Tryz.prog N.bt_ref11_compared [.d (eI op),eV a,eV b] (.d (eI (vCp op a b))):=by
 refine F.bt_ref11_compared.go mixed rfl ?_
 repeat' first|refine st ?_|((with_reducible apply go_i);conv=>whnf)|((with_reducible first|apply k_pn|apply k_pc);(·first|exact C.r7_Equal _ _|exact C.r7_Not _|exact C.r7_Less _ _))|refine⟨λ_=>?_,λ_=>?_⟩|fail
 all_goals simp[vCp, *]
def isK(l:List Vl)(k:Int):Bool:=l.all λv=>decide (v.k=k)
theorem C.r11_are(l:List Vl)(hl:l.length<=1048576)(d:D)(hd:SlD d (eVs l))(k:Int):Pure Tryz.prog N.bt_ref11_are [.d d,.d (eI k)] (.d (.bool (isK l k))):=by
 refine F.bt_ref11_are.go mixed rfl ?_
 have h1:=eVs_len l
 have hm:=eVs_mem l
 repeat' first|refine st ?_|((with_reducible apply go_i);conv=>whnf)|refine⟨λ_=>?_,λ_=>?_⟩|fail
 refine x_loop1 mixed Lt.bt_ref11_are_l0 Lk.bt_ref11_are_l0 (λ(i:Nat)=>[.d (eI i)]) (λi=>[]) (λi=>i<=l.length/\(l.take i).all (λv=>decide (v.k=k))=true) (λi=>l.length-i) 0 rfl rfl rfl rfl (λ_ _=>⟨rfl,rfl⟩) rfl ⟨by omega,rfl⟩ ?_
 repeat' first|refine st ?_|((with_reducible apply go_i);conv=>whnf)|refine⟨λ_=>?_,λ_=>?_⟩|fail
 intro i ⟨h2,h3⟩
 cases hx:l[i]? with
 |some v=>
  have hlt:=(List.getElem?_eq_some_iff.1 hx).1
  have hg:=eVs_get hx
  by_cases hk:v.k=k
  ·repeat' first|refine st ?_|((with_reducible apply go_i);conv=>whnf)|refine⟨λ_=>?_,λ_=>?_⟩|fail
   refine⟨i+1,rfl,rfl,rfl,by omega,by omega,?_⟩
   rw[all_take_succ hx,h3,decide_eq_true hk];rfl
  ·repeat' first|refine st ?_|((with_reducible apply go_i);conv=>whnf)|refine⟨λ_=>?_,λ_=>?_⟩|fail
   rw[isK,all_none hx (decide_eq_false hk)]
 |none=>
  have hge:=List.getElem?_eq_none_iff.1 hx
  rw[List.take_of_length_le hge] at h3
  repeat' first|refine st ?_|((with_reducible apply go_i);conv=>whnf)|refine⟨λ_=>?_,λ_=>?_⟩|fail
  rw[isK,h3]
def vPr(a b:Int):Vl:=if a≠0/\w64 (Int.tdiv 1125899906842624 (max a (0-a)))<max b (0-b) then vNull else vInt (w64 (a*b))
theorem C.expr_product(a b:Int)(ha:nSm a)(hb:nSm b):Pure Tryz.prog N.expr_product [.d (eI a),.d (eI b)] (eV (vPr a b)):=by
 refine F.expr_product.go mixed rfl ?_
 obtain⟨a1,a2⟩:=ha
 obtain⟨b1,b2⟩:=hb
 unfold vPr
 by_cases h0:a=0
 ·rw[if_neg (by omega)]
  repeat' first|refine st ?_|((with_reducible apply go_i);conv=>whnf)|((with_reducible first|apply k_pn|apply k_pc);(·first|exact C.value_Null|exact C.value_Int _))|refine⟨λ_=>?_,λ_=>?_⟩|fail
  all_goals rfl
 ·have hne:max a (0-a)≠0:=by omega
  by_cases h1:w64 (Int.tdiv 1125899906842624 (max a (0-a)))<max b (0-b)
  ·rw[if_pos ⟨h0,h1⟩]
   repeat' first|refine st ?_|((with_reducible apply go_i);conv=>whnf)|((with_reducible first|apply k_pn|apply k_pc);(·first|exact C.value_Null|exact C.value_Int _))|refine⟨λ_=>?_,λ_=>?_⟩|fail
   all_goals rfl
  ·rw[if_neg (λh=>h1 h.2)]
   repeat' first|refine st ?_|((with_reducible apply go_i);conv=>whnf)|((with_reducible first|apply k_pn|apply k_pc);(·first|exact C.value_Null|exact C.value_Int _))|refine⟨λ_=>?_,λ_=>?_⟩|fail
   all_goals rfl
def vBin(op a b:Int):Vl:=if op=13 then vInt (a+b) else if op=14 then vInt (a-b) else if op=15 then vPr a b else if b=0 then vNull else if op=16 then vInt (w64 (a.tdiv b)) else vInt (a.tmod b)
theorem C.r11_abs(a:Int)(ha:nSm a):Pure Tryz.prog N.bt_ref11_abs [.d (eI a)] (.d (eI (max a (0-a)))):=by
 refine F.bt_ref11_abs.go mixed rfl ?_
 obtain⟨a1,a2⟩:=ha
 repeat' first|refine st ?_|((with_reducible apply go_i);conv=>whnf)|refine⟨λ_=>?_,λ_=>?_⟩|fail
theorem C.r11_computed(op a b:Int)(ha:nSm a)(hb:nSm b):Pure Tryz.prog N.bt_ref11_computed [.d (eI op),.d (eI a),.d (eI b)] (eV (vBin op a b)):=by
 refine F.bt_ref11_computed.go mixed rfl ?_
 have hA:=C.r11_abs a ha
 have hB:=C.r11_abs b hb
 obtain⟨a1,a2⟩:=ha
 obtain⟨b1,b2⟩:=hb
 by_cases h13:op=13
 ·subst h13
  repeat' first|refine st ?_|((with_reducible apply go_i);conv=>whnf)|((with_reducible first|apply k_pn|apply k_pc);(·exact C.r7_Int _))|refine⟨λ_=>?_,λ_=>?_⟩|fail
  all_goals rfl
 by_cases h14:op=14
 ·subst h14
  repeat' first|refine st ?_|((with_reducible apply go_i);conv=>whnf)|((with_reducible first|apply k_pn|apply k_pc);(·exact C.r7_Int _))|refine⟨λ_=>?_,λ_=>?_⟩|fail
  all_goals rfl
 by_cases h15:op=15
 ·subst h15
  show Go _
  have e:vBin 15 a b=vPr a b:=rfl
  rw[e]
  unfold vPr
  by_cases h0:a=0
  ·rw[if_neg (by omega)]
   repeat' first|refine st ?_|((with_reducible apply go_i);conv=>whnf)|((with_reducible first|apply k_pn|apply k_pc);(·first|exact C.r7_Null|exact C.r7_Int _))|refine⟨λ_=>?_,λ_=>?_⟩|fail
   all_goals rfl
  ·have hne:max a (0-a)≠0:=by omega
   by_cases h1:w64 (Int.tdiv 1125899906842624 (max a (0-a)))<max b (0-b)
   ·rw[if_pos ⟨h0,h1⟩]
    repeat' first|refine st ?_|((with_reducible apply go_i);conv=>whnf)|((with_reducible first|apply k_pn|apply k_pc);(·first|exact C.r7_Null|exact C.r7_Int _))|refine⟨λ_=>?_,λ_=>?_⟩|fail
    all_goals rfl
   ·rw[if_neg (λh=>h1 h.2)]
    repeat' first|refine st ?_|((with_reducible apply go_i);conv=>whnf)|((with_reducible first|apply k_pn|apply k_pc);(·first|exact C.r7_Null|exact C.r7_Int _))|refine⟨λ_=>?_,λ_=>?_⟩|fail
    all_goals rfl
 unfold vBin
 rw[if_neg h13,if_neg h14,if_neg h15]
 by_cases h0:b=0
 ·rw[if_pos h0]
  repeat' first|refine st ?_|((with_reducible apply go_i);conv=>whnf)|((with_reducible first|apply k_pn|apply k_pc);(·first|exact C.r7_Null|exact C.r7_Int _))|refine⟨λ_=>?_,λ_=>?_⟩|fail
  all_goals rfl
 rw[if_neg h0]
 by_cases h16:op=16
 ·rw[if_pos h16]
  repeat' first|refine st ?_|((with_reducible apply go_i);conv=>whnf)|((with_reducible first|apply k_pn|apply k_pc);(·first|exact C.r7_Null|exact C.r7_Int _))|refine⟨λ_=>?_,λ_=>?_⟩|fail
  all_goals rfl
 ·rw[if_neg h16]
  repeat' first|refine st ?_|((with_reducible apply go_i);conv=>whnf)|((with_reducible first|apply k_pn|apply k_pc);(·first|exact C.r7_Null|exact C.r7_Int _))|refine⟨λ_=>?_,λ_=>?_⟩|fail
  all_goals rfl
end Go.Proofs
end
section
namespace Go.Proofs
open Go.Bi
def lgS(op t:Int)(v:Vl):Int:=if op=5 then tAnd t (vTruth v) else tOr t (vTruth v)
def lgF(op:Int)(a:Vl)(r:List Vl):Int:=r.foldl (lgS op) (vTruth a)
theorem foldl_take_succ{α β:Type}(f:β->α->β)(b:β)(l:List α)(i:Nat)(x:α)(h:l[i]?=some x):(l.take (i+1)).foldl f b=f ((l.take i).foldl f b) x:=by
 rw[List.take_add_one,h];simp
theorem C.r11_logic(op:Int)(a:Vl)(r:List Vl)(hl:r.length<=1048576):Pure Tryz.prog N.bt_ref11_logic [.d (eI op),.d (.sl (eVs (a::r)))] (eV (vOf (lgF op a r))):=by
 refine F.bt_ref11_logic.go mixed rfl ?_
 have h1:(eVs (a::r)).length=r.length+1:=by rw[eVs_len];rfl
 have hm:=eVs_mem (a::r)
 have hg0:(eVs (a::r))[(0:Nat)]?=some a.ds:=rfl
 obtain⟨es,hes⟩:∃es,es=eVs (a::r):=⟨_,rfl⟩
 rw[<- hes] at h1 hm hg0 ⊢
 repeat' first|refine st ?_|((with_reducible apply go_i);conv=>whnf)|((with_reducible first|apply k_pn|apply k_pc);(·exact C.r7_Truth _))|refine⟨λ_=>?_,λ_=>?_⟩|fail
 refine x_loop2 mixed Lt.bt_ref11_logic_l0 Lk.bt_ref11_logic_l0 (λ(i:Nat) (t:Int)=>[.d (eI t),.d (eI (i+1))]) (λi t=>[.cells [.d (eI 0),.d (eI 0),.d (.str [])]]) (λi t=>i<=r.length/\t=(r.take i).foldl (lgS op) (vTruth a)) (λi _=>r.length-i) 0 (vTruth a) rfl rfl rfl rfl (λ_ _ _=>⟨rfl,rfl⟩) rfl ⟨by omega,rfl⟩ ?_
 repeat' first|refine st ?_|((with_reducible apply go_i);conv=>whnf)|refine⟨λ_=>?_,λ_=>?_⟩|fail
 intro i t ⟨h2,h3⟩
 cases hx:r[i]? with
 |some v=>
  have hlt:=(List.getElem?_eq_some_iff.1 hx).1
  have hg:es[((i:Int)+1).toNat]?=some v.ds:=by
   rw[hes,show((i:Int)+1).toNat=i+1 by omega]
   exact eVs_get (l:=a::r) (by simpa using hx)
  by_cases h5:op=5
  ·repeat' first|refine st ?_|((with_reducible apply go_i);conv=>whnf)|((with_reducible first|apply k_pn|apply k_pc);(·first|exact C.r7_Truth _|exact C.r7_And _ _))|refine⟨λ_=>?_,λ_=>?_⟩|fail
   refine⟨i+1,_,rfl,rfl,rfl,by omega,by omega,?_⟩
   rw[foldl_take_succ _ _ _ _ _ hx,<- h3,lgS,if_pos h5]
  ·repeat' first|refine st ?_|((with_reducible apply go_i);conv=>whnf)|((with_reducible first|apply k_pn|apply k_pc);(·first|exact C.r7_Truth _|exact C.r7_Or _ _))|refine⟨λ_=>?_,λ_=>?_⟩|fail
   refine⟨i+1,_,rfl,rfl,rfl,by omega,by omega,?_⟩
   rw[foldl_take_succ _ _ _ _ _ hx,<- h3,lgS,if_neg h5]
 |none=>
  have hge:=List.getElem?_eq_none_iff.1 hx
  rw[List.take_of_length_le hge] at h3
  subst h3
  repeat' first|refine st ?_|((with_reducible apply go_i);conv=>whnf)|((with_reducible first|apply k_pn|apply k_pc);(·exact C.r7_Of _))|refine⟨λ_=>?_,λ_=>?_⟩|fail
  rfl
theorem C.expr_logic4(a:Vl)(r:List Vl)(hl:r.length<=1048576):Pure Tryz.prog N.expr_logic [.d (eI 4),.d (.sl (eVs (a::r)))] (eV (vOf (tNot (vTruth a)))):=by
 refine F.expr_logic.go mixed rfl ?_
 have h1:(eVs (a::r)).length=r.length+1:=by rw[eVs_len];rfl
 have hm:=eVs_mem (a::r)
 have hg0:(eVs (a::r))[(0:Nat)]?=some a.ds:=rfl
 obtain⟨es,hes⟩:∃es,es=eVs (a::r):=⟨_,rfl⟩
 rw[<- hes] at h1 hm hg0 ⊢
 repeat' first|refine st ?_|((with_reducible apply go_i);conv=>whnf)|((with_reducible first|apply k_pn|apply k_pc);(·first|exact C.value_Truth _|exact C.value_Not _|exact C.value_Of _))|refine⟨λ_=>?_,λ_=>?_⟩|fail
theorem C.expr_logic(op:Int)(h56:op=5\/op=6)(a:Vl)(r:List Vl)(hl:r.length<=1048576):Pure Tryz.prog N.expr_logic [.d (eI op),.d (.sl (eVs (a::r)))] (eV (vOf (lgF op a r))):=by
 refine F.expr_logic.go mixed rfl ?_
 have h1:(eVs (a::r)).length=r.length+1:=by rw[eVs_len];rfl
 have hm:=eVs_mem (a::r)
 have hg0:(eVs (a::r))[(0:Nat)]?=some a.ds:=rfl
 have hcut:((eVs (a::r)).drop (1:Int).toNat).take (((eVs (a::r)).length:Int).toNat-(1:Int).toNat)=eVs r:=by
  rw[h1,show(1:Int).toNat=1 from rfl,show(((r.length+1:Nat):Int)).toNat-1=r.length by omega]
  show((eVs (a::r)).drop 1).take r.length=_
  have:(eVs (a::r)).drop 1=eVs r:=rfl
  rw[this,List.take_of_length_le (by rw[eVs_len];omega)]
 obtain⟨es,hes⟩:∃es,es=eVs (a::r):=⟨_,rfl⟩
 rw[<- hes] at h1 hm hg0 hcut ⊢
 obtain⟨es2,hes2⟩:∃es2,es2=(es.drop (1:Int).toNat).take ((es.length:Int).toNat-(1:Int).toNat):=⟨_,rfl⟩
 rw[<- hes2] at hcut
 have h12:es2.length=r.length:=by rw[hcut,eVs_len]
 have hm2:∀e∈es2,e.length=3:=by rw[hcut];exact eVs_mem r
 rcases h56 with rfl|rfl
 ·repeat' first|refine st ?_|((with_reducible apply go_i);conv=>whnf)|((with_reducible first|apply k_pn|apply k_pc);(·exact C.value_Truth _))|refine⟨λ_=>?_,λ_=>?_⟩|fail
  all_goals (rw[<- hes2])
  repeat' first|refine st ?_|((with_reducible apply go_i);conv=>whnf)|((with_reducible first|apply k_pn|apply k_pc);(·exact C.value_Truth _))|refine⟨λ_=>?_,λ_=>?_⟩|fail
  refine x_loop2 mixed Lt.expr_logic_l0 Lk.expr_logic_l0 (λ(i:Nat) (t:Int)=>[.d (eI t),.d (eI i)]) (λi t=>[.cells [.d (eI 0),.d (eI 0),.d (.str [])]]) (λi t=>i<=r.length/\t=(r.take i).foldl (lgS 5) (vTruth a)) (λi _=>r.length-i) 0 (vTruth a) rfl rfl rfl rfl (λ_ _ _=>⟨rfl,rfl⟩) rfl ⟨by omega,rfl⟩ ?_
  repeat' first|refine st ?_|((with_reducible apply go_i);conv=>whnf)|refine⟨λ_=>?_,λ_=>?_⟩|fail
  intro i t ⟨h2,h3⟩
  cases hx:r[i]? with
  |some v=>
   have hlt:=(List.getElem?_eq_some_iff.1 hx).1
   have hg:es2[(i:Int).toNat]?=some v.ds:=by rw[hcut];exact eVs_get (l:=r) hx
   repeat' first|refine st ?_|((with_reducible apply go_i);conv=>whnf)|((with_reducible first|apply k_pn|apply k_pc);(·first|exact C.value_Truth _|exact C.value_And _ _))|refine⟨λ_=>?_,λ_=>?_⟩|fail
   refine⟨i+1,_,rfl,rfl,rfl,by omega,by omega,?_⟩
   rw[foldl_take_succ _ _ _ _ _ hx,<- h3];rfl
  |none=>
   have hge:=List.getElem?_eq_none_iff.1 hx
   rw[List.take_of_length_le hge] at h3
   subst h3
   repeat' first|refine st ?_|((with_reducible apply go_i);conv=>whnf)|((with_reducible first|apply k_pn|apply k_pc);(·exact C.value_Of _))|refine⟨λ_=>?_,λ_=>?_⟩|fail
   rfl
 ·repeat' first|refine st ?_|((with_reducible apply go_i);conv=>whnf)|((with_reducible first|apply k_pn|apply k_pc);(·exact C.value_Truth _))|refine⟨λ_=>?_,λ_=>?_⟩|fail
  all_goals (rw[<- hes2])
  repeat' first|refine st ?_|((with_reducible apply go_i);conv=>whnf)|((with_reducible first|apply k_pn|apply k_pc);(·exact C.value_Truth _))|refine⟨λ_=>?_,λ_=>?_⟩|fail
  refine x_loop2 mixed Lt.expr_logic_l1 Lk.expr_logic_l1 (λ(i:Nat) (t:Int)=>[.d (eI t),.d (eI i)]) (λi t=>[.cells [.d (eI 0),.d (eI 0),.d (.str [])]]) (λi t=>i<=r.length/\t=(r.take i).foldl (lgS 6) (vTruth a)) (λi _=>r.length-i) 0 (vTruth a) rfl rfl rfl rfl (λ_ _ _=>⟨rfl,rfl⟩) rfl ⟨by omega,rfl⟩ ?_
  repeat' first|refine st ?_|((with_reducible apply go_i);conv=>whnf)|refine⟨λ_=>?_,λ_=>?_⟩|fail
  intro i t ⟨h2,h3⟩
  cases hx:r[i]? with
  |some v=>
   have hlt:=(List.getElem?_eq_some_iff.1 hx).1
   have hg:es2[(i:Int).toNat]?=some v.ds:=by rw[hcut];exact eVs_get (l:=r) hx
   repeat' first|refine st ?_|((with_reducible apply go_i);conv=>whnf)|((with_reducible first|apply k_pn|apply k_pc);(·first|exact C.value_Truth _|exact C.value_Or _ _))|refine⟨λ_=>?_,λ_=>?_⟩|fail
   refine⟨i+1,_,rfl,rfl,rfl,by omega,by omega,?_⟩
   rw[foldl_take_succ _ _ _ _ _ hx,<- h3];rfl
  |none=>
   have hge:=List.getElem?_eq_none_iff.1 hx
   rw[List.take_of_length_le hge] at h3
   subst h3
   repeat' first|refine st ?_|((with_reducible apply go_i);conv=>whnf)|((with_reducible first|apply k_pn|apply k_pc);(·exact C.value_Of _))|refine⟨λ_=>?_,λ_=>?_⟩|fail
   rfl
end Go.Proofs
end
section
namespace Go.Proofs
open Go.Bi
def tCat(l:List Vl):List UInt8:=(l.map Vl.s).flatten
theorem tCat_succ{l:List Vl}{i:Nat}{v:Vl}(h:l[i]?=some v):tCat (l.take (i+1))=tCat (l.take i)++v.s:=by
 unfold tCat
 rw[List.take_add_one,h];simp
theorem tCat_le(l:List Vl)(hs:∀v∈l,v.s.length<=200):(tCat l).length<=200*l.length:=by
 induction l with
 |nil=>simp[tCat]
 |cons v l ih=>
  have h1:=hs v (by simp)
  have h2:=ih λv hv=>hs v (by simp[hv])
  have:tCat (v::l)=v.s++tCat l:=by simp[tCat]
  rw[this,List.length_append,List.length_cons]
  omega
def vTxt(op:Int)(l:List Vl):Vl:=if isK l 2 then (if op=20 then vInt (tCat l).length else vText (tCat l)) else vNull
theorem C.expr_text(op:Int)(l:List Vl)(hl:l.length<=1048576)(hs:∀v∈l,v.s.length<=200):Pure Tryz.prog N.expr_text [.d (eI op),.d (.sl (eVs l))] (eV (vTxt op l)):=by
 refine F.expr_text.go mixed rfl ?_
 have h1:=eVs_len l
 have hm:=eVs_mem l
 have hT:=C.value_Text (tCat l) (by have:=tCat_le l hs;omega)
 repeat' first|refine st ?_|((with_reducible apply go_i);conv=>whnf)|refine⟨λ_=>?_,λ_=>?_⟩|fail
 refine x_loop3 mixed Lt.expr_text_l0 Lk.expr_text_l0 (λ(i:Nat) (n:Int) (s:List UInt8)=>[.d (eI n),.d (.str s),.d (eI i)]) (λi n s=>[.cells [.d (eI 0),.d (eI 0),.d (.str [])]]) (λi n s=>i<=l.length/\isK (l.take i) 2=true/\s=tCat (l.take i)/\n=s.length) (λi _ _=>l.length-i) 0 0 [] rfl rfl rfl rfl (λ_ _ _ _=>⟨rfl,rfl⟩) rfl ⟨by omega,rfl,rfl,rfl⟩ ?_
 repeat' first|refine st ?_|((with_reducible apply go_i);conv=>whnf)|refine⟨λ_=>?_,λ_=>?_⟩|fail
 intro i n s ⟨h2,h3,h4,h5⟩
 have h6:s.length<=200*1048576:=by
  rw[h4]
  have:=tCat_le (l.take i) λv hv=>hs v (List.mem_of_mem_take hv)
  have h7:(l.take i).length<=1048576:=by rw[List.length_take];omega
  omega
 cases hx:l[i]? with
 |some v=>
  have hlt:=(List.getElem?_eq_some_iff.1 hx).1
  have hg:=eVs_get hx
  have hv:=hs v (List.mem_of_getElem? hx)
  by_cases hk:v.k=2
  ·repeat' first|refine st ?_|((with_reducible apply go_i);conv=>whnf)|refine⟨λ_=>?_,λ_=>?_⟩|fail
   refine⟨i+1,_,_,rfl,rfl,rfl,by omega,by omega,?_,?_,?_⟩
   ·rw[isK,all_take_succ hx];rw[isK] at h3;rw[h3,decide_eq_true hk];rfl
   ·rw[tCat_succ hx,h4]
   ·rw[h5];simp
  ·repeat' first|refine st ?_|((with_reducible apply go_i);conv=>whnf)|((with_reducible first|apply k_pn|apply k_pc);(·exact C.value_Null))|refine⟨λ_=>?_,λ_=>?_⟩|fail
   have:isK l 2=false:=all_none hx (decide_eq_false hk)
   rw[vTxt,this];rfl
 |none=>
  have hge:=List.getElem?_eq_none_iff.1 hx
  rw[List.take_of_length_le hge] at h3 h4
  unfold vTxt
  rw[h3,if_pos rfl]
  by_cases h20:op=20
  ·rw[if_pos h20,<- h4,<- h5]
   repeat' first|refine st ?_|((with_reducible apply go_i);conv=>whnf)|((with_reducible first|apply k_pn|apply k_pc);(·exact C.value_Int _))|refine⟨λ_=>?_,λ_=>?_⟩|fail
  ·rw[if_neg h20]
   subst h4
   repeat' first|refine st ?_|((with_reducible apply go_i);conv=>whnf)|refine⟨λ_=>?_,λ_=>?_⟩|fail
theorem C.r11_texts19(a b:Vl)(ha:a.s.length<=200)(hb:b.s.length<=200):Pure Tryz.prog N.bt_ref11_texts [.d (eI 19),.d (.sl (eVs [a,b]))] (eV (vTxt 19 [a,b])):=by
 refine F.bt_ref11_texts.go mixed rfl ?_
 have hA:=C.r11_are [a,b] (by simp) (.sl (eVs [a,b])) sld_sl 2
 have hT:=C.r7_Text (a.s++b.s) (by simp;omega)
 have e:vTxt 19 [a,b]=if isK [a,b] 2 then vText (a.s++b.s) else vNull:=by unfold vTxt tCat;simp
 rw[e]
 have hm:=eVs_mem [a,b]
 have hg0:(eVs [a,b])[(0:Nat)]?=some a.ds:=rfl
 have hg1:(eVs [a,b])[(1:Nat)]?=some b.ds:=rfl
 have hln:(eVs [a,b]).length=2:=rfl
 obtain⟨es,hes⟩:∃es,es=eVs [a,b]:=⟨_,rfl⟩
 rw[<- hes] at hA hm hg0 hg1 hln ⊢
 cases hk:isK [a,b] 2 with
 |true=>
  rw[hk] at hA
  repeat' first|refine st ?_|((with_reducible apply go_i);conv=>whnf)|refine⟨λ_=>?_,λ_=>?_⟩|fail
  all_goals rfl
 |false=>
  rw[hk] at hA
  repeat' first|refine st ?_|((with_reducible apply go_i);conv=>whnf)|((with_reducible first|apply k_pn|apply k_pc);(·exact C.r7_Null))|refine⟨λ_=>?_,λ_=>?_⟩|fail
  all_goals rfl
theorem C.r11_texts20(a:Vl)(ha:a.s.length<=200):Pure Tryz.prog N.bt_ref11_texts [.d (eI 20),.d (.sl (eVs [a]))] (eV (vTxt 20 [a])):=by
 refine F.bt_ref11_texts.go mixed rfl ?_
 have hA:=C.r11_are [a] (by simp) (.sl (eVs [a])) sld_sl 2
 have e:vTxt 20 [a]=if isK [a] 2 then vInt a.s.length else vNull:=by unfold vTxt tCat;simp
 rw[e]
 have hm:=eVs_mem [a]
 have hg0:(eVs [a])[(0:Nat)]?=some a.ds:=rfl
 have hln:(eVs [a]).length=1:=rfl
 obtain⟨es,hes⟩:∃es,es=eVs [a]:=⟨_,rfl⟩
 rw[<- hes] at hA hm hg0 hln ⊢
 cases hk:isK [a] 2 with
 |true=>
  rw[hk] at hA
  repeat' first|refine st ?_|((with_reducible apply go_i);conv=>whnf)|((with_reducible first|apply k_pn|apply k_pc);(·exact C.r7_Int _))|refine⟨λ_=>?_,λ_=>?_⟩|fail
  all_goals rfl
 |false=>
  rw[hk] at hA
  repeat' first|refine st ?_|((with_reducible apply go_i);conv=>whnf)|((with_reducible first|apply k_pn|apply k_pc);(·exact C.r7_Null))|refine⟨λ_=>?_,λ_=>?_⟩|fail
  all_goals rfl
def vNeg(a:Int):Vl:=vInt (0-a)
def vAr(op a b:Int):Vl:=if op=18 then vNeg a else vBin op a b
def vAri(op:Int)(l:List Vl):Vl:=if isK l 1 then vAr op (l.getD 0 vNull).n (l.getD (l.length-1) vNull).n else vNull
theorem C.expr_arithmetic(op:Int)(l:List Vl)(a b:Vl)(ha:l[0]?=some a)(hb:l[l.length-1]?=some b)(hl:l.length<=1048576)(hn:∀v∈l,nSm v.n)(hop:13<=op/\op<=18):Pure Tryz.prog N.expr_arithmetic [.d (eI op),.d (.sl (eVs l))] (eV (vAri op l)):=by
 refine F.expr_arithmetic.go mixed rfl ?_
 have h1:=eVs_len l
 have hm:=eVs_mem l
 have hlp:=(List.getElem?_eq_some_iff.1 ha).1
 have hg0:(eVs l)[(0:Nat)]?=some a.ds:=eVs_get ha
 have hgz:(eVs l)[(((eVs l).length:Int)-1).toNat]?=some b.ds:=by
  rw[h1,show((l.length:Int)-1).toNat=l.length-1 by omega]
  exact eVs_get hb
 have na:=hn a (List.mem_of_getElem? ha)
 have nb:=hn b (List.mem_of_getElem? hb)
 have hP:=C.expr_product a.n b.n na nb
 have e:vAri op l=if isK l 1 then vAr op a.n b.n else vNull:=by
  unfold vAri
  rw[List.getD_eq_getElem?_getD,List.getD_eq_getElem?_getD,ha,hb];rfl
 rw[e]
 obtain⟨na1,na2⟩:=na
 obtain⟨nb1,nb2⟩:=nb
 repeat' first|refine st ?_|((with_reducible apply go_i);conv=>whnf)|refine⟨λ_=>?_,λ_=>?_⟩|fail
 refine x_loop1 mixed Lt.expr_arithmetic_l0 Lk.expr_arithmetic_l0 (λ(i:Nat)=>[.d (eI i)]) (λi=>[.cells [.d (eI 0),.d (eI 0),.d (.str [])]]) (λi=>i<=l.length/\isK (l.take i) 1=true) (λi=>l.length-i) 0 rfl rfl rfl rfl (λ_ _=>⟨rfl,rfl⟩) rfl ⟨by omega,rfl⟩ ?_
 repeat' first|refine st ?_|((with_reducible apply go_i);conv=>whnf)|refine⟨λ_=>?_,λ_=>?_⟩|fail
 intro i ⟨h2,h3⟩
 cases hx:l[i]? with
 |some v=>
  have hlt:=(List.getElem?_eq_some_iff.1 hx).1
  have hg:=eVs_get hx
  by_cases hk:v.k=1
  ·repeat' first|refine st ?_|((with_reducible apply go_i);conv=>whnf)|refine⟨λ_=>?_,λ_=>?_⟩|fail
   refine⟨i+1,rfl,rfl,rfl,by omega,by omega,?_⟩
   rw[isK,all_take_succ hx];rw[isK] at h3;rw[h3,decide_eq_true hk];rfl
  ·repeat' first|refine st ?_|((with_reducible apply go_i);conv=>whnf)|((with_reducible first|apply k_pn|apply k_pc);(·exact C.value_Null))|refine⟨λ_=>?_,λ_=>?_⟩|fail
   have:isK l 1=false:=all_none hx (decide_eq_false hk)
   rw[this];rfl
 |none=>
  have hge:=List.getElem?_eq_none_iff.1 hx
  rw[List.take_of_length_le hge] at h3
  rw[h3,if_pos rfl]
  unfold vAr
  by_cases h18:op=18
  ·rw[if_pos h18]
   subst h18
   repeat' first|refine st ?_|((with_reducible apply go_i);conv=>whnf)|((with_reducible first|apply k_pn|apply k_pc);(·exact C.value_Int _))|refine⟨λ_=>?_,λ_=>?_⟩|fail
   rfl
  rw[if_neg h18]
  by_cases h13:op=13
  ·subst h13
   repeat' first|refine st ?_|((with_reducible apply go_i);conv=>whnf)|((with_reducible first|apply k_pn|apply k_pc);(·exact C.value_Int _))|refine⟨λ_=>?_,λ_=>?_⟩|fail
   rfl
  by_cases h14:op=14
  ·subst h14
   repeat' first|refine st ?_|((with_reducible apply go_i);conv=>whnf)|((with_reducible first|apply k_pn|apply k_pc);(·exact C.value_Int _))|refine⟨λ_=>?_,λ_=>?_⟩|fail
   rfl
  by_cases h15:op=15
  ·subst h15
   repeat' first|refine st ?_|((with_reducible apply go_i);conv=>whnf)|refine⟨λ_=>?_,λ_=>?_⟩|fail
   rfl
  unfold vBin
  rw[if_neg h13,if_neg h14,if_neg h15]
  by_cases h0:b.n=0
  ·rw[if_pos h0]
   repeat' first|refine st ?_|((with_reducible apply go_i);conv=>whnf)|((with_reducible first|apply k_pn|apply k_pc);(·exact C.value_Null))|refine⟨λ_=>?_,λ_=>?_⟩|fail
  rw[if_neg h0]
  by_cases h16:op=16
  ·rw[if_pos h16]
   repeat' first|refine st ?_|((with_reducible apply go_i);conv=>whnf)|((with_reducible first|apply k_pn|apply k_pc);(·exact C.value_Int _))|refine⟨λ_=>?_,λ_=>?_⟩|fail
   rfl
  ·rw[if_neg h16]
   repeat' first|refine st ?_|((with_reducible apply go_i);conv=>whnf)|((with_reducible first|apply k_pn|apply k_pc);(·exact C.value_Int _))|refine⟨λ_=>?_,λ_=>?_⟩|fail
def isI2(a b:Vl):Bool:=decide (a.k=1)&&decide (b.k=1)
theorem C.expr_period(a b:Vl):Pure Tryz.prog N.expr_period [eV a,eV b] (.tup [eP a.n b.n,.d (.bool (isI2 a b))]):=by
 refine F.expr_period.go mixed rfl ?_
 unfold isI2
 by_cases ha:a.k=1
 ·rw[decide_eq_true ha]
  repeat' first|refine st ?_|((with_reducible apply go_i);conv=>whnf)|refine⟨λ_=>?_,λ_=>?_⟩|fail
  all_goals rfl
 ·rw[decide_eq_false ha]
  repeat' first|refine st ?_|((with_reducible apply go_i);conv=>whnf)|refine⟨λ_=>?_,λ_=>?_⟩|fail
  all_goals rfl
def vRel(r:Int)(a b c d:Vl):Vl:=if isK [a,b,c,d] 1&&(rel a.n b.n c.n d.n).2 then vBool (decide ((rel a.n b.n c.n d.n).1=r)) else vNull
theorem isK4(a b c d:Vl):isK [a,b,c,d] 1=(isI2 a b&&isI2 c d):=by simp[isK,isI2,Bool.and_assoc]
theorem C.expr_related(r:Int)(a b c d:Vl):Pure Tryz.prog N.expr_related [.d (eI r),.d (.sl (eVs [a,b,c,d]))] (eV (vRel r a b c d)):=by
 refine F.expr_related.go mixed rfl ?_
 have hm:=eVs_mem [a,b,c,d]
 have hg0:(eVs [a,b,c,d])[(0:Nat)]?=some a.ds:=rfl
 have hg1:(eVs [a,b,c,d])[(1:Nat)]?=some b.ds:=rfl
 have hg2:(eVs [a,b,c,d])[(2:Nat)]?=some c.ds:=rfl
 have hg3:(eVs [a,b,c,d])[(3:Nat)]?=some d.ds:=rfl
 have hln:(eVs [a,b,c,d]).length=4:=rfl
 have hR:=C.allen_Relation a.n b.n c.n d.n
 have hP:=C.expr_period a b
 have hQ:=C.expr_period c d
 unfold vRel
 rw[isK4]
 obtain⟨es,hes⟩:∃es,es=eVs [a,b,c,d]:=⟨_,rfl⟩
 rw[<- hes] at hm hg0 hg1 hg2 hg3 hln ⊢
 cases h1:isI2 a b with
 |false=>
  rw[h1] at hP
  repeat' first|refine st ?_|((with_reducible apply go_i);conv=>whnf)|((with_reducible first|apply k_pn|apply k_pc);(·exact C.value_Null))|refine⟨λ_=>?_,λ_=>?_⟩|fail
  all_goals rfl
 |true=>
  rw[h1] at hP
  cases h2:isI2 c d with
  |false=>
   rw[h2] at hQ
   repeat' first|refine st ?_|((with_reducible apply go_i);conv=>whnf)|((with_reducible first|apply k_pn|apply k_pc);(·exact C.value_Null))|refine⟨λ_=>?_,λ_=>?_⟩|fail
   all_goals rfl
  |true=>
   rw[h2] at hQ
   cases h3:(rel a.n b.n c.n d.n).2 with
   |false=>
    rw[h3] at hR
    repeat' first|refine st ?_|((with_reducible apply go_i);conv=>whnf)|((with_reducible first|apply k_pn|apply k_pc);(·exact C.value_Null))|refine⟨λ_=>?_,λ_=>?_⟩|fail
    all_goals rfl
   |true=>
    rw[h3] at hR
    repeat' first|refine st ?_|((with_reducible apply go_i);conv=>whnf)|((with_reducible first|apply k_pn|apply k_pc);(·exact C.value_Bool _))|refine⟨λ_=>?_,λ_=>?_⟩|fail
    all_goals rfl
theorem C.r11_related(r:Int)(a b c d:Vl):Pure Tryz.prog N.bt_ref11_related [.d (eI r),.d (.sl (eVs [a,b,c,d]))] (eV (vRel r a b c d)):=by
 refine F.bt_ref11_related.go mixed rfl ?_
 have hm:=eVs_mem [a,b,c,d]
 have hg0:(eVs [a,b,c,d])[(0:Nat)]?=some a.ds:=rfl
 have hg1:(eVs [a,b,c,d])[(1:Nat)]?=some b.ds:=rfl
 have hg2:(eVs [a,b,c,d])[(2:Nat)]?=some c.ds:=rfl
 have hg3:(eVs [a,b,c,d])[(3:Nat)]?=some d.ds:=rfl
 have hln:(eVs [a,b,c,d]).length=4:=rfl
 have hR:=C.ref_Relation a.n b.n c.n d.n
 have hA:=C.r11_are [a,b,c,d] (by simp) (.sl (eVs [a,b,c,d])) sld_sl 1
 unfold vRel
 obtain⟨es,hes⟩:∃es,es=eVs [a,b,c,d]:=⟨_,rfl⟩
 rw[<- hes] at hm hg0 hg1 hg2 hg3 hln hA ⊢
 cases h1:isK [a,b,c,d] 1 with
 |false=>
  rw[h1] at hA
  repeat' first|refine st ?_|((with_reducible apply go_i);conv=>whnf)|((with_reducible first|apply k_pn|apply k_pc);(·exact C.r7_Null))|refine⟨λ_=>?_,λ_=>?_⟩|fail
  all_goals rfl
 |true=>
  rw[h1] at hA
  cases h3:(rel a.n b.n c.n d.n).2 with
  |false=>
   rw[h3] at hR
   repeat' first|refine st ?_|((with_reducible apply go_i);conv=>whnf)|((with_reducible first|apply k_pn|apply k_pc);(·exact C.r7_Null))|refine⟨λ_=>?_,λ_=>?_⟩|fail
   all_goals rfl
  |true=>
   rw[h3] at hR
   repeat' first|refine st ?_|((with_reducible apply go_i);conv=>whnf)|((with_reducible first|apply k_pn|apply k_pc);(·exact C.r7_Bool _))|refine⟨λ_=>?_,λ_=>?_⟩|fail
   all_goals rfl
end Go.Proofs
end
section
namespace Go.Proofs
open Go.Bi
def coa:List Vl->Vl
 |[]=>vNull
 |v::l=>if v.k=0 then coa l else v
def evOp(op n:Int)(v:Vl)(l:List Vl)(row:List Vl):Vl:=
 if op=1 then v
 else if op=2 then vCol row n
 else if op=22 then (if vTruth (l.getD 0 vNull)=2 then l.getD 1 vNull else l.getD 2 vNull)
 else if op=4 then vOf (tNot (vTruth (l.getD 0 vNull)))
 else if op=5\/op=6 then vOf (lgF op (l.getD 0 vNull) (l.drop 1))
 else if op=21 then vBool (decide ((l.getD 0 vNull).k=0))
 else if op=23 then coa l
 else if op=24 then vRel n (l.getD 0 vNull) (l.getD 1 vNull) (l.getD 2 vNull) (l.getD 3 vNull)
 else if op=19\/op=20 then vTxt op l
 else if 13<=op/\op<=18 then vAri op l
 else vOf (vCp op (l.getD 0 vNull) (l.getD 1 vNull))
mutual
def ev(row:List Vl):Ex->Vl
 |.mk op n v name nl args=>if fmd op n v name args.length then evOp op n v (evs row args) row else vNull
def evs(row:List Vl):List Ex->List Vl
 |[]=>[]
 |e::es=>ev row e::evs row es
end
theorem evs_eq(row:List Vl):∀l,evs row l=l.map (ev row)
 |[]=>by simp[evs]
 |e::es=>by simp[evs,evs_eq row es]
theorem ev_mk(row:List Vl)(op n:Int)(v:Vl)(name:List UInt8)(nl:Bool)(args:List Ex):ev row (.mk op n v name nl args)=if fmd op n v name args.length then evOp op n v (args.map (ev row)) row else vNull:=by
 rw[ev,evs_eq]
theorem cnt_case{op:Int}{k:Nat}(h:(cnt op k).1=true):((op=1\/op=2)/\k=0)\/((op=4\/op=18\/op=20\/op=21)/\k=1)\/((7<=op/\op<=17\/op=19)/\k=2)\/((op=5\/op=6)/\2<=k)\/(op=22/\k=3)\/(op=23/\1<=k)\/(op=24/\k=4):=by
 unfold cnt at h
 repeat' split at h
 all_goals (simp at h)
 all_goals omega
theorem fmd_cnt{op n:Int}{v:Vl}{name:List UInt8}{k:Nat}(h:fmd op n v name k=true):(cnt op k).1=true:=by
 unfold fmd at h
 simp only[Bool.and_eq_true] at h
 exact h.1.1
theorem fmd_1v{n:Int}{v:Vl}{name:List UInt8}{k:Nat}(h:fmd 1 n v name k=true):vValid v=true:=by
 unfold fmd at h
 simp only[Bool.and_eq_true,if_true] at h
 exact h.2.2
theorem vNull_valid:vValid vNull=true:=by decide
theorem vOrN_valid(v:Vl):vValid (vOrN v)=true:=by
 unfold vOrN
 split
 ·assumption
 ·exact vNull_valid
theorem vBool_valid(b:Bool):vValid (vBool b)=true:=by cases b<;>decide
theorem vOf_valid(t:Int):vValid (vOf t)=true:=by
 unfold vOf
 split
 ·exact vBool_valid _
 ·split
  ·exact vBool_valid _
  ·exact vNull_valid
theorem getD_valid{l:List Vl}(h:∀v∈l,vValid v=true)(i:Nat):vValid (l.getD i vNull)=true:=by
 rw[List.getD_eq_getElem?_getD]
 cases hx:l[i]? with
 |none=>exact vNull_valid
 |some v=>exact h v (List.mem_of_getElem? hx)
theorem coa_valid:∀{l:List Vl},(∀v∈l,vValid v=true)->vValid (coa l)=true
 |[],_=>vNull_valid
 |v::l,h=>by
  unfold coa
  split
  ·exact coa_valid λx hx=>h x (by simp[hx])
  ·exact h v (by simp)
theorem evOp_valid{op n:Int}{v:Vl}{l row:List Vl}(hl:∀v∈l,vValid v=true)(h1:op=1->vValid v=true):vValid (evOp op n v l row)=true:=by
 unfold evOp
 split
 ·rename_i h;exact h1 h
 split
 ·exact vOrN_valid _
 split
 ·split
  ·exact getD_valid hl 1
  ·exact getD_valid hl 2
 split
 ·exact vOf_valid _
 split
 ·exact vOf_valid _
 split
 ·exact vBool_valid _
 split
 ·exact coa_valid hl
 split
 ·unfold vRel
  split
  ·exact vBool_valid _
  ·exact vNull_valid
 split
 ·unfold vTxt
  split
  ·split<;>exact vOrN_valid _
  ·exact vNull_valid
 split
 ·unfold vAri vAr vNeg vBin vPr
  repeat' split
  all_goals first|exact vOrN_valid _|exact vNull_valid
 ·exact vOf_valid _
theorem ev_valid(row:List Vl):∀e,vValid (ev row e)=true:=by
 refine Ex.ind λop n v name nl args ih=>?_
 rw[ev_mk]
 split
 ·rename_i h
  refine evOp_valid (λw hw=>?_) (λe=>?_)
  ·obtain⟨a,ha,rfl⟩:=List.mem_map.1 hw
   exact ih a ha
  ·subst e;exact fmd_1v h
 ·exact vNull_valid
theorem ev_s(row:List Vl)(e:Ex):(ev row e).s.length<=200:=valid_s (ev_valid row e)
theorem evs_s(row:List Vl)(args:List Ex):∀v∈args.map (ev row),v.s.length<=200:=λv hv=>by
 obtain⟨a,_,rfl⟩:=List.mem_map.1 hv
 exact ev_s row a
theorem evs_n(row:List Vl)(args:List Ex):∀v∈args.map (ev row),nSm v.n:=λv hv=>by
 obtain⟨a,_,rfl⟩:=List.mem_map.1 hv
 exact valid_n (ev_valid row a)
abbrev z3:List D:=[eI 0,eI 0,.str []]
def Lv(row:List Vl)(args:List Ex)(i:Nat):List (List D):=eVs ((args.take i).map (ev row))++List.replicate (args.length-i) z3
theorem Lv_len(row:List Vl)(args:List Ex)(i:Nat)(h:i<=args.length):(Lv row args i).length=args.length:=by
 unfold Lv
 rw[List.length_append,eVs_len,List.length_map,List.length_take,List.length_replicate]
 omega
theorem Lv_mem(row:List Vl)(args:List Ex)(i:Nat):∀e∈Lv row args i,e.length=3:=by
 intro e he
 rcases List.mem_append.1 he with h|h
 ·exact eVs_mem _ e h
 ·rw[List.eq_of_mem_replicate h];rfl
theorem Lv_get{row:List Vl}{args:List Ex}{i:Nat}(h:i<args.length):(Lv row args i)[i]?=some z3:=by
 unfold Lv
 rw[List.getElem?_append_right (by rw[eVs_len,List.length_map,List.length_take];omega)]
 rw[eVs_len,List.length_map,List.length_take,List.getElem?_replicate,if_pos (by omega)]
theorem Lv_set{row:List Vl}{args:List Ex}{i:Nat}{x:Ex}(h:args[i]?=some x):(Lv row args i).set i (ev row x).ds=Lv row args (i+1):=by
 have hlt:=(List.getElem?_eq_some_iff.1 h).1
 have hl:(eVs ((args.take i).map (ev row))).length=i:=by rw[eVs_len,List.length_map,List.length_take];omega
 unfold Lv
 rw[List.set_append_right _ _ (by omega),hl,Nat.sub_self]
 rw[show args.length-i=(args.length-(i+1))+1 by omega,List.replicate_succ,List.set_cons_zero]
 rw[List.take_add_one,h]
 simp[eVs]
theorem Lv_end{row:List Vl}{args:List Ex}{i:Nat}(h:args.length<=i):Lv row args i=eVs (args.map (ev row)):=by
 unfold Lv
 rw[List.take_of_length_le h,show args.length-i=0 by omega]
 simp
theorem Lv_zero(row:List Vl)(args:List Ex)(n:Nat)(h:n=args.length):List.replicate ((n:Int)).toNat z3=Lv row args 0:=by
 unfold Lv
 subst h
 simp[eVs]
end Go.Proofs
end
section
namespace Go.Proofs
open Go.Bi
theorem evOp_1(op n:Int)(v:Vl)(l row:List Vl)(h:op=1\/op=2)(hv:op=1->vValid v=true):evOp op n v l row=vLf op n v row:=by
 rcases h with rfl|rfl
 ·unfold evOp vLf vOrN
  simp[hv rfl]
 ·rfl
theorem C.r11_chosen22(l:List Vl)(a b c:Vl)(h:l=[a,b,c]):Pure Tryz.prog N.bt_ref11_chosen [.d (eI 22),.d (.sl (eVs l))] (eV (if vTruth a=2 then b else c)):=by
 refine F.bt_ref11_chosen.go mixed rfl ?_
 subst h
 have hm:=eVs_mem [a,b,c]
 have hg0:(eVs [a,b,c])[(0:Nat)]?=some a.ds:=rfl
 have hg1:(eVs [a,b,c])[(1:Nat)]?=some b.ds:=rfl
 have hg2:(eVs [a,b,c])[(2:Nat)]?=some c.ds:=rfl
 have hln:(eVs [a,b,c]).length=3:=rfl
 obtain⟨es,hes⟩:∃es,es=eVs [a,b,c]:=⟨_,rfl⟩
 rw[<- hes] at hm hg0 hg1 hg2 hln ⊢
 by_cases ht:vTruth a=2
 ·rw[if_pos ht]
  repeat' first|refine st ?_|((with_reducible apply go_i);conv=>whnf)|((with_reducible first|apply k_pn|apply k_pc);(·exact C.r7_Truth _))|refine⟨λ_=>?_,λ_=>?_⟩|fail
  all_goals rfl
 ·rw[if_neg ht]
  repeat' first|refine st ?_|((with_reducible apply go_i);conv=>whnf)|((with_reducible first|apply k_pn|apply k_pc);(·exact C.r7_Truth _))|refine⟨λ_=>?_,λ_=>?_⟩|fail
  all_goals rfl
theorem coa_drop'{l:List Vl}{i:Nat}{v:Vl}(h:l[i]?=some v):coa (l.drop i)=if v.k=0 then coa (l.drop (i+1)) else v:=by
 obtain⟨hlt,he⟩:=List.getElem?_eq_some_iff.1 h
 rw[List.drop_eq_getElem_cons hlt,he];rfl
theorem C.r11_chosen23(l:List Vl)(hl:l.length<=1048576):Pure Tryz.prog N.bt_ref11_chosen [.d (eI 23),.d (.sl (eVs l))] (eV (coa l)):=by
 refine F.bt_ref11_chosen.go mixed rfl ?_
 have hm:=eVs_mem l
 have hLl:=eVs_len l
 repeat' first|refine st ?_|((with_reducible apply go_i);conv=>whnf)|refine⟨λ_=>?_,λ_=>?_⟩|fail
 refine x_loop1 mixed Lt.bt_ref11_chosen_l0 Lk.bt_ref11_chosen_l0 (λ(i:Nat)=>[.d (eI i)]) (λi=>[.cells [.d (eI 0),.d (eI 0),.d (.str [])]]) (λi=>i<=l.length/\coa l=coa (l.drop i)) (λi=>l.length-i) 0 rfl rfl rfl rfl (λ_ _=>⟨rfl,rfl⟩) rfl ⟨by omega,rfl⟩ ?_
 repeat' first|refine st ?_|((with_reducible apply go_i);conv=>whnf)|refine⟨λ_=>?_,λ_=>?_⟩|fail
 intro j ⟨h6,h7⟩
 cases hy:l[j]? with
 |some w=>
  have hlt2:=(List.getElem?_eq_some_iff.1 hy).1
  have hg2:=eVs_get hy
  rw[coa_drop' hy] at h7
  by_cases hk:w.k=0
  ·rw[if_pos hk] at h7
   repeat' first|refine st ?_|((with_reducible apply go_i);conv=>whnf)|refine⟨λ_=>?_,λ_=>?_⟩|fail
   exact⟨j+1,rfl,rfl,rfl,by omega,by omega,h7⟩
  ·rw[if_neg hk] at h7
   rw[h7]
   repeat' first|refine st ?_|((with_reducible apply go_i);conv=>whnf)|refine⟨λ_=>?_,λ_=>?_⟩|fail
   all_goals rfl
 |none=>
  have hge2:=List.getElem?_eq_none_iff.1 hy
  rw[List.drop_eq_nil_of_le hge2] at h7
  rw[h7]
  repeat' first|refine st ?_|((with_reducible apply go_i);conv=>whnf)|((with_reducible first|apply k_pn|apply k_pc);(·exact C.r7_Null))|refine⟨λ_=>?_,λ_=>?_⟩|fail
  all_goals rfl
def Av(row:List Vl)(args:List Ex)(i:Nat):List (List D):=eVs ((args.take i).map (ev row))
theorem Av_len(row:List Vl)(args:List Ex)(i:Nat)(h:i<=args.length):(Av row args i).length=i:=by
 unfold Av
 rw[eVs_len,List.length_map,List.length_take]
 omega
theorem Av_succ{row:List Vl}{args:List Ex}{i:Nat}{x:Ex}(h:args[i]?=some x):Av row args i++[(ev row x).ds]=Av row args (i+1):=by
 unfold Av
 rw[List.take_add_one,h]
 simp[eVs]
theorem Av_end{row:List Vl}{args:List Ex}{i:Nat}(h:args.length<=i):Av row args i=eVs (args.map (ev row)):=by
 unfold Av
 rw[List.take_of_length_le h]
theorem C.r11_Eval(row:List Vl)(hr:row.length<=1048576)(hrs:∀v∈row,v.s.length<=1048576)(dr:D)(hdr:SlD dr (eVs row)):∀e:Ex,e.bk<=1048576->Pure Tryz.prog N.bt_ref11_Eval [e.av,.d dr] (eV (ev row e)):=by
 refine Ex.ind λop n v name nl args ih hbk=>?_
 obtain⟨b1,b2,b3,b4⟩:=Ex.bk_bounds hbk
 have ih':∀a∈args,Pure Tryz.prog N.bt_ref11_Eval [a.av,.d dr] (eV (ev row a)):=λa ha=>ih a ha (b4 a ha)
 clear ih
 rw[Ex.av_mk]
 refine F.bt_ref11_Eval.go mixed rfl ?_
 have hlen:=xL_len args
 have hF:=C.r11_Formed op n v name (ng nl (xL args)) (xL args) sld_ng b2 (by omega)
 rw[hlen] at hF
 have hm:=xL_mem args
 have hd:SlD (ng nl (xL args)) (xL args):=sld_ng
 have hget:∀(i:Nat) (op' n':Int) (v':Vl) (name':List UInt8) (nl':Bool) (args':List Ex),args[i]?=some (.mk op' n' v' name' nl' args')->(xL args)[i]?=some (xds op' n' v' name' (ng nl' (xL args'))):=λi op' n' v' name' nl' args' h=>by
  rw[<- Ex.ds_mk];exact xL_get h
 obtain⟨d,hde⟩:∃d,d=ng nl (xL args):=⟨_,rfl⟩
 rw[<- hde] at hF hd ⊢
 obtain⟨es,hes⟩:∃es,es=xL args:=⟨_,rfl⟩
 rw[<- hes] at hlen hm hd hget
 rw[ev_mk]
 cases hf:fmd op n v name args.length with
 |false=>
  rw[hf] at hF
  repeat' first|refine st ?_|((with_reducible apply go_i);conv=>whnf)|((with_reducible first|apply k_pn|apply k_pc);(·exact C.r7_Null))|refine⟨λ_=>?_,λ_=>?_⟩|fail
  all_goals rfl
 |true=>
 rw[hf] at hF
 rw[if_pos rfl]
 have hcnt:=cnt_case (fmd_cnt hf)
 repeat' first|refine st ?_|((with_reducible apply go_i);conv=>whnf)|refine⟨λ_=>?_,λ_=>?_⟩|fail
 refine x_loop2 mixed Lt.bt_ref11_Eval_l0 Lk.bt_ref11_Eval_l0 (λ(i:Nat) (A:List (List D))=>[.arr 2 A.length,.d (eI i)]) (λi A=>[.cells [.d (eI op),.d (eI n),.d (eI v.k),.d (eI v.n),.d (.str v.s),.d (.str name),.d d],.cells [.d (eI 0),.d (eI 0),.d (.str [])],.arr A 3 0 false]) (λi A=>i<=args.length/\A=Av row args i) (λi _=>args.length-i) 0 [] rfl rfl rfl rfl (λ_ _ _=>⟨rfl,rfl⟩) rfl ⟨by omega,rfl⟩ ?_
 repeat' first|refine st ?_|((with_reducible apply go_i);conv=>whnf)|refine⟨λ_=>?_,λ_=>?_⟩|fail
 intro i A ⟨h4,h5⟩
 have hAl:A.length=i:=by rw[h5];exact Av_len row args i h4
 have hAm:∀e∈A,e.length=3:=by rw[h5];exact eVs_mem _
 cases hx:args[i]? with
 |some x=>
  have hlt:=(List.getElem?_eq_some_iff.1 hx).1
  have hI:=ih' x (List.mem_of_getElem? hx)
  have hset:=Av_succ (row:=row) hx
  obtain⟨op',n',v',name',nl',args'⟩:=x
  rw[Ex.av_mk] at hI
  have hg:=hget i _ _ _ _ _ _ hx
  rw[<- h5] at hset
  repeat' first|refine st ?_|((with_reducible apply go_i);conv=>whnf)|refine⟨λ_=>?_,λ_=>?_⟩|fail
  exact⟨i+1,_,rfl,rfl,rfl,by omega,by omega,hset⟩
 |none=>
  have hge:=List.getElem?_eq_none_iff.1 hx
  rw[Av_end hge] at h5
  clear ih' hget hF
  obtain⟨l,hl⟩:∃l,l=args.map (ev row):=⟨_,rfl⟩
  have hll:l.length=args.length:=by rw[hl,List.length_map]
  have hs:=evs_s row args
  have hn:=evs_n row args
  rw[<- hl] at h5 hs hn ⊢
  subst h5
  by_cases h12:op=1\/op=2
  ·rw[evOp_1 op n v l row h12 (λe=>by subst e;exact fmd_1v hf)]
   have hC:=C.r11_leaf op n v name d b2 row hr hrs dr hdr
   rcases h12 with rfl|rfl
   ·repeat' first|refine st ?_|((with_reducible apply go_i);conv=>whnf)|refine⟨λ_=>?_,λ_=>?_⟩|fail
    all_goals rfl
   ·repeat' first|refine st ?_|((with_reducible apply go_i);conv=>whnf)|refine⟨λ_=>?_,λ_=>?_⟩|fail
    all_goals rfl
  rcases hcnt with ⟨h,k⟩|⟨h,k⟩|⟨h,k⟩|⟨h,k⟩|⟨h,k⟩|⟨h,k⟩|⟨h,k⟩
  ·exact absurd h h12
  ·obtain⟨a,rfl⟩:∃a,l=[a]:=by
    match l,hll.trans k with
    |[a],_=>exact⟨a,rfl⟩
   have g0:(eVs [a])[(0:Nat)]?=some a.ds:=rfl
   rcases h with rfl|rfl|rfl|rfl
   ·repeat' first|refine st ?_|((with_reducible apply go_i);conv=>whnf)|((with_reducible first|apply k_pn|apply k_pc);(·first|exact C.r7_Truth _|exact C.r7_Not _|exact C.r7_Of _))|refine⟨λ_=>?_,λ_=>?_⟩|fail
    all_goals rfl
   ·have hA:=C.r11_are [a] (by simp) (.sl (eVs [a])) sld_sl 1
    obtain⟨na1,na2⟩:=hn a (by simp)
    have e:evOp 18 n v [a] row=if isK [a] 1 then vInt (0-a.n) else vNull:=rfl
    rw[e]
    cases hk:isK [a] 1 with
    |true=>
     rw[hk] at hA
     repeat' first|refine st ?_|((with_reducible apply go_i);conv=>whnf)|((with_reducible first|apply k_pn|apply k_pc);(·exact C.r7_Int _))|refine⟨λ_=>?_,λ_=>?_⟩|fail
     all_goals rfl
    |false=>
     rw[hk] at hA
     repeat' first|refine st ?_|((with_reducible apply go_i);conv=>whnf)|((with_reducible first|apply k_pn|apply k_pc);(·exact C.r7_Null))|refine⟨λ_=>?_,λ_=>?_⟩|fail
     all_goals rfl
   ·have hC:=C.r11_texts20 a (hs a (by simp))
    repeat' first|refine st ?_|((with_reducible apply go_i);conv=>whnf)|refine⟨λ_=>?_,λ_=>?_⟩|fail
    all_goals rfl
   ·repeat' first|refine st ?_|((with_reducible apply go_i);conv=>whnf)|((with_reducible first|apply k_pn|apply k_pc);(·exact C.r7_Bool _))|refine⟨λ_=>?_,λ_=>?_⟩|fail
    all_goals rfl
  ·obtain⟨a,b,rfl⟩:∃a b,l=[a,b]:=by
    match l,hll.trans k with
    |[a,b],_=>exact⟨a,b,rfl⟩
   have g0:(eVs [a,b])[(0:Nat)]?=some a.ds:=rfl
   have g1:(eVs [a,b])[(1:Nat)]?=some b.ds:=rfl
   by_cases h19:op=19
   ·subst h19
    have hC:=C.r11_texts19 a b (hs a (by simp)) (hs b (by simp))
    repeat' first|refine st ?_|((with_reducible apply go_i);conv=>whnf)|refine⟨λ_=>?_,λ_=>?_⟩|fail
    all_goals rfl
   by_cases h13:13<=op
   ·have hA:=C.r11_are [a,b] (by simp) (.sl (eVs [a,b])) sld_sl 1
    have hC:=C.r11_computed op a.n b.n (hn a (by simp)) (hn b (by simp))
    have e:evOp op n v [a,b] row=if isK [a,b] 1 then vBin op a.n b.n else vNull:=by
     unfold evOp
     rw[if_neg (by omega),if_neg (by omega),if_neg (by omega),if_neg (by omega),if_neg (by omega),if_neg (by omega),if_neg (by omega),if_neg (by omega),if_neg (by omega),if_pos (by omega)]
     unfold vAri vAr
     rw[if_neg (show ¬op=18 by omega)]
     rfl
    rw[e]
    clear e
    cases hk:isK [a,b] 1 with
    |true=>
     rw[hk] at hA
     rcases(show op=13\/op=14\/op=15\/op=16\/op=17 by omega) with rfl|rfl|rfl|rfl|rfl
     all_goals repeat' first|refine st ?_|((with_reducible apply go_i);conv=>whnf)|refine⟨λ_=>?_,λ_=>?_⟩|fail
     all_goals rfl
    |false=>
     rw[hk] at hA
     rcases(show op=13\/op=14\/op=15\/op=16\/op=17 by omega) with rfl|rfl|rfl|rfl|rfl
     all_goals repeat' first|refine st ?_|((with_reducible apply go_i);conv=>whnf)|((with_reducible first|apply k_pn|apply k_pc);(·exact C.r7_Null))|refine⟨λ_=>?_,λ_=>?_⟩|fail
     all_goals rfl
   ·have e:evOp op n v [a,b] row=vOf (vCp op a b):=by
     unfold evOp
     rw[if_neg (by omega),if_neg (by omega),if_neg (by omega),if_neg (by omega),if_neg (by omega),if_neg (by omega),if_neg (by omega),if_neg (by omega),if_neg (by omega),if_neg (by omega)]
     rfl
    rw[e]
    clear e
    rcases(show op=7\/op=8\/op=9\/op=10\/op=11\/op=12 by omega) with rfl|rfl|rfl|rfl|rfl|rfl
    all_goals repeat' first|refine st ?_|((with_reducible apply go_i);conv=>whnf)|((with_reducible first|apply k_pn|apply k_pc);(·first|exact C.r11_compared _ _ _|exact C.r7_Of _))|refine⟨λ_=>?_,λ_=>?_⟩|fail
    all_goals rfl
  ·obtain⟨a,r,rfl⟩:∃a r,l=a::r:=by
    match l,hll with
    |[],h=>simp at h;omega
    |a::r,_=>exact⟨a,r,rfl⟩
   have hC:=C.r11_logic op a r (by simp at hll;omega)
   rcases h with rfl|rfl
   ·repeat' first|refine st ?_|((with_reducible apply go_i);conv=>whnf)|refine⟨λ_=>?_,λ_=>?_⟩|fail
    all_goals rfl
   ·repeat' first|refine st ?_|((with_reducible apply go_i);conv=>whnf)|refine⟨λ_=>?_,λ_=>?_⟩|fail
    all_goals rfl
  ·obtain⟨a,b,c,e⟩:∃a b c,l=[a,b,c]:=by
    match l,hll.trans k with
    |[a,b,c],_=>exact⟨a,b,c,rfl⟩
   subst h
   have hC:=C.r11_chosen22 l a b c e
   have e2:evOp 22 n v l row=if vTruth a=2 then b else c:=by rw[e];rfl
   rw[e2]
   repeat' first|refine st ?_|((with_reducible apply go_i);conv=>whnf)|refine⟨λ_=>?_,λ_=>?_⟩|fail
   all_goals rfl
  ·obtain⟨rfl,_⟩:=h
   have hC:=C.r11_chosen23 l (by omega)
   have e:evOp 23 n v l row=coa l:=rfl
   rw[e]
   repeat' first|refine st ?_|((with_reducible apply go_i);conv=>whnf)|refine⟨λ_=>?_,λ_=>?_⟩|fail
   all_goals rfl
  ·obtain⟨a,b,c,e,rfl⟩:∃a b c e,l=[a,b,c,e]:=by
    match l,hll.trans k with
    |[a,b,c,e],_=>exact⟨a,b,c,e,rfl⟩
   subst h
   have hC:=C.r11_related n a b c e
   repeat' first|refine st ?_|((with_reducible apply go_i);conv=>whnf)|refine⟨λ_=>?_,λ_=>?_⟩|fail
   all_goals rfl
theorem C.r11_Truth(row:List Vl)(hr:row.length<=1048576)(hrs:∀v∈row,v.s.length<=1048576)(dr:D)(hdr:SlD dr (eVs row))(e:Ex)(he:e.bk<=1048576):Pure Tryz.prog N.bt_ref11_Truth [e.av,.d dr] (.d (eI (vTruth (ev row e)))):=by
 have h:=C.r11_Eval row hr hrs dr hdr e he
 obtain⟨op,n,v,name,nl,args⟩:=e
 rw[Ex.av_mk] at h ⊢
 refine F.bt_ref11_Truth.go mixed rfl ?_
 repeat' first|refine st ?_|((with_reducible apply go_i);conv=>whnf)|((with_reducible first|apply k_pn|apply k_pc);(·exact C.r7_Truth _))|refine⟨λ_=>?_,λ_=>?_⟩|fail
end Go.Proofs
end
section
namespace Go.Bi
open Go
def slD(nl:Bool)(es:List (List D)):D:=if nl then .nil else .sl es
section
variable {P:Program}{M' M2:Mem}{G':Gh}{os:List AO}{w':World}
variable (he:Env M' G' os w')(hm:∀y u,M' y=some u->M2 y=some u)(hb:∀i,Live os i->∀(o:Nat) u,w'.cell? ⟨G'.blk i,o,none⟩=some u->M2 ⟨G'.blk i,o,none⟩=some u)
include he hm hb
end
end Go.Bi
end
section
namespace Go.Bi
open Go
structure LoopN(k:Nat)(P:Program)(n nb:Nat)(cd:IC)(N:Sl->List AO->Prop)(E:Nat->Sl->List AO->Prop)(R:Sl->List AO->Prop)(L:Sl)(os:List AO):Prop where
 h:∀body,cC P n body=some cd->∀c M G w a,Rel n nb c M G os w (ofL L) a->Code.rounds P body (post n nb c (toK ⟨N,E,R⟩)) k a w
section
variable {P:Program}{n nb:Nat}{cd:IC}{N:Sl->List AO->Prop}{E0:Nat->Sl->List AO->Prop}{R:Sl->List AO->Prop}{L:Sl}{os:List AO}
theorem x_rounds(k:Nat)(h:LoopN k P n nb cd N E0 R L os):LoopX P n nb cd N E0 R L os:=by
 refine⟨λcode=>?_⟩
 induction code with
 |loop body ih=>
  intro hc c M G w a hR
  simp only[cC] at hc
  obtain⟨ic',hic,he⟩:=opt_map hc
  cases he
  exact wp_loop_rounds k (h.h body hic c M G w a hR)
 |scope x ih=>
  intro hc c M G w a hR
  simp only[cC] at hc
  refine wp_scope_straight (wp_mono (ih hc c M G w a hR) λe a' w' hp=>?_)
  cases e<;>first|exact hp|exact hp.elim
 |skip=>intro hc;simp[cC] at hc
 |region id ops draw=>intro hc;simp only[cC] at hc;split at hc<;>(try split at hc)<;>(try split at hc)<;>(try split at hc)<;>cases hc
 |seq x y=>intro hc;simp only[cC] at hc;split at hc<;>cases hc
 |cond cnd x y=>intro hc;simp only[cC] at hc;split at hc<;>cases hc
 |block id x=>intro hc;simp only[cC] at hc;obtain⟨_,_,he⟩:=opt_map hc;cases he
 |exit id=>intro hc;simp[cC] at hc
 |ret=>intro hc;simp[cC] at hc
 |_=>intro hc;simp[cC] at hc
theorem x_round(hm:P.follows .mixedOrders=true){k:Nat}(h:Go (xI P n nb cd (λL' os'=>LoopN k P n nb cd N E0 R L' os') E0 R L os)):LoopN (k+1) P n nb cd N E0 R L os:=by
 refine⟨λbody hb c M G w a hR=>?_⟩
 rw[rounds_succ]
 have h1:=xI_ok (K:=⟨λL' os'=>LoopN k P n nb cd N E0 R L' os',E0,R⟩) (K':=toK ⟨λL' os'=>LoopN k P n nb cd N E0 R L' os',E0,R⟩) ⟨λL' os' h=>⟨L',rfl,h⟩,λi L' os' h=>⟨L',rfl,h⟩,λL' os' h=>⟨L',rfl,h⟩⟩ h
 refine wp_mono (wpI_tri hm body cd hb _ _ _ h1 c M G w a hR) λe a' w' hp=>?_
 cases e with
 |normal=>
  obtain⟨M',G',os',ρ',hR',L',rfl,hk⟩:=hp
  exact hk.h body hb c M' G' w' a' hR'
 |exit id=>exact hp
 |ret=>exact hp
 |_=>exact hp
theorem x_nilcc(id off sz:Nat)(hsz:Nat.blt 0 sz=true){cs:List AV}(ho:os[id]?=some (.cells cs))(hn:cs[off]?=some (.d .nil))
  (k:LoopX P n nb cd N E0 R L ((os++[AO.arr [] sz 0 true]).set id (.cells (cs.set off (.arr os.length 0))))):LoopX P n nb cd N E0 R L os:=by
 have hw:=weak_nilc (n:=n) (nb:=nb) (ρ:=ofL L) (os:=os) id off sz (Nat.lt_of_lt_of_le Nat.zero_lt_one (Nat.le_of_ble_eq_true hsz)) ho hn
 refine⟨λcode hc c M G w a hR=>?_⟩
 obtain⟨M',G',hR'⟩:=hw c M G w a hR
 exact k.h code hc c M' G' w a hR'
end
end Go.Bi
end
section
namespace Go.Proofs
open Go.Bi
def RwOk(r:Row):Prop:=r.length<=1048576/\∀v∈r,v.s.length<=1048576
abbrev eBag(dk dr:D):AV:=.agg [.d dk,.d dr]
def trB(e:Ex)(r:Row):Bool:=decide (vTruth (ev r e)=2)
theorem ftake'{α:Type}{p:α->Bool}{l:List α}{i:Nat}{e:α}(h:l[i]?=some e):(l.take (i+1)).filter p=(l.take i).filter p++if p e then [e] else []:=by
 rw[List.take_add_one,h,List.filter_append]
 congr 1
 show List.filter p [e]=_
 cases hp:p e<;>simp[List.filter_cons,hp]
theorem vsR_filter(p:Row->Bool)(l:List Rw):vsR (l.filter λr=>p r.vs)=(vsR l).filter p:=by
 unfold vsR
 rw[List.filter_map]
 rfl
theorem eRs_app(a b:List Rw):eRs (a++b)=eRs a++eRs b:=by simp[eRs]
theorem C.r21_Filter(dk:D)(l:List Rw)(hl:l.length<=4194304)(ho:∀r∈l,RwOk r.vs)(dr:D)(hd:SlD dr (eRs l))(e:Ex)(he:e.bk<=1048576) :
  Pure Tryz.prog N.bt_ref21_Filter [eBag dk dr,e.av] (eBag dk (.sl (rD (ordR ((vsR l).filter (trB e)))))):=by
 have hT:=λ(r:Rw) (h:r∈l)=>C.r11_Truth r.vs (ho r h).1 (ho r h).2 r.d sld_ng e he
 have hfl:(l.filter λr=>trB e r.vs).length<=l.length:=List.length_filter_le ..
 have hS:=λd hd=>C.r8_Sort (l.filter λr=>trB e r.vs) (by omega) (λr h=>Nat.le_trans (ho r (List.mem_filter.1 h).1).1 (by decide)) d hd
 rw[vsR_filter] at hS
 obtain⟨Z,hZ⟩:∃z,z=rD (ordR ((vsR l).filter (trB e))):=⟨_,rfl⟩
 rw[<- hZ] at hS ⊢
 clear hZ
 have l1:=eRs_len l
 have m1:=eRs_mem l
 have g1:=λi r=>@eRs_get l i r
 obtain⟨es,hes⟩:∃z,z=eRs l:=⟨_,rfl⟩
 rw[<- hes] at hd l1 m1 g1
 clear hes
 obtain⟨xo,xn,xv,xm,xl,xa⟩:=e
 rw[Ex.av_mk] at hT ⊢
 obtain⟨xd,hxd⟩:∃d,d=ng xl (xL xa):=⟨_,rfl⟩
 rw[<- hxd] at hT ⊢
 refine F.bt_ref21_Filter.go mixed rfl ?_
 repeat' first|refine st ?_|((with_reducible apply go_i);conv=>whnf)|refine⟨λ_=>?_,λ_=>?_⟩|fail
 refine x_nilcc 3 1 1 rfl rfl rfl ?_
 refine x_loop2 mixed Lt.bt_ref21_Filter_l0 Lk.bt_ref21_Filter_l0 (λ(i:Nat) (w:List Rw)=>[.d (eI i)]) (λi w=>[.cells [.d dk,.d dr],.cells [.d (eI xo),.d (eI xn),.d (eI xv.k),.d (eI xv.n),.d (.str xv.s),.d (.str xm),.d xd],.cells [.d .nil,.d .nil],.cells [.d dk,.arr 4 (eRs w).length],.arr (eRs w) 1 0 (eRs w).isEmpty]) (λi w=>i<=l.length/\w=(l.take i).filter λr=>trB (.mk xo xn xv xm xl xa) r.vs) (λi w=>l.length-i) 0 [] rfl rfl rfl rfl (λ_ _ _=>⟨rfl,rfl⟩) rfl ⟨by omega,rfl⟩ ?_
 repeat' first|refine st ?_|((with_reducible apply go_i);conv=>whnf)|refine⟨λ_=>?_,λ_=>?_⟩|fail
 intro i w ⟨i1,i2⟩
 have hwl:w.length<=i:=by
  rw[i2]
  exact Nat.le_trans (List.length_filter_le ..) (by rw[List.length_take];omega)
 have hw1:=eRs_len w
 have hwm:=eRs_mem w
 have hbd:((eRs w).length+1)*24<=140737488355328:=by omega
 have happ:=λr=>show eRs (w++[r])=eRs w++[[r.d]] by rw[eRs_app];rfl
 obtain⟨A,hA⟩:∃z,z=eRs w:=⟨_,rfl⟩
 rw[<- hA] at hw1 hwm hbd ⊢
 cases hx:l[i]? with
 |some r=>
  have hlt:=(List.getElem?_eq_some_iff.1 hx).1
  have hil:(i:Int)<es.length:=by omega
  have e1:es[((i:Nat):Int).toNat]?=some [r.d]:=g1 i r hx
  have hT:=hT r (List.mem_of_getElem? hx)
  have hft:=ftake' (p:=λr:Rw=>trB (.mk xo xn xv xm xl xa) r.vs) hx
  rw[<- i2] at hft
  have happ:=happ r
  rw[<- hA] at happ
  have hne:(A++[[r.d]]).isEmpty=false:=by simp
  obtain⟨rd,hrd⟩:∃d,d=r.d:=⟨_,rfl⟩
  rw[<- hrd] at hT e1 happ hne
  unfold trB at hft
  obtain⟨t,ht⟩:∃t,t=vTruth (ev r.vs (.mk xo xn xv xm xl xa)):=⟨_,rfl⟩
  rw[<- ht] at hT hft
  clear hrd ht i2 hx g1 hS ho
  by_cases h2:t=2
  ·rw[decide_eq_true h2,if_pos rfl] at hft
   subst h2
   repeat' first|refine st ?_|((with_reducible apply go_i);conv=>whnf)|refine⟨λ_=>?_,λ_=>?_⟩|fail
   exact⟨i+1,w++[r],rfl,rfl,by rw[happ,hne];first|done|rfl|simp,by omega,by omega,hft.symm⟩
  ·rw[decide_eq_false h2,if_neg (by decide),List.append_nil] at hft
   repeat' first|refine st ?_|((with_reducible apply go_i);conv=>whnf)|refine⟨λ_=>?_,λ_=>?_⟩|fail
   exact⟨i+1,w,rfl,rfl,by rw[hA];first|done|rfl,by omega,by omega,hft.symm⟩
 |none=>
  have hge:=List.getElem?_eq_none_iff.1 hx
  have hil:(es.length:Int)<=i:=by omega
  rw[List.take_of_length_le hge] at i2
  rw[<- i2] at hS
  obtain⟨b,hb⟩:∃b,b=A.isEmpty:=⟨_,rfl⟩
  rw[<- hA] at hS
  have hS:=hS (if b then .nil else .sl A) (by
   rw[hb]
   cases A with
   |nil=>exact .inl ⟨rfl,rfl⟩
   |cons a r=>exact .inr rfl)
  rw[<- hb]
  clear i2 hx g1 ho hT happ
  cases b
  all_goals skip
  all_goals repeat' first|refine st ?_|((with_reducible apply go_i);conv=>whnf)|refine⟨λ_=>?_,λ_=>?_⟩|fail
  all_goals rfl
end Go.Proofs
end
