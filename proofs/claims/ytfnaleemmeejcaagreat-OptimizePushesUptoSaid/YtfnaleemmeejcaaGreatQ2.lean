/- Texts of this claim, joined. No condition. -/
import Derived.Test.YtfnaleemmeejcaaGreatQ1
import Derived.LoopN
set_option linter.unusedSimpArgs false
set_option linter.unusedVariables false
set_option maxRecDepth 10000
set_option maxHeartbeats 4000000
section
namespace Go.Proofs
open Go.Bi
theorem Pl.cuto(o:Po)(ni:Bool)(ins:List Pl):∃(xo xn:Int)(xv:Vl)(xm:List UInt8)(xd:D),(Pl.mk o ni ins).av=G3 o.op o.n o.dk o.dr xo xn xv xm xd o.dx o.dy o.da (ng ni (pL ins))/\o.pred.av=eX xo xn xv xm xd:=by
 cases hp:o.pred with
 |mk xo xn xv xm xl xa=>exact⟨xo,xn,xv,xm,_,Pl.av_eq o ni ins xo xn xv xm xl xa hp,Ex.av_mk ..⟩
theorem Pl.cut(p:Pl):∃(op n:Int)(dk dr:D)(xo xn:Int)(xv:Vl)(xm:List UInt8)(xd dx dy da di:D),p.ds=K1 op n dk dr xo xn xv xm xd dx dy da di/\p.av=G3 op n dk dr xo xn xv xm xd dx dy da di:=by
 obtain⟨o,ni,ins⟩:=p
 cases hp:o.pred with
 |mk xo xn xv xm xl xa=>exact⟨_,_,_,_,_,_,_,_,_,_,_,_,_,Pl.ds_eq o ni ins xo xn xv xm xl xa hp,Pl.av_eq o ni ins xo xn xv xm xl xa hp⟩
mutual
def F5:Pl->Nat
 |.mk _ _ ins=>P6 ins+1
def P6:List Pl->Nat
 |[]=>0
 |p::r=>max (F5 p) (P6 r)
end
theorem C14:∀(l:List Pl)(p:Pl),P6 (l++[p])=max (P6 l) (F5 p)
 |[],p=>by simp[P6]
 |a::l,p=>by
  show max (F5 a) (P6 (l++[p]))=max (max (F5 a) (P6 l)) (F5 p)
  rw[C14 l p,Nat.max_assoc]
theorem B1L{l:List Pl}{i:Nat}{p:Pl}(h:l[i]?=some p):P6 (l.take (i+1))=max (P6 (l.take i)) (F5 p):=by
 rw[L8,h];exact C14 _ _
theorem C13{l:List Pl}{B:Nat}(h:∀p∈l,F5 p<=B):P6 l<=B:=by
 induction l with
 |nil=>exact N1 _
 |cons a l ih=>exact Nat.max_le.2 ⟨h a (by simp),ih λp hp=>h p (by simp[hp])⟩
theorem C12:∀p:Pl,F5 p<=p.bk:=by
 refine Pl.ind λo ni ins ih=>?_
 have h:P6 ins<=(Pl.mk o ni ins).bk-1:=C13 λp hp=>by
  have h1:=ih p hp
  have h2:=Pl.bk_arg (o:=o) (ni:=ni) hp
  omega
 have:=Pl.bk_mk o ni ins
 show P6 ins+1<=_
 omega
theorem C5I:∀p:Pl,p.bk<=1073741824->Pure Tryz.prog B8N [p.av] (.d (eI (F5 p:Nat))):=by
 refine Pl.ind λo ni ins ih hb=>?_
 have hB:=Pl.bd hb
 obtain⟨xo,xn,xv,xm,xd,hav,_⟩:=Pl.cuto o ni ins
 have hdd:=C12 (.mk o ni ins)
 have hq:F5 (.mk o ni ins)=P6 ins+1:=rfl
 rw[hav]
 have hdi:A9 (ng ni (pL ins)) (pL ins):=C7
 obtain⟨dk,e1⟩:∃d,d=o.dk:=⟨_,rfl⟩
 obtain⟨dr,e2⟩:∃d,d=o.dr:=⟨_,rfl⟩
 obtain⟨dx,e3⟩:∃d,d=o.dx:=⟨_,rfl⟩
 obtain⟨dy,e4⟩:∃d,d=o.dy:=⟨_,rfl⟩
 obtain⟨da,e5⟩:∃d,d=o.da:=⟨_,rfl⟩
 obtain⟨di,e6⟩:∃d,d=ng ni (pL ins):=⟨_,rfl⟩
 rw[<- e1,<- e2,<- e3,<- e4,<- e5,<- e6]
 rw[<- e6] at hdi
 clear e1 e2 e3 e4 e5 e6 hav
 have l1:=b5 ins
 have m1:=e9 ins
 have g1:=λi p=>@j6 ins i p
 obtain⟨es,hes⟩:∃z,z=pL ins:=⟨_,rfl⟩
 rw[<- hes] at hdi l1 m1 g1
 clear hes
 obtain⟨q,hqq⟩:∃q,q=F5 (.mk o ni ins):=⟨_,rfl⟩
 rw[<- hqq] at hq hdd ⊢
 have hil:=hB.il
 refine C7J.go A6 rfl ?_
 repeat' first|refine st ?_|((with_reducible apply A4);conv=>whnf)|refine⟨λ_=>?_,λ_=>?_⟩|fail
 refine K6 A6 D0J C9s (λ(i:Nat)=>[.d (eI (P6 (ins.take i):Nat)),.d (eI i)]) (λi=>[.cells [.d (eI o.op),.d (eI o.n),.d dk,.d dr,.d (eI xo),.d (eI xn),.d (eI xv.k),.d (eI xv.n),.d (.str xv.s),.d (.str xm),.d xd,.d dx,.d dy,.d da,.d di]]) (λi=>i<=ins.length) (λi=>ins.length-i) 0 rfl rfl rfl rfl (λ_ _=>⟨rfl,rfl⟩) rfl (by omega) ?_
 repeat' first|refine st ?_|((with_reducible apply A4);conv=>whnf)|refine⟨λ_=>?_,λ_=>?_⟩|fail
 intro i i1
 cases hx:ins[i]? with
 |some p=>
  have hlt:=(B4.1 hx).1
  have hilt:(i:Int)<es.length:=by omega
  have hg:=g1 i p hx
  have hI:=ih p (C3 hx) (hB.sub p (C3 hx))
  have htk:=B1L hx
  obtain⟨op',n',dk',dr',xo',xn',xv',xm',xd',dx',dy',da',di',c1,c2⟩:=Pl.cut p
  have hg:es[((i:Nat):Int).toNat]?=some (K1 op' n' dk' dr' xo' xn' xv' xm' xd' dx' dy' da' di'):=by rw[<- c1];exact hg
  rw[c2] at hI
  obtain⟨u,hu⟩:∃u,u=P6 (ins.take i):=⟨_,rfl⟩
  obtain⟨v,hv⟩:∃u,u=F5 p:=⟨_,rfl⟩
  rw[<- hu,<- hv] at htk
  rw[<- hv] at hI
  rw[<- hu]
  clear c1 c2 hx hv ih g1
  repeat' first|refine st ?_|((with_reducible apply A4);conv=>whnf)|refine⟨λ_=>?_,λ_=>?_⟩|fail
  exact⟨i+1,by rw[htk,show((max u v:Nat):Int)=max (u:Int) v by omega];rfl,rfl,rfl,by omega,by omega⟩
 |none=>
  have hge:=E9.1 hx
  have hilt:(es.length:Int)<=i:=by omega
  rw[H4 hge]
  obtain⟨u,hu⟩:∃u,u=P6 ins:=⟨_,rfl⟩
  rw[<- hu] at hq ⊢
  subst hq
  clear hx ih g1 hu
  repeat' first|refine st ?_|((with_reducible apply A4);conv=>whnf)|refine⟨λ_=>?_,λ_=>?_⟩|fail
  all_goals rfl
theorem C5G:∀p:Pl,p.bk<=1073741824->Pure Tryz.prog B8K [p.av] (.d (eI (F5 p:Nat))):=by
 refine Pl.ind λo ni ins ih hb=>?_
 have hB:=Pl.bd hb
 obtain⟨xo,xn,xv,xm,xd,hav,_⟩:=Pl.cuto o ni ins
 have hdd:=C12 (.mk o ni ins)
 have hq:F5 (.mk o ni ins)=P6 ins+1:=rfl
 rw[hav]
 have hdi:A9 (ng ni (pL ins)) (pL ins):=C7
 obtain⟨dk,e1⟩:∃d,d=o.dk:=⟨_,rfl⟩
 obtain⟨dr,e2⟩:∃d,d=o.dr:=⟨_,rfl⟩
 obtain⟨dx,e3⟩:∃d,d=o.dx:=⟨_,rfl⟩
 obtain⟨dy,e4⟩:∃d,d=o.dy:=⟨_,rfl⟩
 obtain⟨da,e5⟩:∃d,d=o.da:=⟨_,rfl⟩
 obtain⟨di,e6⟩:∃d,d=ng ni (pL ins):=⟨_,rfl⟩
 rw[<- e1,<- e2,<- e3,<- e4,<- e5,<- e6]
 rw[<- e6] at hdi
 clear e1 e2 e3 e4 e5 e6 hav
 have l1:=b5 ins
 have m1:=e9 ins
 have g1:=λi p=>@j6 ins i p
 obtain⟨es,hes⟩:∃z,z=pL ins:=⟨_,rfl⟩
 rw[<- hes] at hdi l1 m1 g1
 clear hes
 obtain⟨q,hqq⟩:∃q,q=F5 (.mk o ni ins):=⟨_,rfl⟩
 rw[<- hqq] at hq hdd ⊢
 have hil:=hB.il
 refine C7I.go A6 rfl ?_
 repeat' first|refine st ?_|((with_reducible apply A4);conv=>whnf)|refine⟨λ_=>?_,λ_=>?_⟩|fail
 refine K6 A6 D0F C9o (λ(i:Nat)=>[.d (eI (P6 (ins.take i):Nat)),.d (eI i)]) (λi=>[.cells [.d (eI o.op),.d (eI o.n),.d dk,.d dr,.d (eI xo),.d (eI xn),.d (eI xv.k),.d (eI xv.n),.d (.str xv.s),.d (.str xm),.d xd,.d dx,.d dy,.d da,.d di]]) (λi=>i<=ins.length) (λi=>ins.length-i) 0 rfl rfl rfl rfl (λ_ _=>⟨rfl,rfl⟩) rfl (by omega) ?_
 repeat' first|refine st ?_|((with_reducible apply A4);conv=>whnf)|refine⟨λ_=>?_,λ_=>?_⟩|fail
 intro i i1
 cases hx:ins[i]? with
 |some p=>
  have hlt:=(B4.1 hx).1
  have hilt:(i:Int)<es.length:=by omega
  have hg:=g1 i p hx
  have hI:=ih p (C3 hx) (hB.sub p (C3 hx))
  have htk:=B1L hx
  obtain⟨op',n',dk',dr',xo',xn',xv',xm',xd',dx',dy',da',di',c1,c2⟩:=Pl.cut p
  have hg:es[((i:Nat):Int).toNat]?=some (K1 op' n' dk' dr' xo' xn' xv' xm' xd' dx' dy' da' di'):=by rw[<- c1];exact hg
  rw[c2] at hI
  obtain⟨u,hu⟩:∃u,u=P6 (ins.take i):=⟨_,rfl⟩
  obtain⟨v,hv⟩:∃u,u=F5 p:=⟨_,rfl⟩
  rw[<- hu,<- hv] at htk
  rw[<- hv] at hI
  rw[<- hu]
  clear c1 c2 hx hv ih g1
  repeat' first|refine st ?_|((with_reducible apply A4);conv=>whnf)|refine⟨λ_=>?_,λ_=>?_⟩|fail
  exact⟨i+1,by rw[htk,show((max u v:Nat):Int)=max (u:Int) v by omega];rfl,rfl,rfl,by omega,by omega⟩
 |none=>
  have hge:=E9.1 hx
  have hilt:(es.length:Int)<=i:=by omega
  rw[H4 hge]
  obtain⟨u,hu⟩:∃u,u=P6 ins:=⟨_,rfl⟩
  rw[<- hu] at hq ⊢
  subst hq
  clear hx ih g1 hu
  repeat' first|refine st ?_|((with_reducible apply A4);conv=>whnf)|refine⟨λ_=>?_,λ_=>?_⟩|fail
  all_goals rfl
def l7(a b:Int):Int:=if 0<a/\(1099511627776:Int).tdiv a<b then 1099511627776 else a*b
theorem A9S{a b:Int}(ha:0<=a)(hb:0<=b):0<=l7 a b/\l7 a b<=1099511627776/\(¬(0<a/\(1099511627776:Int).tdiv a<b)->0<=a*b/\a*b<=1099511627776):=by
 have key:¬(0<a/\(1099511627776:Int).tdiv a<b)->0<=a*b/\a*b<=1099511627776:=λh=>by
  refine⟨Int.mul_nonneg ha hb,?_⟩
  by_cases h0:0<a
  ·have h1:b<=(1099511627776:Int).tdiv a:=by
    by_cases h2:(1099511627776:Int).tdiv a<b
    ·exact absurd ⟨h0,h2⟩ h
    ·omega
   rw[A87 (by decide)] at h1
   exact A0I (Int.mul_le_mul_of_nonneg_left h1 ha) (Int.mul_ediv_self_le (by omega))
  ·have:a=0:=by omega
   rw[this,Int.zero_mul];decide
 unfold l7
 by_cases h:0<a/\(1099511627776:Int).tdiv a<b
 ·rw[if_pos h];exact⟨by decide,by decide,λg=>absurd h g⟩
 ·rw[if_neg h];exact⟨(key h).1,(key h).2,key⟩
theorem B4c(a b:Int)(ha:0<=a)(hb:0<=b):Pure Tryz.prog B9a [.d (eI a),.d (eI b)] (.d (eI (l7 a b))):=by
 obtain⟨_,_,h3⟩:=A9S ha hb
 obtain⟨q,hq⟩:∃q,q=l7 a b:=⟨_,rfl⟩
 rw[<- hq]
 unfold l7 at hq
 by_cases h0:0<a
 ·have hne:¬a=0:=by omega
  obtain⟨m,hm⟩:∃m,m=(1099511627776:Int).tdiv a:=⟨_,rfl⟩
  have hmd:(1099511627776:Int).tdiv a=1099511627776 / a:=A87 (by decide)
  have hm0:0<=m:=by rw[hm,hmd];exact Int.ediv_nonneg (by decide) ha
  have hm1:m<=1099511627776:=by rw[hm,hmd];exact Int.ediv_le_self _ (by decide)
  clear hmd
  rw[<- hm] at hq h3
  by_cases h1:m<b
  ·rw[if_pos ⟨h0,h1⟩] at hq
   subst hq
   refine B0w.go A6 rfl ?_
   repeat' first|refine st ?_|((with_reducible apply A4);conv=>whnf)|refine⟨λ_=>?_,λ_=>?_⟩|fail
   all_goals first|rfl|(exfalso;omega)
  ·rw[if_neg λh=>h1 h.2] at hq
   obtain⟨k1,k2⟩:=h3 λh=>h1 h.2
   subst hq
   obtain⟨z,hz⟩:∃z,z=a*b:=⟨_,rfl⟩
   rw[<- hz] at k1 k2 ⊢
   refine B0w.go A6 rfl ?_
   repeat' first|(rw[<- hz])|refine st ?_|((with_reducible apply A4);conv=>whnf)|refine⟨λ_=>?_,λ_=>?_⟩|fail
   all_goals first|rfl|(exfalso;omega)
 ·have h0':a=0:=by omega
  subst h0'
  rw[if_neg λh=>h0 h.1,Int.zero_mul] at hq
  subst hq
  refine B0w.go A6 rfl ?_
  repeat' first|refine st ?_|((with_reducible apply A4);conv=>whnf)|refine⟨λ_=>?_,λ_=>?_⟩|fail
  all_goals (rw[Int.zero_mul])
theorem B3Q(a b:Int)(ha:0<=a)(hb:0<=b):Pure Tryz.prog B9o [.d (eI a),.d (eI b)] (.d (eI (l7 a b))):=by
 obtain⟨_,_,h3⟩:=A9S ha hb
 obtain⟨q,hq⟩:∃q,q=l7 a b:=⟨_,rfl⟩
 rw[<- hq]
 unfold l7 at hq
 by_cases h0:0<a
 ·have hne:¬a=0:=by omega
  obtain⟨m,hm⟩:∃m,m=(1099511627776:Int).tdiv a:=⟨_,rfl⟩
  have hmd:(1099511627776:Int).tdiv a=1099511627776 / a:=A87 (by decide)
  have hm0:0<=m:=by rw[hm,hmd];exact Int.ediv_nonneg (by decide) ha
  have hm1:m<=1099511627776:=by rw[hm,hmd];exact Int.ediv_le_self _ (by decide)
  clear hmd
  rw[<- hm] at hq h3
  by_cases h1:m<b
  ·rw[if_pos ⟨h0,h1⟩] at hq
   subst hq
   refine B0y.go A6 rfl ?_
   repeat' first|refine st ?_|((with_reducible apply A4);conv=>whnf)|refine⟨λ_=>?_,λ_=>?_⟩|fail
   all_goals first|rfl|(exfalso;omega)
  ·rw[if_neg λh=>h1 h.2] at hq
   obtain⟨k1,k2⟩:=h3 λh=>h1 h.2
   subst hq
   obtain⟨z,hz⟩:∃z,z=a*b:=⟨_,rfl⟩
   rw[<- hz] at k1 k2 ⊢
   refine B0y.go A6 rfl ?_
   repeat' first|(rw[<- hz])|refine st ?_|((with_reducible apply A4);conv=>whnf)|refine⟨λ_=>?_,λ_=>?_⟩|fail
   all_goals first|rfl|(exfalso;omega)
 ·have h0':a=0:=by omega
  subst h0'
  rw[if_neg λh=>h0 h.1,Int.zero_mul] at hq
  subst hq
  refine B0y.go A6 rfl ?_
  repeat' first|refine st ?_|((with_reducible apply A4);conv=>whnf)|refine⟨λ_=>?_,λ_=>?_⟩|fail
  all_goals (rw[Int.zero_mul])
end Go.Proofs
end
section
namespace Go.Proofs
open Go.Bi
abbrev Z7:Int:=1099511627776
def W3(rs:List Int)(o:Po)(a b:Int):Int:=
 if o.op=1 then (if 0<=o.n/\o.n<rs.length then min (max (rs.getD o.n.toNat 0) 0) Z7 else 0)
 else if o.op=2 then (o.rows.length:Int)
 else if o.op=3\/o.op=4\/o.op=10\/o.op=8 then a
 else if o.op=5 then l7 a b else if o.op=6 then l7 a (max b 1) else if o.op=7 then min (a+b) Z7 else if o.op=9 then min a b
 else if o.op=11 then (if o.keys.length=0 then 1 else a) else 0
mutual
def I3(rs:List Int):Pl->Int
 |.mk o _ ins=>W3 rs o ((u5 rs ins).getD 0 0) ((u5 rs ins).getD 1 0)
def u5(rs:List Int):List Pl->List Int
 |[]=>[]
 |p::r=>I3 rs p::u5 rs r
end
theorem C3Y(rs:List Int):∀(l:List Pl)(i:Nat),(u5 rs l)[i]?=(l[i]?).map (I3 rs)
 |[],i=>by simp[u5]
 |p::r,0=>by simp[u5]
 |p::r,i+1=>by simp only[u5,A42];exact C3Y rs r i
theorem A1P(rs:List Int)(l:List Pl)(i:Nat):(u5 rs l).getD i 0=((l[i]?).map (I3 rs)).getD 0:=by
 rw[I4,C3Y]
theorem D9F{rs:List Int}{o:Po}{a b:Int}(ho:o.rows.length<=1073741824)(ha:0<=a/\a<=Z7)(hb:0<=b/\b<=Z7):0<=W3 rs o a b/\W3 rs o a b<=Z7:=by
 obtain⟨a1,a2⟩:=ha
 obtain⟨b1,b2⟩:=hb
 have h5:=A9S a1 b1
 have h6:=A9S a1 (show 0<=max b 1 by omega)
 unfold W3
 unfold Z7 at *
 split
 ·split<;>omega
 split
 ·omega
 split
 ·omega
 split
 ·exact⟨h5.1,h5.2.1⟩
 split
 ·exact⟨h6.1,h6.2.1⟩
 split
 ·omega
 split
 ·omega
 split
 ·split<;>omega
 ·omega
theorem B3d(rs:List Int):∀p:Pl,p.bk<=1073741824->0<=I3 rs p/\I3 rs p<=Z7:=by
 refine Pl.ind λo ni ins ih hb=>?_
 have hB:=Pl.bd hb
 have key:∀i:Nat,0<=(u5 rs ins).getD i 0/\(u5 rs ins).getD i 0<=Z7:=λi=>by
  rw[A1P]
  cases hx:ins[i]? with
  |none=>exact⟨A0q 0,show(0:Int)<=Z7 by decide⟩
  |some p=>exact ih p (C3 hx) (hB.sub p (C3 hx))
 exact D9F hB.nr (key 0) (key 1)
theorem C65(rs:List Int)(hrs:rs.length<=1073741824)(dr':D)(hdr:A9 dr' (A5 rs)):∀p:Pl,p.bk<=1073741824->Pure Tryz.prog A4O [p.av,.d dr'] (.d (eI (I3 rs p))):=by
 refine Pl.ind λo ni ins ih hb=>?_
 have hB:=Pl.bd hb
 obtain⟨xo,xn,xv,xm,xd,hav,_⟩:=Pl.cuto o ni ins
 rw[hav]
 have hdi:A9 (ng ni (pL ins)) (pL ins):=C7
 have hdy:A9 o.dy (A5 o.keys):=C7
 have hdw:A9 o.dr (B7 o.rows):=C7
 have kl:=F9 o.keys
 have wl:=U8 o.rows
 have hk1:=hB.keys
 have hw1:=hB.nr
 have hq:I3 rs (.mk o ni ins)=W3 rs o ((u5 rs ins).getD 0 0) ((u5 rs ins).getD 1 0):=rfl
 have hsub:=B3d rs
 rw[A1P,A1P] at hq
 obtain⟨q,hqq⟩:∃q,q=I3 rs (.mk o ni ins):=⟨_,rfl⟩
 rw[<- hqq] at hq ⊢
 clear hqq
 have l1:=b5 ins
 have m1:=e9 ins
 have hil:=hB.il
 -- the inputs' sizes
 have hA:(ins[0]?=none/\¬(0:Int)<(pL ins).length/\¬(1:Int)<(pL ins).length)\/∃(p:Pl) (op' n':Int) (dk' dr0:D) (xo' xn':Int) (xv':Vl) (xm':List UInt8) (xd' dx' dy' da' di':D),ins[0]?=some p/\(0:Int)<(pL ins).length/\(pL ins)[(0:Int).toNat]?=some (K1 op' n' dk' dr0 xo' xn' xv' xm' xd' dx' dy' da' di')/\Bi.Pure Tryz.prog A4O [G3 op' n' dk' dr0 xo' xn' xv' xm' xd' dx' dy' da' di',.d dr'] (.d (eI (I3 rs p)))/\0<=I3 rs p/\I3 rs p<=Z7:=by
  cases hx:ins[0]? with
  |none=>
   have:=E9.1 hx
   exact .inl ⟨rfl,by omega,by omega⟩
  |some p=>
   have hlt:=(B4.1 hx).1
   have hpb:=hB.sub p (C3 hx)
   obtain⟨op',n',dk',dr0,xo',xn',xv',xm',xd',dx',dy',da',di',c1,c2⟩:=Pl.cut p
   have hI:=ih p (C3 hx) hpb
   rw[c2] at hI
   exact .inr ⟨p,op',n',dk',dr0,xo',xn',xv',xm',xd',dx',dy',da',di',rfl,by omega,by rw[<- c1];exact j6 hx,hI,hsub p hpb⟩
 have hA1:(ins[1]?=none/\¬(1:Int)<(pL ins).length)\/∃(p:Pl) (op' n':Int) (dk' dr0:D) (xo' xn':Int) (xv':Vl) (xm':List UInt8) (xd' dx' dy' da' di':D),ins[1]?=some p/\(1:Int)<(pL ins).length/\(pL ins)[(1:Int).toNat]?=some (K1 op' n' dk' dr0 xo' xn' xv' xm' xd' dx' dy' da' di')/\Bi.Pure Tryz.prog A4O [G3 op' n' dk' dr0 xo' xn' xv' xm' xd' dx' dy' da' di',.d dr'] (.d (eI (I3 rs p)))/\0<=I3 rs p/\I3 rs p<=Z7:=by
  cases hx:ins[1]? with
  |none=>
   have:=E9.1 hx
   exact .inl ⟨rfl,by omega⟩
  |some p=>
   have hlt:=(B4.1 hx).1
   have hpb:=hB.sub p (C3 hx)
   obtain⟨op',n',dk',dr0,xo',xn',xv',xm',xd',dx',dy',da',di',c1,c2⟩:=Pl.cut p
   have hI:=ih p (C3 hx) hpb
   rw[c2] at hI
   exact .inr ⟨p,op',n',dk',dr0,xo',xn',xv',xm',xd',dx',dy',da',di',rfl,by omega,by rw[<- c1];exact j6 hx,hI,hsub p hpb⟩
 clear ih hsub
 obtain⟨op,n,nk,ki,nr,rows,pred,nx,xs,ny,keys,na,aggs⟩:=o
 dsimp only at hdy hdw kl wl hk1 hw1 hq
 obtain⟨dk,e1⟩:∃d,d=ng nk (A5 ki):=⟨_,rfl⟩
 obtain⟨dr,e2⟩:∃d,d=ng nr (B7 rows):=⟨_,rfl⟩
 obtain⟨dx,e3⟩:∃d,d=ng nx (xL xs):=⟨_,rfl⟩
 obtain⟨dy,e4⟩:∃d,d=ng ny (A5 keys):=⟨_,rfl⟩
 obtain⟨da,e5⟩:∃d,d=ng na (I0 aggs):=⟨_,rfl⟩
 obtain⟨di,e6⟩:∃d,d=ng ni (pL ins):=⟨_,rfl⟩
 show Bi.Pure Tryz.prog A4O [G3 op n (ng nk (A5 ki)) (ng nr (B7 rows)) xo xn xv xm xd (ng nx (xL xs)) (ng ny (A5 keys)) (ng na (I0 aggs)) (ng ni (pL ins)),.d dr'] (.d (eI q))
 rw[<- e1,<- e2,<- e3,<- e4,<- e5,<- e6]
 have hdy:A9 dy (A5 keys):=by rw[e4];exact hdy
 have hdw:A9 dr (B7 rows):=by rw[e2];exact hdw
 rw[<- e6] at hdi
 clear e1 e2 e3 e4 e5 e6 hav hB hb
 have r1:=F9 rs
 have rm:=I1 rs
 have rg:=λi k=>@N2 rs i k
 have hops:op=1\/op=2\/op=3\/op=4\/op=5\/op=6\/op=7\/op=8\/op=9\/op=10\/op=11\/(op≠1/\op≠2/\op≠3/\op≠4/\op≠5/\op≠6/\op≠7/\op≠8/\op≠9/\op≠10/\op≠11):=by omega
 obtain⟨es,hes⟩:∃z,z=pL ins:=⟨_,rfl⟩
 rw[<- hes] at hdi l1 m1 hA hA1
 obtain⟨rr,hrr⟩:∃z,z=A5 rs:=⟨_,rfl⟩
 rw[<- hrr] at hdr r1 rm rg
 obtain⟨ww,hww⟩:∃z,z=B7 rows:=⟨_,rfl⟩
 rw[<- hww] at hdw wl
 obtain⟨kk,hkk⟩:∃z,z=A5 keys:=⟨_,rfl⟩
 rw[<- hkk] at hdy kl
 have wm:∀e∈ww,e.length=1:=by rw[hww];exact X2 rows
 have km:∀e∈kk,e.length=1:=by rw[hkk];exact I1 keys
 clear hes hrr hww hkk
 -- the sizes of the inputs
 have hAB:∃a b:Int,(0<=a/\a<=Z7)/\(0<=b/\b<=Z7)/\a=((ins[0]?).map (I3 rs)).getD 0/\b=((ins[1]?).map (I3 rs)).getD 0:=by
  refine⟨_,_,?_,?_,rfl,rfl⟩
  ·rcases hA with ⟨h,_⟩|⟨p,_,_,_,_,_,_,_,_,_,_,_,_,_,h,_,_,_,h3,h4⟩
   ·rw[h];exact⟨A0q 0,show(0:Int)<=Z7 by decide⟩
   ·rw[h];exact⟨h3,h4⟩
  ·rcases hA1 with ⟨h,_⟩|⟨p,_,_,_,_,_,_,_,_,_,_,_,_,_,h,_,_,_,h3,h4⟩
   ·rw[h];exact⟨A0q 0,show(0:Int)<=Z7 by decide⟩
   ·rw[h];exact⟨h3,h4⟩
 obtain⟨a,b,⟨a1,a2⟩,⟨b1,b2⟩,ea,eb⟩:=hAB
 rw[<- ea,<- eb] at hq
 have hT:=B4c a b a1 b1
 have hT2:=B4c a (max b 1) a1 (by omega)
 unfold Z7 at a2 b2
 unfold W3 at hq
 dsimp only at hq
 -- what the operator says
 have hcase:(op=1/\0<=n/\n<rr.length/\∃k:Int,rr[n.toNat]?=some [eI k]/\q=min (max k 0) 1099511627776)\/(op=1/\n<0/\q=0)\/(op=1/\0<=n/\(rr.length:Int)<=n/\q=0)\/(op=2/\q=ww.length)\/(op=3/\q=a)\/(op=4/\q=a)\/(op=10/\q=a)\/(op=8/\q=a)\/(op=5/\q=l7 a b)\/(op=6/\q=l7 a (max b 1))\/(op=7/\q=min (a+b) 1099511627776)\/(op=9/\q=min a b)\/(op=11/\(kk.length:Int)=0/\q=1)\/(op=11/\¬(kk.length:Int)=0/\q=a)\/
   ((op≠1/\op≠2/\op≠3/\op≠4/\op≠5/\op≠6/\op≠7/\op≠8/\op≠9/\op≠10/\op≠11)/\q=0):=by
  rcases hops with rfl|rfl|rfl|rfl|rfl|rfl|rfl|rfl|rfl|rfl|rfl|hops
  ·rw[if_pos rfl] at hq
   by_cases h1:0<=n/\n<rs.length
   ·rw[if_pos h1] at hq
    obtain⟨k,hk⟩:∃k,rs[n.toNat]?=some k:=⟨_,F4 (by omega)⟩
    rw[I4,hk] at hq
    exact .inl ⟨rfl,h1.1,by omega,k,rg _ _ hk,hq⟩
   ·rw[if_neg h1] at hq
    by_cases h2:n<0
    ·exact .inr (.inl ⟨rfl,h2,hq⟩)
    ·exact .inr (.inr (.inl ⟨rfl,by omega,by omega,hq⟩))
  all_goals try (simp at hq)
  all_goals try (rw[wl];simp[hq];done)
  all_goals try (simp[hq];done)
  ·by_cases h0:keys=[]
   ·rw[if_pos h0] at hq
    have hk0:(kk.length:Int)=0:=by rw[kl,h0];rfl
    simp[hq,hk0]
   ·rw[if_neg h0] at hq
    have hk0:¬(kk.length:Int)=0:=by
     have:keys.length≠0:=λh=>h0 (A0J.1 h)
     omega
    have hk1:¬kk=[]:=λh=>hk0 (by rw[h];rfl)
    simp[hq,hk1]
  ·obtain⟨o1,o2,o3,o4,o5,o6,o7,o8,o9,o10,o11⟩:=hops
   simp[o1,o2,o3,o4,o5,o6,o7,o8,o9,o10,o11] at hq
   simp[o1,o2,o3,o4,o5,o6,o7,o8,o9,o10,o11,hq]
 clear hq hops rg
 rcases hA with ⟨h,ha1,ha2⟩|⟨p,op',n',dk',dr0,xo',xn',xv',xm',xd',dx',dy',da',di',h,ha1,ha2,hP,_⟩<;>
 rcases hA1 with ⟨h',hb1⟩|⟨p',op1,n1,dk1,dr1,xo1,xn1,xv1,xm1,xd1,dx1,dy1,da1,di1,h',hb1,hb2,hP1,_⟩
 all_goals rw[h] at ea;rw[h'] at eb
 all_goals first
  |(have ea:a=I3 rs p:=ea;rw[<- ea] at hP)
  |(have ea:a=0:=ea;subst ea)
 all_goals first
  |(have eb:b=I3 rs p':=eb;rw[<- eb] at hP1)
  |(have eb:b=0:=eb;subst eb)
 all_goals clear h h' ea eb
 all_goals try (exfalso;omega;done)
 all_goals
  rcases hcase with ⟨rfl,z1,z2,k,z3,rfl⟩|⟨rfl,z1,rfl⟩|⟨rfl,z1,z2,rfl⟩|⟨rfl,rfl⟩|⟨rfl,rfl⟩|⟨rfl,rfl⟩|⟨rfl,rfl⟩|⟨rfl,rfl⟩|⟨rfl,rfl⟩|⟨rfl,rfl⟩|⟨rfl,rfl⟩|⟨rfl,rfl⟩|⟨rfl,z1,rfl⟩|⟨rfl,z1,rfl⟩|⟨⟨o1,o2,o3,o4,o5,o6,o7,o8,o9,o10,o11⟩,rfl⟩
 all_goals refine C85.go A6 rfl ?_
 all_goals repeat' first|refine st ?_|((with_reducible apply A4);conv=>whnf)|refine⟨λ_=>?_,λ_=>?_⟩|fail
 all_goals rfl
end Go.Proofs
end
section
namespace Go.Proofs
open Go.Bi
def T1(op n:Int):Bool×Bool:=
 if op=1\/op=2 then (decide (n=0),true)
 else if op=4\/op=18\/op=20\/op=21 then (decide (n=1),true)
 else if op=7\/op=8\/op=9\/op=10\/op=11\/op=12\/op=13\/op=14\/op=15\/op=16\/op=17\/op=19 then (decide (n=2),true)
 else if op=5\/op=6 then (decide (2<=n),true)
 else if op=22 then (decide (n=3),true)
 else if op=23 then (decide (1<=n),true)
 else if op=24 then (decide (n=4),true) else (false,false)
theorem B3I(op n:Int):Pure Tryz.prog B18 [.d (eI op),.d (eI n)] (.tup [.d (.bool (T1 op n).1),.d (.bool (T1 op n).2)]):=by
 refine C8f.go A6 rfl ?_
 repeat' first|refine st ?_|refine⟨λ_=>?_,λ_=>?_⟩|fail
 all_goals first
  |(subst_vars;rfl)
  |(simp only[T1];rw[if_neg (by omega),if_neg (by omega),if_neg (by omega),if_neg (by omega),if_neg (by omega),if_neg (by omega),if_neg (by omega)])
def s9(op:Int):Int×Int:=
 if op=1\/op=2 then (0,0)
 else if op=4\/op=18\/op=20\/op=21 then (1,1)
 else if op=7\/op=8\/op=9\/op=10\/op=11\/op=12\/op=13\/op=14\/op=15\/op=16\/op=17\/op=19 then (2,2)
 else if op=5\/op=6 then (2,1099511627776)
 else if op=22 then (3,3)
 else if op=23 then (1,1099511627776)
 else if op=24 then (4,4) else (-1,0)
theorem B3T(op:Int):Pure Tryz.prog B0V [.d (eI op)] (.tup [.d (eI (s9 op).1),.d (eI (s9 op).2)]):=by
 refine C7n.go A6 rfl ?_
 repeat' first|refine st ?_|refine⟨λ_=>?_,λ_=>?_⟩|fail
 all_goals first
  |(subst_vars;rfl)
  |(simp only[s9];rw[if_neg (by omega),if_neg (by omega),if_neg (by omega),if_neg (by omega),if_neg (by omega),if_neg (by omega),if_neg (by omega)])
theorem C0c(op:Int)(k:Nat)(hk:k<=1073741824):(T1 op k).1=decide (¬((s9 op).1<0\/(k:Int)<(s9 op).1\/(s9 op).2<(k:Int)))/\(T1 op k).2=decide (¬(s9 op).1<0):=by
 unfold T1 s9
 repeat' split
 all_goals (constructor<;>(rw[A0n];simp;try omega))
end Go.Proofs
end
section
namespace Go.Proofs
open Go.Bi
def K3(op n:Int)(v:Vl)(name:List UInt8)(k:Nat):Bool:=
 (T1 op k).1&&decide (name=[])&&(if op=1 then decide (n=0)&&O5 v else if op=24 then decide (0<=n/\n<13)&&decide (v=E6) else if op=2 then decide (v=E6) else decide (n=0)&&decide (v=E6))
theorem A5O(v:Vl):decide (v=E6)=(decide (v.k=0)&&(decide (v.n=0)&&decide (v.s=[]))):=by
 rw[A0n]
 simp only[decide_eq_true_eq,K7,A7M]
 exact Iff.rfl
theorem A92(n:Int)(v:Vl)(k:Nat)(h:(T1 1 k).1=true):K3 1 n v [] k=(decide (n=0)&&O5 v):=by unfold K3;rw[h];rfl
theorem C1J(n:Int)(v:Vl)(k:Nat)(h:(T1 24 k).1=true):K3 24 n v [] k=(decide (0<=n/\n<13)&&decide (v=E6)):=by unfold K3;rw[h];rfl
theorem C1I(n:Int)(v:Vl)(k:Nat)(h:(T1 2 k).1=true):K3 2 n v [] k=decide (v=E6):=by unfold K3;rw[h];rfl
theorem A6T(op n:Int)(v:Vl)(k:Nat)(h:(T1 op k).1=true)(h1:op≠1)(h2:op≠24)(h3:op≠2):K3 op n v [] k=(decide (n=0)&&decide (v=E6)):=by unfold K3;rw[h,if_neg h1,if_neg h2,if_neg h3];rfl
theorem C52(op n:Int)(v:Vl)(name:List UInt8)(d:D)(es:List (List D))(hd:A9 d es)(hs:v.s.length<=1073741824)(hl:es.length<=1073741824):Pure Tryz.prog B9f [eX op n v name d] (.d (.bool (K3 op n v name es.length))):=by
 refine C8h.go A6 rfl ?_
 have hV:=B0p v (by omega)
 have hC:=B3I op es.length
 cases hc:(T1 op es.length).1 with
 |false=>
  have hr:K3 op n v name es.length=false:=by unfold K3;rw[hc];rfl
  rw[hr]
  rw[hc] at hC
  repeat' first|refine st ?_|((with_reducible apply A4);conv=>whnf)|refine⟨λ_=>?_,λ_=>?_⟩|fail
 |true=>
 rw[hc] at hC
 by_cases hn:name=[]
 rotate_left
 ·have hr:K3 op n v name es.length=false:=by unfold K3;rw[decide_eq_false hn,Bool.and_false];rfl
  rw[hr]
  repeat' first|refine st ?_|((with_reducible apply A4);conv=>whnf)|refine⟨λ_=>?_,λ_=>?_⟩|fail
  all_goals rfl
 subst hn
 by_cases h1:op=1
 ·subst h1
  obtain⟨r,hr⟩:∃r,r=K3 1 n v [] es.length:=⟨_,rfl⟩
  rw[<- hr]
  rw[A92 _ _ _ hc] at hr
  by_cases hn:n=0
  ·rw[decide_eq_true hn] at hr
   repeat' first|refine st ?_|((with_reducible apply A4);conv=>whnf)|refine⟨λ_=>?_,λ_=>?_⟩|fail
   all_goals (rw[hr];try rfl)
  ·rw[decide_eq_false hn] at hr
   repeat' first|refine st ?_|((with_reducible apply A4);conv=>whnf)|refine⟨λ_=>?_,λ_=>?_⟩|fail
   all_goals (rw[hr];try rfl)
 by_cases h2:op=24
 ·subst h2
  obtain⟨r,hr⟩:∃r,r=K3 24 n v [] es.length:=⟨_,rfl⟩
  rw[<- hr]
  rw[C1J _ _ _ hc,A5O] at hr
  by_cases hn:0<=n/\n<13
  ·rw[decide_eq_true hn] at hr
   obtain⟨n1,n2⟩:=hn
   have n3:¬n<0:=by omega
   have n4:¬13<=n:=by omega
   repeat' first|refine st ?_|((with_reducible apply A4);conv=>whnf)|refine⟨λ_=>?_,λ_=>?_⟩|fail
   all_goals (rw[hr];try (clear hr;simp_all[E6];try omega))
  ·rw[decide_eq_false hn] at hr
   repeat' first|refine st ?_|((with_reducible apply A4);conv=>whnf)|refine⟨λ_=>?_,λ_=>?_⟩|fail
   all_goals (rw[hr];try (clear hr;simp_all[E6];try omega))
 by_cases h3:op=2
 ·subst h3
  obtain⟨r,hr⟩:∃r,r=K3 2 n v [] es.length:=⟨_,rfl⟩
  rw[<- hr]
  rw[C1I _ _ _ hc,A5O] at hr
  repeat' first|refine st ?_|((with_reducible apply A4);conv=>whnf)|refine⟨λ_=>?_,λ_=>?_⟩|fail
  all_goals (rw[hr];try rfl)
 obtain⟨r,hr⟩:∃r,r=K3 op n v [] es.length:=⟨_,rfl⟩
 rw[<- hr]
 rw[A6T _ _ _ _ hc h1 h2 h3,A5O] at hr
 by_cases hn:n=0
 ·rw[decide_eq_true hn] at hr
  repeat' first|refine st ?_|((with_reducible apply A4);conv=>whnf)|refine⟨λ_=>?_,λ_=>?_⟩|fail
  all_goals (rw[hr];try rfl)
 ·rw[decide_eq_false hn] at hr
  repeat' first|refine st ?_|((with_reducible apply A4);conv=>whnf)|refine⟨λ_=>?_,λ_=>?_⟩|fail
  all_goals (rw[hr];try rfl)
theorem B0l(op n:Int)(v:Vl)(name:List UInt8)(d:D)(es:List (List D))(hd:A9 d es)(hs:v.s.length<=1073741824)(hl:es.length<=1073741824):Pure Tryz.prog B8x [eX op n v name d] (.d (.bool (K3 op n v name es.length))):=by
 refine C7s.go A6 rfl ?_
 have hV:=A5X v (by omega)
 have hC:=B3T op
 have hac:=(C0c op es.length hl).1
 cases hc:(T1 op es.length).1 with
 |false=>
  have hr:K3 op n v name es.length=false:=by unfold K3;rw[hc];rfl
  rw[hr]
  rw[hc] at hac
  have hac:(s9 op).1<0\/(es.length:Int)<(s9 op).1\/(s9 op).2<(es.length:Int):=by
   have:=of_decide_eq_false hac.symm
   omega
  repeat' first|refine st ?_|((with_reducible apply A4);conv=>whnf)|refine⟨λ_=>?_,λ_=>?_⟩|fail
  all_goals first|rfl|(exfalso;omega)
 |true=>
 rw[hc] at hac
 have hac:=of_decide_eq_true hac.symm
 have a1:¬(s9 op).1<0:=by omega
 have a2:¬(es.length:Int)<(s9 op).1:=by omega
 have a3:¬(s9 op).2<(es.length:Int):=by omega
 clear hac
 by_cases hn:name=[]
 rotate_left
 ·have hr:K3 op n v name es.length=false:=by unfold K3;rw[decide_eq_false hn,Bool.and_false];rfl
  rw[hr]
  repeat' first|refine st ?_|((with_reducible apply A4);conv=>whnf)|refine⟨λ_=>?_,λ_=>?_⟩|fail
  all_goals rfl
 subst hn
 by_cases h1:op=1
 ·subst h1
  obtain⟨r,hr⟩:∃r,r=K3 1 n v [] es.length:=⟨_,rfl⟩
  rw[<- hr]
  rw[A92 _ _ _ hc] at hr
  by_cases hn:n=0
  ·rw[decide_eq_true hn] at hr
   repeat' first|refine st ?_|((with_reducible apply A4);conv=>whnf)|((with_reducible first|apply I9|apply I5);(·exact S0))|refine⟨λ_=>?_,λ_=>?_⟩|fail
   all_goals (rw[hr];try rfl)
  ·rw[decide_eq_false hn] at hr
   repeat' first|refine st ?_|((with_reducible apply A4);conv=>whnf)|((with_reducible first|apply I9|apply I5);(·exact S0))|refine⟨λ_=>?_,λ_=>?_⟩|fail
   all_goals (rw[hr];try rfl)
 by_cases h2:op=24
 ·subst h2
  obtain⟨r,hr⟩:∃r,r=K3 24 n v [] es.length:=⟨_,rfl⟩
  rw[<- hr]
  rw[C1J _ _ _ hc,A5O] at hr
  by_cases hn:0<=n/\n<13
  ·rw[decide_eq_true hn] at hr
   obtain⟨n1,n2⟩:=hn
   have n3:¬n<0:=by omega
   have n4:¬13<=n:=by omega
   repeat' first|refine st ?_|((with_reducible apply A4);conv=>whnf)|((with_reducible first|apply I9|apply I5);(·exact S0))|refine⟨λ_=>?_,λ_=>?_⟩|fail
   all_goals (rw[hr];try (clear hr;simp_all[E6];try omega))
  ·rw[decide_eq_false hn] at hr
   repeat' first|refine st ?_|((with_reducible apply A4);conv=>whnf)|((with_reducible first|apply I9|apply I5);(·exact S0))|refine⟨λ_=>?_,λ_=>?_⟩|fail
   all_goals (rw[hr];try (clear hr;simp_all[E6];try omega))
 by_cases h3:op=2
 ·subst h3
  obtain⟨r,hr⟩:∃r,r=K3 2 n v [] es.length:=⟨_,rfl⟩
  rw[<- hr]
  rw[C1I _ _ _ hc,A5O] at hr
  repeat' first|refine st ?_|((with_reducible apply A4);conv=>whnf)|((with_reducible first|apply I9|apply I5);(·exact S0))|refine⟨λ_=>?_,λ_=>?_⟩|fail
  all_goals (rw[hr];try rfl)
 obtain⟨r,hr⟩:∃r,r=K3 op n v [] es.length:=⟨_,rfl⟩
 rw[<- hr]
 rw[A6T _ _ _ _ hc h1 h2 h3,A5O] at hr
 by_cases hn:n=0
 ·rw[decide_eq_true hn] at hr
  repeat' first|refine st ?_|((with_reducible apply A4);conv=>whnf)|((with_reducible first|apply I9|apply I5);(·exact S0))|refine⟨λ_=>?_,λ_=>?_⟩|fail
  all_goals (rw[hr];try rfl)
 ·rw[decide_eq_false hn] at hr
  repeat' first|refine st ?_|((with_reducible apply A4);conv=>whnf)|((with_reducible first|apply I9|apply I5);(·exact S0))|refine⟨λ_=>?_,λ_=>?_⟩|fail
  all_goals (rw[hr];try rfl)
end Go.Proofs
end
section
namespace Go.Proofs
open Go.Bi
def M5(n:Int):Int:=IntKind.i64.wrap n
def nSm(n:Int):Prop:=-1125899906842624<=n/\n<=1125899906842624
theorem E00{v:Vl}(h:O5 v=true):nSm v.n:=by
 unfold O5 at h
 unfold nSm
 repeat' split at h
 all_goals simp at h
 all_goals omega
theorem C4b{v:Vl}(h:O5 v=true):v.s.length<=200:=by
 unfold O5 at h
 repeat' split at h
 all_goals simp at h
 ·rw[h.2];simp
 ·rw[h.1];simp
 ·exact h.1.2
 ·rw[h.1];simp
def r8(l:List Vl)(i:Int):Vl:=g8 (T4 l i)
theorem D9R{l:List Vl}(hs:∀v∈l,v.s.length<=1073741824)(i:Int):(T4 l i).s.length<=1073741824:=by
 unfold T4
 split
 ·simp[E6]
 ·rw[I4]
  cases h:l[i.toNat]? with
  |none=>simp[E6]
  |some v=>exact hs v (C3 h)
def vLf(op n:Int)(v:Vl)(l:List Vl):Vl:=g8 (if op=2 then T4 l n else v)
theorem C5y(op n:Int)(v:Vl)(name:List UInt8)(da:D)(hvs:v.s.length<=1073741824)(l:List Vl)(hl:l.length<=1073741824)(hs:∀v∈l,v.s.length<=1073741824)(d:D)(hd:A9 d (B6 l)):Pure Tryz.prog B8F [eX op n v name da,.d d] (eV (vLf op n v l)):=by
 refine C7E.go A6 rfl ?_
 have hA:=B4g l (by omega) d hd n
 by_cases h:op=2
 ·have hV:=A5X (T4 l n) (by have:=D9R hs n;omega)
  unfold vLf
  rw[if_pos h]
  unfold g8
  cases hv:O5 (T4 l n) with
  |true=>
   rw[hv] at hV
   repeat' first|refine st ?_|((with_reducible apply A4);conv=>whnf)|refine⟨λ_=>?_,λ_=>?_⟩|fail
   all_goals rfl
  |false=>
   rw[hv] at hV
   repeat' first|refine st ?_|((with_reducible apply A4);conv=>whnf)|((with_reducible first|apply I9|apply I5);(·exact S0))|refine⟨λ_=>?_,λ_=>?_⟩|fail
   all_goals rfl
 ·have hV:=A5X v (by omega)
  unfold vLf
  rw[if_neg h]
  unfold g8
  cases hv:O5 v with
  |true=>
   rw[hv] at hV
   repeat' first|refine st ?_|((with_reducible apply A4);conv=>whnf)|refine⟨λ_=>?_,λ_=>?_⟩|fail
   all_goals rfl
  |false=>
   rw[hv] at hV
   repeat' first|refine st ?_|((with_reducible apply A4);conv=>whnf)|((with_reducible first|apply I9|apply I5);(·exact S0))|refine⟨λ_=>?_,λ_=>?_⟩|fail
   all_goals rfl
def vCp(op:Int)(a b:Vl):Int:=if op=7 then vEq a b else if op=8 then A2o (vEq a b) else if op=9 then A7I a b else if op=11 then A7I b a else if op=10 then A2o (A7I b a) else A2o (A7I a b)
theorem C5w(op:Int)(a b:Vl):Pure Tryz.prog B8C [.d (eI op),eV a,eV b] (.d (eI (vCp op a b))):=by
 refine C7A.go A6 rfl ?_
 repeat' first|refine st ?_|((with_reducible apply A4);conv=>whnf)|((with_reducible first|apply I9|apply I5);(·first|exact C69 _ _|exact B4d _|exact C6a _ _))|refine⟨λ_=>?_,λ_=>?_⟩|fail
 all_goals simp[vCp, *]
def n7(l:List Vl)(k:Int):Bool:=l.all λv=>decide (v.k=k)
theorem A5V(l:List Vl)(hl:l.length<=1073741824)(d:D)(hd:A9 d (B6 l))(k:Int):Pure Tryz.prog B8B [.d d,.d (eI k)] (.d (.bool (n7 l k))):=by
 refine C7y.go A6 rfl ?_
 have h1:=X3 l
 have hm:=T7 l
 repeat' first|refine st ?_|((with_reducible apply A4);conv=>whnf)|refine⟨λ_=>?_,λ_=>?_⟩|fail
 refine K6 A6 D0y C9h (λ(i:Nat)=>[.d (eI i)]) (λi=>[]) (λi=>i<=l.length/\(l.take i).all (λv=>decide (v.k=k))=true) (λi=>l.length-i) 0 rfl rfl rfl rfl (λ_ _=>⟨rfl,rfl⟩) rfl ⟨by omega,rfl⟩ ?_
 repeat' first|refine st ?_|((with_reducible apply A4);conv=>whnf)|refine⟨λ_=>?_,λ_=>?_⟩|fail
 intro i ⟨h2,h3⟩
 cases hx:l[i]? with
 |some v=>
  have hlt:=(B4.1 hx).1
  have hg:=A1A hx
  by_cases hk:v.k=k
  ·repeat' first|refine st ?_|((with_reducible apply A4);conv=>whnf)|refine⟨λ_=>?_,λ_=>?_⟩|fail
   refine⟨i+1,rfl,rfl,rfl,by omega,by omega,?_⟩
   rw[A6i hx,h3,decide_eq_true hk];rfl
  ·repeat' first|refine st ?_|((with_reducible apply A4);conv=>whnf)|refine⟨λ_=>?_,λ_=>?_⟩|fail
   rw[n7,A4Z hx (decide_eq_false hk)]
 |none=>
  have hge:=E9.1 hx
  rw[H4 hge] at h3
  repeat' first|refine st ?_|((with_reducible apply A4);conv=>whnf)|refine⟨λ_=>?_,λ_=>?_⟩|fail
  rw[n7,h3]
def vPr(a b:Int):Vl:=if a≠0/\M5 (Int.tdiv 1125899906842624 (max a (0-a)))<max b (0-b) then E6 else Z2 (M5 (a*b))
theorem E0v(a b:Int)(ha:nSm a)(hb:nSm b):Pure Tryz.prog B9h [.d (eI a),.d (eI b)] (eV (vPr a b)):=by
 refine C8k.go A6 rfl ?_
 obtain⟨a1,a2⟩:=ha
 obtain⟨b1,b2⟩:=hb
 unfold vPr
 by_cases h0:a=0
 ·rw[if_neg (by omega)]
  repeat' first|refine st ?_|((with_reducible apply A4);conv=>whnf)|((with_reducible first|apply I9|apply I5);(·first|exact A2x|exact B0o _))|refine⟨λ_=>?_,λ_=>?_⟩|fail
  all_goals rfl
 ·have hne:max a (0-a)≠0:=by omega
  by_cases h1:M5 (Int.tdiv 1125899906842624 (max a (0-a)))<max b (0-b)
  ·rw[if_pos ⟨h0,h1⟩]
   repeat' first|refine st ?_|((with_reducible apply A4);conv=>whnf)|((with_reducible first|apply I9|apply I5);(·first|exact A2x|exact B0o _))|refine⟨λ_=>?_,λ_=>?_⟩|fail
   all_goals rfl
  ·rw[if_neg (λh=>h1 h.2)]
   repeat' first|refine st ?_|((with_reducible apply A4);conv=>whnf)|((with_reducible first|apply I9|apply I5);(·first|exact A2x|exact B0o _))|refine⟨λ_=>?_,λ_=>?_⟩|fail
   all_goals rfl
def A4B(op a b:Int):Vl:=if op=13 then Z2 (a+b) else if op=14 then Z2 (a-b) else if op=15 then vPr a b else if b=0 then E6 else if op=16 then Z2 (M5 (a.tdiv b)) else Z2 (a.tmod b)
theorem B3Z(a:Int)(ha:nSm a):Pure Tryz.prog B8z [.d (eI a)] (.d (eI (max a (0-a)))):=by
 refine C7w.go A6 rfl ?_
 obtain⟨a1,a2⟩:=ha
 repeat' first|refine st ?_|((with_reducible apply A4);conv=>whnf)|refine⟨λ_=>?_,λ_=>?_⟩|fail
theorem C5x(op a b:Int)(ha:nSm a)(hb:nSm b):Pure Tryz.prog B8D [.d (eI op),.d (eI a),.d (eI b)] (eV (A4B op a b)):=by
 refine C7B.go A6 rfl ?_
 have hA:=B3Z a ha
 have hB:=B3Z b hb
 obtain⟨a1,a2⟩:=ha
 obtain⟨b1,b2⟩:=hb
 by_cases h13:op=13
 ·subst h13
  repeat' first|refine st ?_|((with_reducible apply A4);conv=>whnf)|((with_reducible first|apply I9|apply I5);(·exact A0o _))|refine⟨λ_=>?_,λ_=>?_⟩|fail
  all_goals rfl
 by_cases h14:op=14
 ·subst h14
  repeat' first|refine st ?_|((with_reducible apply A4);conv=>whnf)|((with_reducible first|apply I9|apply I5);(·exact A0o _))|refine⟨λ_=>?_,λ_=>?_⟩|fail
  all_goals rfl
 by_cases h15:op=15
 ·subst h15
  show Go _
  have e:A4B 15 a b=vPr a b:=rfl
  rw[e]
  unfold vPr
  by_cases h0:a=0
  ·rw[if_neg (by omega)]
   repeat' first|refine st ?_|((with_reducible apply A4);conv=>whnf)|((with_reducible first|apply I9|apply I5);(·first|exact S0|exact A0o _))|refine⟨λ_=>?_,λ_=>?_⟩|fail
   all_goals rfl
  ·have hne:max a (0-a)≠0:=by omega
   by_cases h1:M5 (Int.tdiv 1125899906842624 (max a (0-a)))<max b (0-b)
   ·rw[if_pos ⟨h0,h1⟩]
    repeat' first|refine st ?_|((with_reducible apply A4);conv=>whnf)|((with_reducible first|apply I9|apply I5);(·first|exact S0|exact A0o _))|refine⟨λ_=>?_,λ_=>?_⟩|fail
    all_goals rfl
   ·rw[if_neg (λh=>h1 h.2)]
    repeat' first|refine st ?_|((with_reducible apply A4);conv=>whnf)|((with_reducible first|apply I9|apply I5);(·first|exact S0|exact A0o _))|refine⟨λ_=>?_,λ_=>?_⟩|fail
    all_goals rfl
 unfold A4B
 rw[if_neg h13,if_neg h14,if_neg h15]
 by_cases h0:b=0
 ·rw[if_pos h0]
  repeat' first|refine st ?_|((with_reducible apply A4);conv=>whnf)|((with_reducible first|apply I9|apply I5);(·first|exact S0|exact A0o _))|refine⟨λ_=>?_,λ_=>?_⟩|fail
  all_goals rfl
 rw[if_neg h0]
 by_cases h16:op=16
 ·rw[if_pos h16]
  repeat' first|refine st ?_|((with_reducible apply A4);conv=>whnf)|((with_reducible first|apply I9|apply I5);(·first|exact S0|exact A0o _))|refine⟨λ_=>?_,λ_=>?_⟩|fail
  all_goals rfl
 ·rw[if_neg h16]
  repeat' first|refine st ?_|((with_reducible apply A4);conv=>whnf)|((with_reducible first|apply I9|apply I5);(·first|exact S0|exact A0o _))|refine⟨λ_=>?_,λ_=>?_⟩|fail
  all_goals rfl
end Go.Proofs
end
section
namespace Go.Proofs
open Go.Bi
def V4(op t:Int)(v:Vl):Int:=if op=5 then A7C t (Q9 v) else tOr t (Q9 v)
def lgF(op:Int)(a:Vl)(r:List Vl):Int:=r.foldl (V4 op) (Q9 a)
theorem A5o{α β:Type}(f:β->α->β)(b:β)(l:List α)(i:Nat)(x:α)(h:l[i]?=some x):(l.take (i+1)).foldl f b=f ((l.take i).foldl f b) x:=by
 rw[L8,h];simp
theorem C5z(op:Int)(a:Vl)(r:List Vl)(hl:r.length<=1073741824):Pure Tryz.prog B8G [.d (eI op),.d (.sl (B6 (a::r)))] (eV (r9 (lgF op a r))):=by
 refine C7F.go A6 rfl ?_
 have h1:(B6 (a::r)).length=r.length+1:=by rw[X3];rfl
 have hm:=T7 (a::r)
 have hg0:(B6 (a::r))[(0:Nat)]?=some a.ds:=rfl
 obtain⟨es,hes⟩:∃es,es=B6 (a::r):=⟨_,rfl⟩
 rw[<- hes] at h1 hm hg0 ⊢
 repeat' first|refine st ?_|((with_reducible apply A4);conv=>whnf)|((with_reducible first|apply I9|apply I5);(·exact A40 _))|refine⟨λ_=>?_,λ_=>?_⟩|fail
 refine L6 A6 D0C C9l (λ(i:Nat) (t:Int)=>[.d (eI t),.d (eI (i+1))]) (λi t=>[.cells [.d (eI 0),.d (eI 0),.d (.str [])]]) (λi t=>i<=r.length/\t=(r.take i).foldl (V4 op) (Q9 a)) (λi _=>r.length-i) 0 (Q9 a) rfl rfl rfl rfl (λ_ _ _=>⟨rfl,rfl⟩) rfl ⟨by omega,rfl⟩ ?_
 repeat' first|refine st ?_|((with_reducible apply A4);conv=>whnf)|refine⟨λ_=>?_,λ_=>?_⟩|fail
 intro i t ⟨h2,h3⟩
 cases hx:r[i]? with
 |some v=>
  have hlt:=(B4.1 hx).1
  have hg:es[((i:Int)+1).toNat]?=some v.ds:=by
   rw[hes,show((i:Int)+1).toNat=i+1 by omega]
   exact A1A (l:=a::r) (by simpa using hx)
  by_cases h5:op=5
  ·repeat' first|refine st ?_|((with_reducible apply A4);conv=>whnf)|((with_reducible first|apply I9|apply I5);(·first|exact A40 _|exact C68 _ _))|refine⟨λ_=>?_,λ_=>?_⟩|fail
   refine⟨i+1,_,rfl,rfl,rfl,by omega,by omega,?_⟩
   rw[A5o _ _ _ _ _ hx,<- h3,V4,if_pos h5]
  ·repeat' first|refine st ?_|((with_reducible apply A4);conv=>whnf)|((with_reducible first|apply I9|apply I5);(·first|exact A40 _|exact C6b _ _))|refine⟨λ_=>?_,λ_=>?_⟩|fail
   refine⟨i+1,_,rfl,rfl,rfl,by omega,by omega,?_⟩
   rw[A5o _ _ _ _ _ hx,<- h3,V4,if_neg h5]
 |none=>
  have hge:=E9.1 hx
  rw[H4 hge] at h3
  subst h3
  repeat' first|refine st ?_|((with_reducible apply A4);conv=>whnf)|((with_reducible first|apply I9|apply I5);(·exact B0n _))|refine⟨λ_=>?_,λ_=>?_⟩|fail
  rfl
end Go.Proofs
end
section
namespace Go.Proofs
open Go.Bi
def A9Q(l:List Vl):List UInt8:=(l.map Vl.s).flatten
def A0m(op:Int)(l:List Vl):Vl:=if n7 l 2 then (if op=20 then Z2 (A9Q l).length else B3q (A9Q l)) else E6
theorem C5D(a b:Vl)(ha:a.s.length<=200)(hb:b.s.length<=200):Pure Tryz.prog B12 [.d (eI 19),.d (.sl (B6 [a,b]))] (eV (A0m 19 [a,b])):=by
 refine B4p.go A6 rfl ?_
 have hA:=A5V [a,b] (by simp) (.sl (B6 [a,b])) u4 2
 have hT:=C6d (a.s++b.s) (by simp;omega)
 have e:A0m 19 [a,b]=if n7 [a,b] 2 then B3q (a.s++b.s) else E6:=by unfold A0m A9Q;simp
 rw[e]
 have hm:=T7 [a,b]
 have hg0:(B6 [a,b])[(0:Nat)]?=some a.ds:=rfl
 have hg1:(B6 [a,b])[(1:Nat)]?=some b.ds:=rfl
 have hln:(B6 [a,b]).length=2:=rfl
 obtain⟨es,hes⟩:∃es,es=B6 [a,b]:=⟨_,rfl⟩
 rw[<- hes] at hA hm hg0 hg1 hln ⊢
 cases hk:n7 [a,b] 2 with
 |true=>
  rw[hk] at hA
  repeat' first|refine st ?_|((with_reducible apply A4);conv=>whnf)|refine⟨λ_=>?_,λ_=>?_⟩|fail
  all_goals rfl
 |false=>
  rw[hk] at hA
  repeat' first|refine st ?_|((with_reducible apply A4);conv=>whnf)|((with_reducible first|apply I9|apply I5);(·exact S0))|refine⟨λ_=>?_,λ_=>?_⟩|fail
  all_goals rfl
theorem C5E(a:Vl)(ha:a.s.length<=200):Pure Tryz.prog B12 [.d (eI 20),.d (.sl (B6 [a]))] (eV (A0m 20 [a])):=by
 refine B4p.go A6 rfl ?_
 have hA:=A5V [a] (by simp) (.sl (B6 [a])) u4 2
 have e:A0m 20 [a]=if n7 [a] 2 then Z2 a.s.length else E6:=by unfold A0m A9Q;simp
 rw[e]
 have hm:=T7 [a]
 have hg0:(B6 [a])[(0:Nat)]?=some a.ds:=rfl
 have hln:(B6 [a]).length=1:=rfl
 obtain⟨es,hes⟩:∃es,es=B6 [a]:=⟨_,rfl⟩
 rw[<- hes] at hA hm hg0 hln ⊢
 cases hk:n7 [a] 2 with
 |true=>
  rw[hk] at hA
  repeat' first|refine st ?_|((with_reducible apply A4);conv=>whnf)|((with_reducible first|apply I9|apply I5);(·exact A0o _))|refine⟨λ_=>?_,λ_=>?_⟩|fail
  all_goals rfl
 |false=>
  rw[hk] at hA
  repeat' first|refine st ?_|((with_reducible apply A4);conv=>whnf)|((with_reducible first|apply I9|apply I5);(·exact S0))|refine⟨λ_=>?_,λ_=>?_⟩|fail
  all_goals rfl
def A9Y(a:Int):Vl:=Z2 (0-a)
def vAr(op a b:Int):Vl:=if op=18 then A9Y a else A4B op a b
def A3V(op:Int)(l:List Vl):Vl:=if n7 l 1 then vAr op (l.getD 0 E6).n (l.getD (l.length-1) E6).n else E6
def A4m(a b:Vl):Bool:=decide (a.k=1)&&decide (b.k=1)
theorem B3J(a b:Vl):Pure Tryz.prog B9g [eV a,eV b] (.tup [eP a.n b.n,.d (.bool (A4m a b))]):=by
 refine C8j.go A6 rfl ?_
 unfold A4m
 by_cases ha:a.k=1
 ·rw[decide_eq_true ha]
  repeat' first|refine st ?_|((with_reducible apply A4);conv=>whnf)|refine⟨λ_=>?_,λ_=>?_⟩|fail
  all_goals rfl
 ·rw[decide_eq_false ha]
  repeat' first|refine st ?_|((with_reducible apply A4);conv=>whnf)|refine⟨λ_=>?_,λ_=>?_⟩|fail
  all_goals rfl
def A31(r:Int)(a b c d:Vl):Vl:=if n7 [a,b,c,d] 1&&(T3 a.n b.n c.n d.n).2 then Y0 (decide ((T3 a.n b.n c.n d.n).1=r)) else E6
theorem D6I(a b c d:Vl):n7 [a,b,c,d] 1=(A4m a b&&A4m c d):=by simp[n7,A4m,Bool.and_assoc]
theorem E0w(r:Int)(a b c d:Vl):Pure Tryz.prog B9i [.d (eI r),.d (.sl (B6 [a,b,c,d]))] (eV (A31 r a b c d)):=by
 refine C8l.go A6 rfl ?_
 have hm:=T7 [a,b,c,d]
 have hg0:(B6 [a,b,c,d])[(0:Nat)]?=some a.ds:=rfl
 have hg1:(B6 [a,b,c,d])[(1:Nat)]?=some b.ds:=rfl
 have hg2:(B6 [a,b,c,d])[(2:Nat)]?=some c.ds:=rfl
 have hg3:(B6 [a,b,c,d])[(3:Nat)]?=some d.ds:=rfl
 have hln:(B6 [a,b,c,d]).length=4:=rfl
 have hR:=C4U a.n b.n c.n d.n
 have hP:=B3J a b
 have hQ:=B3J c d
 unfold A31
 rw[D6I]
 obtain⟨es,hes⟩:∃es,es=B6 [a,b,c,d]:=⟨_,rfl⟩
 rw[<- hes] at hm hg0 hg1 hg2 hg3 hln ⊢
 cases h1:A4m a b with
 |false=>
  rw[h1] at hP
  repeat' first|refine st ?_|((with_reducible apply A4);conv=>whnf)|((with_reducible first|apply I9|apply I5);(·exact A2x))|refine⟨λ_=>?_,λ_=>?_⟩|fail
  all_goals rfl
 |true=>
  rw[h1] at hP
  cases h2:A4m c d with
  |false=>
   rw[h2] at hQ
   repeat' first|refine st ?_|((with_reducible apply A4);conv=>whnf)|((with_reducible first|apply I9|apply I5);(·exact A2x))|refine⟨λ_=>?_,λ_=>?_⟩|fail
   all_goals rfl
  |true=>
   rw[h2] at hQ
   cases h3:(T3 a.n b.n c.n d.n).2 with
   |false=>
    rw[h3] at hR
    repeat' first|refine st ?_|((with_reducible apply A4);conv=>whnf)|((with_reducible first|apply I9|apply I5);(·exact A2x))|refine⟨λ_=>?_,λ_=>?_⟩|fail
    all_goals rfl
   |true=>
    rw[h3] at hR
    repeat' first|refine st ?_|((with_reducible apply A4);conv=>whnf)|((with_reducible first|apply I9|apply I5);(·exact B4l _))|refine⟨λ_=>?_,λ_=>?_⟩|fail
    all_goals rfl
theorem C5A(r:Int)(a b c d:Vl):Pure Tryz.prog B8H [.d (eI r),.d (.sl (B6 [a,b,c,d]))] (eV (A31 r a b c d)):=by
 refine C7G.go A6 rfl ?_
 have hm:=T7 [a,b,c,d]
 have hg0:(B6 [a,b,c,d])[(0:Nat)]?=some a.ds:=rfl
 have hg1:(B6 [a,b,c,d])[(1:Nat)]?=some b.ds:=rfl
 have hg2:(B6 [a,b,c,d])[(2:Nat)]?=some c.ds:=rfl
 have hg3:(B6 [a,b,c,d])[(3:Nat)]?=some d.ds:=rfl
 have hln:(B6 [a,b,c,d]).length=4:=rfl
 have hR:=C6n a.n b.n c.n d.n
 have hA:=A5V [a,b,c,d] (by simp) (.sl (B6 [a,b,c,d])) u4 1
 unfold A31
 obtain⟨es,hes⟩:∃es,es=B6 [a,b,c,d]:=⟨_,rfl⟩
 rw[<- hes] at hm hg0 hg1 hg2 hg3 hln hA ⊢
 cases h1:n7 [a,b,c,d] 1 with
 |false=>
  rw[h1] at hA
  repeat' first|refine st ?_|((with_reducible apply A4);conv=>whnf)|((with_reducible first|apply I9|apply I5);(·exact S0))|refine⟨λ_=>?_,λ_=>?_⟩|fail
  all_goals rfl
 |true=>
  rw[h1] at hA
  cases h3:(T3 a.n b.n c.n d.n).2 with
  |false=>
   rw[h3] at hR
   repeat' first|refine st ?_|((with_reducible apply A4);conv=>whnf)|((with_reducible first|apply I9|apply I5);(·exact S0))|refine⟨λ_=>?_,λ_=>?_⟩|fail
   all_goals rfl
  |true=>
   rw[h3] at hR
   repeat' first|refine st ?_|((with_reducible apply A4);conv=>whnf)|((with_reducible first|apply I9|apply I5);(·exact A7X _))|refine⟨λ_=>?_,λ_=>?_⟩|fail
   all_goals rfl
end Go.Proofs
end
section
namespace Go.Proofs
open Go.Bi
def w9:List Vl->Vl
 |[]=>E6
 |v::l=>if v.k=0 then w9 l else v
def X4(op n:Int)(v:Vl)(l:List Vl)(row:List Vl):Vl:=
 if op=1 then v
 else if op=2 then r8 row n
 else if op=22 then (if Q9 (l.getD 0 E6)=2 then l.getD 1 E6 else l.getD 2 E6)
 else if op=4 then r9 (A2o (Q9 (l.getD 0 E6)))
 else if op=5\/op=6 then r9 (lgF op (l.getD 0 E6) (l.drop 1))
 else if op=21 then Y0 (decide ((l.getD 0 E6).k=0))
 else if op=23 then w9 l
 else if op=24 then A31 n (l.getD 0 E6) (l.getD 1 E6) (l.getD 2 E6) (l.getD 3 E6)
 else if op=19\/op=20 then A0m op l
 else if 13<=op/\op<=18 then A3V op l
 else r9 (vCp op (l.getD 0 E6) (l.getD 1 E6))
mutual
def ev(row:List Vl):Ex->Vl
 |.mk op n v name nl args=>if K3 op n v name args.length then X4 op n v (evs row args) row else E6
def evs(row:List Vl):List Ex->List Vl
 |[]=>[]
 |e::es=>ev row e::evs row es
end
theorem C1q(row:List Vl):∀l,evs row l=l.map (ev row)
 |[]=>by simp[evs]
 |e::es=>by simp[evs,C1q row es]
theorem x8(row:List Vl)(op n:Int)(v:Vl)(name:List UInt8)(nl:Bool)(args:List Ex):ev row (.mk op n v name nl args)=if K3 op n v name args.length then X4 op n v (args.map (ev row)) row else E6:=by
 rw[ev,C1q]
theorem A6E{op:Int}{k:Nat}(h:(T1 op k).1=true):((op=1\/op=2)/\k=0)\/((op=4\/op=18\/op=20\/op=21)/\k=1)\/((7<=op/\op<=17\/op=19)/\k=2)\/((op=5\/op=6)/\2<=k)\/(op=22/\k=3)\/(op=23/\1<=k)\/(op=24/\k=4):=by
 unfold T1 at h
 repeat' split at h
 all_goals (simp at h)
 all_goals omega
theorem A4j{op n:Int}{v:Vl}{name:List UInt8}{k:Nat}(h:K3 op n v name k=true):(T1 op k).1=true:=by
 unfold K3 at h
 simp only[K7] at h
 exact h.1.1
theorem C1H{n:Int}{v:Vl}{name:List UInt8}{k:Nat}(h:K3 1 n v name k=true):O5 v=true:=by
 unfold K3 at h
 simp only[K7,if_true] at h
 exact h.2.2
theorem A3W:O5 E6=true:=by decide
theorem B3p(v:Vl):O5 (g8 v)=true:=by
 unfold g8
 split
 ·assumption
 ·exact A3W
theorem A9W(b:Bool):O5 (Y0 b)=true:=by cases b<;>decide
theorem B3o(t:Int):O5 (r9 t)=true:=by
 unfold r9
 split
 ·exact A9W _
 ·split
  ·exact A9W _
  ·exact A3W
theorem C1W{l:List Vl}(h:∀v∈l,O5 v=true)(i:Nat):O5 (l.getD i E6)=true:=by
 rw[I4]
 cases hx:l[i]? with
 |none=>exact A3W
 |some v=>exact h v (C3 hx)
theorem C0T:∀{l:List Vl},(∀v∈l,O5 v=true)->O5 (w9 l)=true
 |[],_=>A3W
 |v::l,h=>by
  unfold w9
  split
  ·exact C0T λx hx=>h x (by simp[hx])
  ·exact h v (by simp)
theorem D6c{op n:Int}{v:Vl}{l row:List Vl}(hl:∀v∈l,O5 v=true)(h1:op=1->O5 v=true):O5 (X4 op n v l row)=true:=by
 unfold X4
 split
 ·rename_i h;exact h1 h
 split
 ·exact B3p _
 split
 ·split
  ·exact C1W hl 1
  ·exact C1W hl 2
 split
 ·exact B3o _
 split
 ·exact B3o _
 split
 ·exact A9W _
 split
 ·exact C0T hl
 split
 ·unfold A31
  split
  ·exact A9W _
  ·exact A3W
 split
 ·unfold A0m
  split
  ·split<;>exact B3p _
  ·exact A3W
 split
 ·unfold A3V vAr A9Y A4B vPr
  repeat' split
  all_goals first|exact B3p _|exact A3W
 ·exact B3o _
theorem A8X(row:List Vl):∀e,O5 (ev row e)=true:=by
 refine Ex.ind λop n v name nl args ih=>?_
 rw[x8]
 split
 ·rename_i h
  refine D6c (λw hw=>?_) (λe=>?_)
  ·obtain⟨a,ha,rfl⟩:=D7.1 hw
   exact ih a ha
  ·subst e;exact C1H h
 ·exact A3W
theorem C1p(row:List Vl)(e:Ex):(ev row e).s.length<=200:=C4b (A8X row e)
theorem D6h(row:List Vl)(args:List Ex):∀v∈args.map (ev row),v.s.length<=200:=λv hv=>by
 obtain⟨a,_,rfl⟩:=D7.1 hv
 exact C1p row a
theorem D6g(row:List Vl)(args:List Ex):∀v∈args.map (ev row),nSm v.n:=λv hv=>by
 obtain⟨a,_,rfl⟩:=D7.1 hv
 exact E00 (A8X row a)
abbrev z3:List D:=[eI 0,eI 0,.str []]
end Go.Proofs
end
section
namespace Go.Proofs
open Go.Bi
theorem D6a(op n:Int)(v:Vl)(l row:List Vl)(h:op=1\/op=2)(hv:op=1->O5 v=true):X4 op n v l row=vLf op n v row:=by
 rcases h with rfl|rfl
 ·unfold X4 vLf g8
  simp[hv rfl]
 ·rfl
theorem C5u(l:List Vl)(a b c:Vl)(h:l=[a,b,c]):Pure Tryz.prog B0Z [.d (eI 22),.d (.sl (B6 l))] (eV (if Q9 a=2 then b else c)):=by
 refine B4n.go A6 rfl ?_
 subst h
 have hm:=T7 [a,b,c]
 have hg0:(B6 [a,b,c])[(0:Nat)]?=some a.ds:=rfl
 have hg1:(B6 [a,b,c])[(1:Nat)]?=some b.ds:=rfl
 have hg2:(B6 [a,b,c])[(2:Nat)]?=some c.ds:=rfl
 have hln:(B6 [a,b,c]).length=3:=rfl
 obtain⟨es,hes⟩:∃es,es=B6 [a,b,c]:=⟨_,rfl⟩
 rw[<- hes] at hm hg0 hg1 hg2 hln ⊢
 by_cases ht:Q9 a=2
 ·rw[if_pos ht]
  repeat' first|refine st ?_|((with_reducible apply A4);conv=>whnf)|((with_reducible first|apply I9|apply I5);(·exact A40 _))|refine⟨λ_=>?_,λ_=>?_⟩|fail
  all_goals rfl
 ·rw[if_neg ht]
  repeat' first|refine st ?_|((with_reducible apply A4);conv=>whnf)|((with_reducible first|apply I9|apply I5);(·exact A40 _))|refine⟨λ_=>?_,λ_=>?_⟩|fail
  all_goals rfl
theorem D5q{l:List Vl}{i:Nat}{v:Vl}(h:l[i]?=some v):w9 (l.drop i)=if v.k=0 then w9 (l.drop (i+1)) else v:=by
 obtain⟨hlt,he⟩:=B4.1 h
 rw[S1 hlt,he];rfl
theorem C5v(l:List Vl)(hl:l.length<=1073741824):Pure Tryz.prog B0Z [.d (eI 23),.d (.sl (B6 l))] (eV (w9 l)):=by
 refine B4n.go A6 rfl ?_
 have hm:=T7 l
 have hLl:=X3 l
 repeat' first|refine st ?_|((with_reducible apply A4);conv=>whnf)|refine⟨λ_=>?_,λ_=>?_⟩|fail
 refine K6 A6 D0z C9i (λ(i:Nat)=>[.d (eI i)]) (λi=>[.cells [.d (eI 0),.d (eI 0),.d (.str [])]]) (λi=>i<=l.length/\w9 l=w9 (l.drop i)) (λi=>l.length-i) 0 rfl rfl rfl rfl (λ_ _=>⟨rfl,rfl⟩) rfl ⟨by omega,rfl⟩ ?_
 repeat' first|refine st ?_|((with_reducible apply A4);conv=>whnf)|refine⟨λ_=>?_,λ_=>?_⟩|fail
 intro j ⟨h6,h7⟩
 cases hy:l[j]? with
 |some w=>
  have hlt2:=(B4.1 hy).1
  have hg2:=A1A hy
  rw[D5q hy] at h7
  by_cases hk:w.k=0
  ·rw[if_pos hk] at h7
   repeat' first|refine st ?_|((with_reducible apply A4);conv=>whnf)|refine⟨λ_=>?_,λ_=>?_⟩|fail
   exact⟨j+1,rfl,rfl,rfl,by omega,by omega,h7⟩
  ·rw[if_neg hk] at h7
   rw[h7]
   repeat' first|refine st ?_|((with_reducible apply A4);conv=>whnf)|refine⟨λ_=>?_,λ_=>?_⟩|fail
   all_goals rfl
 |none=>
  have hge2:=E9.1 hy
  rw[R1 hge2] at h7
  rw[h7]
  repeat' first|refine st ?_|((with_reducible apply A4);conv=>whnf)|((with_reducible first|apply I9|apply I5);(·exact S0))|refine⟨λ_=>?_,λ_=>?_⟩|fail
  all_goals rfl
def Av(row:List Vl)(args:List Ex)(i:Nat):List (List D):=B6 ((args.take i).map (ev row))
theorem C4J(row:List Vl)(args:List Ex)(i:Nat)(h:i<=args.length):(Av row args i).length=i:=by
 unfold Av
 rw[X3,D8,M4]
 omega
theorem C4K{row:List Vl}{args:List Ex}{i:Nat}{x:Ex}(h:args[i]?=some x):Av row args i++[(ev row x).ds]=Av row args (i+1):=by
 unfold Av
 rw[L8,h]
 simp[B6]
theorem C4I{row:List Vl}{args:List Ex}{i:Nat}(h:args.length<=i):Av row args i=B6 (args.map (ev row)):=by
 unfold Av
 rw[H4 h]
theorem B3W(row:List Vl)(hr:row.length<=1073741824)(hrs:∀v∈row,v.s.length<=1073741824)(dr:D)(hdr:A9 dr (B6 row)):∀e:Ex,e.bk<=1073741824->Pure Tryz.prog B0W [e.av,.d dr] (eV (ev row e)):=by
 refine Ex.ind λop n v name nl args ih hbk=>?_
 obtain⟨b1,b2,b3,b4⟩:=Ex.bk_bounds hbk
 have ih':∀a∈args,Pure Tryz.prog B0W [a.av,.d dr] (eV (ev row a)):=λa ha=>ih a ha (b4 a ha)
 clear ih
 rw[Ex.av_mk]
 refine C7r.go A6 rfl ?_
 have hlen:=P0 args
 have hF:=B0l op n v name (ng nl (xL args)) (xL args) C7 b2 (by omega)
 rw[hlen] at hF
 have hm:=P2 args
 have hd:A9 (ng nl (xL args)) (xL args):=C7
 have hget:∀(i:Nat) (op' n':Int) (v':Vl) (name':List UInt8) (nl':Bool) (args':List Ex),args[i]?=some (.mk op' n' v' name' nl' args')->(xL args)[i]?=some (T5 op' n' v' name' (ng nl' (xL args'))):=λi op' n' v' name' nl' args' h=>by
  rw[<- Ex.ds_mk];exact Y1 h
 obtain⟨d,hde⟩:∃d,d=ng nl (xL args):=⟨_,rfl⟩
 rw[<- hde] at hF hd ⊢
 obtain⟨es,hes⟩:∃es,es=xL args:=⟨_,rfl⟩
 rw[<- hes] at hlen hm hd hget
 rw[x8]
 cases hf:K3 op n v name args.length with
 |false=>
  rw[hf] at hF
  repeat' first|refine st ?_|((with_reducible apply A4);conv=>whnf)|((with_reducible first|apply I9|apply I5);(·exact S0))|refine⟨λ_=>?_,λ_=>?_⟩|fail
  all_goals rfl
 |true=>
 rw[hf] at hF
 rw[if_pos rfl]
 have hcnt:=A6E (A4j hf)
 repeat' first|refine st ?_|((with_reducible apply A4);conv=>whnf)|refine⟨λ_=>?_,λ_=>?_⟩|fail
 refine L6 A6 D0u C9d (λ(i:Nat) (A:List (List D))=>[.arr 2 A.length,.d (eI i)]) (λi A=>[.cells [.d (eI op),.d (eI n),.d (eI v.k),.d (eI v.n),.d (.str v.s),.d (.str name),.d d],.cells [.d (eI 0),.d (eI 0),.d (.str [])],.arr A 3 0 false]) (λi A=>i<=args.length/\A=Av row args i) (λi _=>args.length-i) 0 [] rfl rfl rfl rfl (λ_ _ _=>⟨rfl,rfl⟩) rfl ⟨by omega,rfl⟩ ?_
 repeat' first|refine st ?_|((with_reducible apply A4);conv=>whnf)|refine⟨λ_=>?_,λ_=>?_⟩|fail
 intro i A ⟨h4,h5⟩
 have hAl:A.length=i:=by rw[h5];exact C4J row args i h4
 have hAm:∀e∈A,e.length=3:=by rw[h5];exact T7 _
 cases hx:args[i]? with
 |some x=>
  have hlt:=(B4.1 hx).1
  have hI:=ih' x (C3 hx)
  have hset:=C4K (row:=row) hx
  obtain⟨op',n',v',name',nl',args'⟩:=x
  rw[Ex.av_mk] at hI
  have hg:=hget i _ _ _ _ _ _ hx
  rw[<- h5] at hset
  repeat' first|refine st ?_|((with_reducible apply A4);conv=>whnf)|refine⟨λ_=>?_,λ_=>?_⟩|fail
  exact⟨i+1,_,rfl,rfl,rfl,by omega,by omega,hset⟩
 |none=>
  have hge:=E9.1 hx
  rw[C4I hge] at h5
  clear ih' hget hF
  obtain⟨l,hl⟩:∃l,l=args.map (ev row):=⟨_,rfl⟩
  have hll:l.length=args.length:=by rw[hl,D8]
  have hs:=D6h row args
  have hn:=D6g row args
  rw[<- hl] at h5 hs hn ⊢
  subst h5
  by_cases h12:op=1\/op=2
  ·rw[D6a op n v l row h12 (λe=>by subst e;exact C1H hf)]
   have hC:=C5y op n v name d b2 row hr hrs dr hdr
   rcases h12 with rfl|rfl
   ·repeat' first|refine st ?_|((with_reducible apply A4);conv=>whnf)|refine⟨λ_=>?_,λ_=>?_⟩|fail
    all_goals rfl
   ·repeat' first|refine st ?_|((with_reducible apply A4);conv=>whnf)|refine⟨λ_=>?_,λ_=>?_⟩|fail
    all_goals rfl
  rcases hcnt with ⟨h,k⟩|⟨h,k⟩|⟨h,k⟩|⟨h,k⟩|⟨h,k⟩|⟨h,k⟩|⟨h,k⟩
  ·exact absurd h h12
  ·obtain⟨a,rfl⟩:∃a,l=[a]:=by
    match l,hll.trans k with
    |[a],_=>exact⟨a,rfl⟩
   have g0:(B6 [a])[(0:Nat)]?=some a.ds:=rfl
   rcases h with rfl|rfl|rfl|rfl
   ·repeat' first|refine st ?_|((with_reducible apply A4);conv=>whnf)|((with_reducible first|apply I9|apply I5);(·first|exact A40 _|exact B4d _|exact B0n _))|refine⟨λ_=>?_,λ_=>?_⟩|fail
    all_goals rfl
   ·have hA:=A5V [a] (by simp) (.sl (B6 [a])) u4 1
    obtain⟨na1,na2⟩:=hn a (by simp)
    have e:X4 18 n v [a] row=if n7 [a] 1 then Z2 (0-a.n) else E6:=rfl
    rw[e]
    cases hk:n7 [a] 1 with
    |true=>
     rw[hk] at hA
     repeat' first|refine st ?_|((with_reducible apply A4);conv=>whnf)|((with_reducible first|apply I9|apply I5);(·exact A0o _))|refine⟨λ_=>?_,λ_=>?_⟩|fail
     all_goals rfl
    |false=>
     rw[hk] at hA
     repeat' first|refine st ?_|((with_reducible apply A4);conv=>whnf)|((with_reducible first|apply I9|apply I5);(·exact S0))|refine⟨λ_=>?_,λ_=>?_⟩|fail
     all_goals rfl
   ·have hC:=C5E a (hs a (by simp))
    repeat' first|refine st ?_|((with_reducible apply A4);conv=>whnf)|refine⟨λ_=>?_,λ_=>?_⟩|fail
    all_goals rfl
   ·repeat' first|refine st ?_|((with_reducible apply A4);conv=>whnf)|((with_reducible first|apply I9|apply I5);(·exact A7X _))|refine⟨λ_=>?_,λ_=>?_⟩|fail
    all_goals rfl
  ·obtain⟨a,b,rfl⟩:∃a b,l=[a,b]:=by
    match l,hll.trans k with
    |[a,b],_=>exact⟨a,b,rfl⟩
   have g0:(B6 [a,b])[(0:Nat)]?=some a.ds:=rfl
   have g1:(B6 [a,b])[(1:Nat)]?=some b.ds:=rfl
   by_cases h19:op=19
   ·subst h19
    have hC:=C5D a b (hs a (by simp)) (hs b (by simp))
    repeat' first|refine st ?_|((with_reducible apply A4);conv=>whnf)|refine⟨λ_=>?_,λ_=>?_⟩|fail
    all_goals rfl
   by_cases h13:13<=op
   ·have hA:=A5V [a,b] (by simp) (.sl (B6 [a,b])) u4 1
    have hC:=C5x op a.n b.n (hn a (by simp)) (hn b (by simp))
    have e:X4 op n v [a,b] row=if n7 [a,b] 1 then A4B op a.n b.n else E6:=by
     unfold X4
     rw[if_neg (by omega),if_neg (by omega),if_neg (by omega),if_neg (by omega),if_neg (by omega),if_neg (by omega),if_neg (by omega),if_neg (by omega),if_neg (by omega),if_pos (by omega)]
     unfold A3V vAr
     rw[if_neg (show ¬op=18 by omega)]
     rfl
    rw[e]
    clear e
    cases hk:n7 [a,b] 1 with
    |true=>
     rw[hk] at hA
     rcases(show op=13\/op=14\/op=15\/op=16\/op=17 by omega) with rfl|rfl|rfl|rfl|rfl
     all_goals repeat' first|refine st ?_|((with_reducible apply A4);conv=>whnf)|refine⟨λ_=>?_,λ_=>?_⟩|fail
     all_goals rfl
    |false=>
     rw[hk] at hA
     rcases(show op=13\/op=14\/op=15\/op=16\/op=17 by omega) with rfl|rfl|rfl|rfl|rfl
     all_goals repeat' first|refine st ?_|((with_reducible apply A4);conv=>whnf)|((with_reducible first|apply I9|apply I5);(·exact S0))|refine⟨λ_=>?_,λ_=>?_⟩|fail
     all_goals rfl
   ·have e:X4 op n v [a,b] row=r9 (vCp op a b):=by
     unfold X4
     rw[if_neg (by omega),if_neg (by omega),if_neg (by omega),if_neg (by omega),if_neg (by omega),if_neg (by omega),if_neg (by omega),if_neg (by omega),if_neg (by omega),if_neg (by omega)]
     rfl
    rw[e]
    clear e
    rcases(show op=7\/op=8\/op=9\/op=10\/op=11\/op=12 by omega) with rfl|rfl|rfl|rfl|rfl|rfl
    all_goals repeat' first|refine st ?_|((with_reducible apply A4);conv=>whnf)|((with_reducible first|apply I9|apply I5);(·first|exact C5w _ _ _|exact B0n _))|refine⟨λ_=>?_,λ_=>?_⟩|fail
    all_goals rfl
  ·obtain⟨a,r,rfl⟩:∃a r,l=a::r:=by
    match l,hll with
    |[],h=>simp at h;omega
    |a::r,_=>exact⟨a,r,rfl⟩
   have hC:=C5z op a r (by simp at hll;omega)
   rcases h with rfl|rfl
   ·repeat' first|refine st ?_|((with_reducible apply A4);conv=>whnf)|refine⟨λ_=>?_,λ_=>?_⟩|fail
    all_goals rfl
   ·repeat' first|refine st ?_|((with_reducible apply A4);conv=>whnf)|refine⟨λ_=>?_,λ_=>?_⟩|fail
    all_goals rfl
  ·obtain⟨a,b,c,e⟩:∃a b c,l=[a,b,c]:=by
    match l,hll.trans k with
    |[a,b,c],_=>exact⟨a,b,c,rfl⟩
   subst h
   have hC:=C5u l a b c e
   have e2:X4 22 n v l row=if Q9 a=2 then b else c:=by rw[e];rfl
   rw[e2]
   repeat' first|refine st ?_|((with_reducible apply A4);conv=>whnf)|refine⟨λ_=>?_,λ_=>?_⟩|fail
   all_goals rfl
  ·obtain⟨rfl,_⟩:=h
   have hC:=C5v l (by omega)
   have e:X4 23 n v l row=w9 l:=rfl
   rw[e]
   repeat' first|refine st ?_|((with_reducible apply A4);conv=>whnf)|refine⟨λ_=>?_,λ_=>?_⟩|fail
   all_goals rfl
  ·obtain⟨a,b,c,e,rfl⟩:∃a b c e,l=[a,b,c,e]:=by
    match l,hll.trans k with
    |[a,b,c,e],_=>exact⟨a,b,c,e,rfl⟩
   subst h
   have hC:=C5A n a b c e
   repeat' first|refine st ?_|((with_reducible apply A4);conv=>whnf)|refine⟨λ_=>?_,λ_=>?_⟩|fail
   all_goals rfl
theorem B3Y(row:List Vl)(hr:row.length<=1073741824)(hrs:∀v∈row,v.s.length<=1073741824)(dr:D)(hdr:A9 dr (B6 row))(e:Ex)(he:e.bk<=1073741824):Pure Tryz.prog B0X [e.av,.d dr] (.d (eI (Q9 (ev row e)))):=by
 have h:=B3W row hr hrs dr hdr e he
 obtain⟨op,n,v,name,nl,args⟩:=e
 rw[Ex.av_mk] at h ⊢
 refine C7v.go A6 rfl ?_
 repeat' first|refine st ?_|((with_reducible apply A4);conv=>whnf)|((with_reducible first|apply I9|apply I5);(·exact A40 _))|refine⟨λ_=>?_,λ_=>?_⟩|fail
end Go.Proofs
end
section
namespace Go.Bi
open Go
def X8(nl:Bool)(es:List (List D)):D:=if nl then .nil else .sl es
section
variable {P:Program}{M' M2:D4}{G':Gh}{os:List AO}{w':World}
variable (he:C9 M' G' os w')(hm:∀y u,M' y=some u->M2 y=some u)(hb:∀i,H6 os i->∀(o:Nat) u,w'.cell? ⟨G'.blk i,o,none⟩=some u->M2 ⟨G'.blk i,o,none⟩=some u)
include he hm hb
end
end Go.Bi
end
section
namespace Go.Bi
open Go
structure A67(k:Nat)(P:Program)(n nb:Nat)(cd:IC)(N:Sl->List AO->Prop)(E:Nat->Sl->List AO->Prop)(R:Sl->List AO->Prop)(L:Sl)(os:List AO):Prop where
 h:∀body,cC P n body=some cd->∀c M G w a,Y7 n nb c M G os w (E8 L) a->Code.rounds P body (post n nb c (toK ⟨N,E,R⟩)) k a w
section
variable {P:Program}{n nb:Nat}{cd:IC}{N:Sl->List AO->Prop}{E0:Nat->Sl->List AO->Prop}{R:Sl->List AO->Prop}{L:Sl}{os:List AO}
theorem A2r(k:Nat)(h:A67 k P n nb cd N E0 R L os):s8 P n nb cd N E0 R L os:=by
 refine⟨λcode=>?_⟩
 induction code with
 |loop body ih=>
  intro hc c M G w a hR
  simp only[cC] at hc
  obtain⟨ic',hic,he⟩:=T9 hc
  cases he
  exact wp_loop_rounds k (h.h body hic c M G w a hR)
 |scope x ih=>
  intro hc c M G w a hR
  simp only[cC] at hc
  refine wp_scope_straight (wp_mono (ih hc c M G w a hR) λe a' w' hp=>?_)
  cases e<;>first|exact hp|exact hp.elim
 |skip=>intro hc;simp[cC] at hc
 |region id ops draw=>intro hc;simp only[cC] at hc;split at hc<;>(try split at hc)<;>(try split at hc)<;>(try split at hc)<;>(try split at hc)<;>cases hc
 |seq x y=>intro hc;simp only[cC] at hc;split at hc<;>cases hc
 |cond cnd x y=>intro hc;simp only[cC] at hc;split at hc<;>cases hc
 |block id x=>intro hc;simp only[cC] at hc;obtain⟨_,_,he⟩:=T9 hc;cases he
 |exit id=>intro hc;simp[cC] at hc
 |ret=>intro hc;simp[cC] at hc
 |_=>intro hc;simp[cC] at hc
theorem u6(hm:P.follows .mixedOrders=true){k:Nat}(h:Go (xI P n nb cd (λL' os'=>A67 k P n nb cd N E0 R L' os') E0 R L os)):A67 (k+1) P n nb cd N E0 R L os:=by
 refine⟨λbody hb c M G w a hR=>?_⟩
 rw[rounds_succ]
 have h1:=A36 (K:=⟨λL' os'=>A67 k P n nb cd N E0 R L' os',E0,R⟩) (K':=toK ⟨λL' os'=>A67 k P n nb cd N E0 R L' os',E0,R⟩) ⟨λL' os' h=>⟨L',rfl,h⟩,λi L' os' h=>⟨L',rfl,h⟩,λL' os' h=>⟨L',rfl,h⟩⟩ h
 refine wp_mono (A7N hm body cd hb _ _ _ h1 c M G w a hR) λe a' w' hp=>?_
 cases e with
 |normal=>
  obtain⟨M',G',os',ρ',hR',L',rfl,hk⟩:=hp
  exact hk.h body hb c M' G' w' a' hR'
 |exit id=>exact hp
 |ret=>exact hp
 |_=>exact hp
theorem A1U(id off sz:Nat)(hsz:Nat.blt 0 sz=true){cs:List AV}(ho:os[id]?=some (.cells cs))(hn:cs[off]?=some (.d .nil))
  (k:s8 P n nb cd N E0 R L ((os++[AO.arr [] sz 0 true]).set id (.cells (cs.set off (.arr os.length 0))))):s8 P n nb cd N E0 R L os:=by
 have hw:=C4k (n:=n) (nb:=nb) (ρ:=E8 L) (os:=os) id off sz (A3e A4T (R3 hsz)) ho hn
 refine⟨λcode hc c M G w a hR=>?_⟩
 obtain⟨M',G',hR'⟩:=hw c M G w a hR
 exact k.h code hc c M' G' w a hR'
end
end Go.Bi
end
section
namespace Go.Proofs
open Go.Bi
def A3i(r:B5):Prop:=r.length<=1073741824/\∀v∈r,v.s.length<=1073741824
abbrev O6(dk dr:D):AV:=.agg [.d dk,.d dr]
def L9(e:Ex)(r:B5):Bool:=decide (Q9 (ev r e)=2)
theorem D6w{α:Type}{p:α->Bool}{l:List α}{i:Nat}{e:α}(h:l[i]?=some e):(l.take (i+1)).filter p=(l.take i).filter p++if p e then [e] else []:=by
 rw[L8,h,v7]
 congr 1
 show List.filter p [e]=_
 cases hp:p e<;>simp[g9,hp]
theorem E02(p:B5->Bool)(l:List Rw):A8 (l.filter λr=>p r.vs)=(A8 l).filter p:=by
 unfold A8
 rw[List.filter_map]
 rfl
theorem A8R(a b:List Rw):B7 (a++b)=B7 a++B7 b:=by simp[B7]
theorem C5M(dk:D)(l:List Rw)(hl:l.length<=4294967296)(ho:∀r∈l,A3i r.vs)(dr:D)(hd:A9 dr (B7 l))(e:Ex)(he:e.bk<=1073741824) :
  Pure Tryz.prog B8Q [O6 dk dr,e.av] (O6 dk (.sl (rD (D1 ((A8 l).filter (L9 e)))))):=by
 have hT:=λ(r:Rw) (h:r∈l)=>B3Y r.vs (ho r h).1 (ho r h).2 r.d C7 e he
 have hfl:(l.filter λr=>L9 e r.vs).length<=l.length:=A0K ..
 have hS:=λd hd=>A0p (l.filter λr=>L9 e r.vs) (by omega) (λr h=>K4 (ho r (m0.1 h).1).1 (by decide)) d hd
 rw[E02] at hS
 obtain⟨Z,hZ⟩:∃z,z=rD (D1 ((A8 l).filter (L9 e))):=⟨_,rfl⟩
 rw[<- hZ] at hS ⊢
 clear hZ
 have l1:=U8 l
 have m1:=X2 l
 have g1:=λi r=>@A0W l i r
 obtain⟨es,hes⟩:∃z,z=B7 l:=⟨_,rfl⟩
 rw[<- hes] at hd l1 m1 g1
 clear hes
 obtain⟨xo,xn,xv,xm,xl,xa⟩:=e
 rw[Ex.av_mk] at hT ⊢
 obtain⟨xd,hxd⟩:∃d,d=ng xl (xL xa):=⟨_,rfl⟩
 rw[<- hxd] at hT ⊢
 refine C7M.go A6 rfl ?_
 repeat' first|refine st ?_|((with_reducible apply A4);conv=>whnf)|refine⟨λ_=>?_,λ_=>?_⟩|fail
 refine A1U 3 1 1 rfl rfl rfl ?_
 refine L6 A6 D0L C9u (λ(i:Nat) (w:List Rw)=>[.d (eI i)]) (λi w=>[.cells [.d dk,.d dr],.cells [.d (eI xo),.d (eI xn),.d (eI xv.k),.d (eI xv.n),.d (.str xv.s),.d (.str xm),.d xd],.cells [.d .nil,.d .nil],.cells [.d dk,.arr 4 (B7 w).length],.arr (B7 w) 1 0 (B7 w).isEmpty]) (λi w=>i<=l.length/\w=(l.take i).filter λr=>L9 (.mk xo xn xv xm xl xa) r.vs) (λi w=>l.length-i) 0 [] rfl rfl rfl rfl (λ_ _ _=>⟨rfl,rfl⟩) rfl ⟨by omega,rfl⟩ ?_
 repeat' first|refine st ?_|((with_reducible apply A4);conv=>whnf)|refine⟨λ_=>?_,λ_=>?_⟩|fail
 intro i w ⟨i1,i2⟩
 have hwl:w.length<=i:=by
  rw[i2]
  exact K4 (A0K ..) (by rw[M4];omega)
 have hw1:=U8 w
 have hwm:=X2 w
 have hbd:((B7 w).length+1)*24<=140737488355328:=by omega
 have happ:=λr=>show B7 (w++[r])=B7 w++[[r.d]] by rw[A8R];rfl
 obtain⟨A,hA⟩:∃z,z=B7 w:=⟨_,rfl⟩
 rw[<- hA] at hw1 hwm hbd ⊢
 cases hx:l[i]? with
 |some r=>
  have hlt:=(B4.1 hx).1
  have hil:(i:Int)<es.length:=by omega
  have e1:es[((i:Nat):Int).toNat]?=some [r.d]:=g1 i r hx
  have hT:=hT r (C3 hx)
  have hft:=D6w (p:=λr:Rw=>L9 (.mk xo xn xv xm xl xa) r.vs) hx
  rw[<- i2] at hft
  have happ:=happ r
  rw[<- hA] at happ
  have hne:(A++[[r.d]]).isEmpty=false:=by simp
  obtain⟨rd,hrd⟩:∃d,d=r.d:=⟨_,rfl⟩
  rw[<- hrd] at hT e1 happ hne
  unfold L9 at hft
  obtain⟨t,ht⟩:∃t,t=Q9 (ev r.vs (.mk xo xn xv xm xl xa)):=⟨_,rfl⟩
  rw[<- ht] at hT hft
  clear hrd ht i2 hx g1 hS ho
  by_cases h2:t=2
  ·rw[decide_eq_true h2,if_pos rfl] at hft
   subst h2
   repeat' first|refine st ?_|((with_reducible apply A4);conv=>whnf)|refine⟨λ_=>?_,λ_=>?_⟩|fail
   exact⟨i+1,w++[r],rfl,rfl,by rw[happ,hne];first|done|rfl|simp,by omega,by omega,hft.symm⟩
  ·rw[decide_eq_false h2,if_neg (by decide),U9] at hft
   repeat' first|refine st ?_|((with_reducible apply A4);conv=>whnf)|refine⟨λ_=>?_,λ_=>?_⟩|fail
   exact⟨i+1,w,rfl,rfl,by rw[hA];first|done|rfl,by omega,by omega,hft.symm⟩
 |none=>
  have hge:=E9.1 hx
  have hil:(es.length:Int)<=i:=by omega
  rw[H4 hge] at i2
  rw[<- i2] at hS
  obtain⟨b,hb⟩:∃b,b=A.isEmpty:=⟨_,rfl⟩
  rw[<- hA] at hS
  have hS:=hS (if b then .nil else .sl A) (by
   rw[hb]
   cases A with
   |nil=>exact .inl ⟨rfl,rfl⟩
   |cons a r=>exact .inr rfl)
  rw[<- hb]
  clear i2 hx g1 ho hT happ
  cases b
  all_goals skip
  all_goals repeat' first|refine st ?_|((with_reducible apply A4);conv=>whnf)|refine⟨λ_=>?_,λ_=>?_⟩|fail
  all_goals rfl
end Go.Proofs
end
